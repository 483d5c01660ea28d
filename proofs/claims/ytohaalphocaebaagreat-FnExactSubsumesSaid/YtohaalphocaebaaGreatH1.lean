/- Regions that draw their order, I: abstract states as functions, effects, and what an instruction does to them. -/
import Derived.WalkKit
import Derived.Orders
import Derived.KernelRfl
import Derived.IntWalk
import Derived.Laws.StructEq
import Derived.ChangeKeysEq
import Derived.MapKept
import Derived.ArgAppend
import Derived.Laws.OwnMore
set_option linter.all false
set_option maxHeartbeats 4000000
set_option maxRecDepth 4000
namespace Go
theorem bi{p:Prop}(h:p:=by simp only[aP,aG,aH,bW,b9];exact aN):p:=h
theorem bv{p:Prop}(h:p:=by first|exact cm _|exact cm ‹_› _):p:=h
theorem ci{p:Prop}(h:p:=by simp[aP,aG,aH]):p:=h
theorem co{p:Prop}(h:p:=by kernel_rfl):p:=h
theorem dl{p:Prop}(h:p:=by simp[inObs,Pv.look,aP,aG,aH]):p:=h
theorem d6{p:Prop}(h:p:=by simp[aB]):p:=h
theorem d7{p:Prop}(h:p:=by simp;omega):p:=h
theorem d8{p:Prop}(h:p:=by simp[aC,aB,inObs,Pv.look]):p:=h
theorem d9{p:Prop}(h:p:=by first|exact iE _|exact iE ‹_› _):p:=h
theorem f9{p:Prop}(h:p:=by simp[fresh,aC,aB,bP,inObs,Pv.look,gi]):p:=h
theorem gc{p:Prop}(h:p:=by simp[fresh,aC,aB,dt,inObs,Pv.look,gi]):p:=h
theorem ge{p:Prop}(h:p:=by simp only[gv,aG,aH,bW,b9];exact aN):p:=h
theorem go{p:Prop}(h:p:=by simp only[eQ,aG,aH,fD,e2,gR,hU,hV,hW,bW,b9];exact aN):p:=h
theorem gt{p:Prop}(h:p:=by simp[fresh,aC,aB,bP,inObs,Pv.look,bh]):p:=h
theorem g8{p:Prop}(h:p:=by simp[fresh,aC,aB,bP,inObs,Pv.look,ff]):p:=h
theorem g9{p:Prop}(h:p:=by simp[fresh,aC,aB,dt,inObs,Pv.look,ff]):p:=h
theorem Ω{p:Prop}(h:p:=by omega):p:=h
theorem Ψ{p:Prop}(h:p:=by simp):p:=h
end Go
open Array renaming getElem?_toList->uG
open BitVec renaming ofInt->qX
open Bool renaming and_eq_true->cy,eq_iff_iff->qY,false_eq_true->ho
open ByteArray renaming ext->arK,size->av9
open Go renaming Program->cI,TypeId->gu
open Go.ByteArray renaming toList_eq->arL
open Go.IntWalk renaming i64_in->pN
open Go.Op renaming bytesLess->hP
open Go.Region renaming wanted->pO
open Go.Result renaming andThen_ok->gf
open Go.Sem renaming run_bind->fZ,run_pure->gL
open Go.Value renaming cells->pP,ownBlock->oV
open Go.Value.pointer renaming injEq->awg
open Go.World.grownBy renaming refl->arO
open List renaming all_eq_true->jd,cons_append->bW,getElem?_eq_getElem->b6,getElem?_eq_none->qZ,getElem?_eq_some_iff->eV,getElem?_map->tk,length_append->pQ,length_cons->oX,length_drop->tl,length_map->oh,map_cons->gM,map_nil->mN,mem_append->kt,mem_cons->fT,mem_cons_of_mem->oY,mem_filter->oi,mem_map->iu,pairwise_cons->nz,replicate->rU,take->ku,take_length->je,take_of_length_le->hY
open List.cons renaming injEq->oW
open Nat renaming add_mul->qp,le_refl->fc,le_trans->kJ
open Ne renaming symm->lv
open Option renaming bind_some->ki,isSome_iff_exists->fL,isSome_none->jN,map_eq_some_iff->hf,map_some->o0
open Option.some renaming injEq->ea
open Prod.mk renaming injEq->jO
open _root_ renaming False->e8,UInt8->dw,beq_iff_eq->eb,congrArg->fh,decide_eq_true_eq->eW
namespace Go.Pv
section
open Go Go.RowKit
inductive aI where
 |loc (s:Nat)
 |obj (n:Nat)
 deriving DecidableEq,Inhabited
inductive z7 where
 |no
 |nil
 |own (k:aI)
 |tr (k:aI) (j:Nat)
 |lo (k:aI)
 deriving DecidableEq,Inhabited
inductive aj where
 |junk
 |int (k:IntKind) (n:Int)
 |bool (b:Bool)
 |str (s:List dw)
 |slice (sz:Nat) (tag:z7) (xs:List aj)
 |agg (cs:List aj)
 |ptr (key:aI) (off:Nat)
 |eptr (x:aj)
 |iface (t:Nat) (x:aj)
 |nilp
 |tuple (bf:List aj)
 |func (f:Nat) (di:List aj)
 |gmap (key:aI)
 |row (sz:Nat) (key:aI) (n:Nat)
 |rptr (sz:Nat) (key:aI) (n i f:Nat)
 |hdm (clock:Nat) (borns:List Nat)
 |hdi (since:Nat) (seen:List Nat) (last:Nat)
 |cst (v:Value)
 deriving Inhabited
structure bg where
 A:Nat->Nat->Prop
 bx:aI->Option Nat
 ow:aI->Option (Nat×Value)
 tr:aI->Nat->Nat->Prop
def lim:Nat:=68719476736
def mf(w:World)(A:Nat->Nat->Prop)(b:Nat):Nat->List Value->Prop
 |_,[]=>True
 |off,u::us=>(A b off/\w.cell? ⟨b,off,none⟩=some u)/\mf w A b (off+1) us
def shape(w:World)(b:Nat):Option (Nat×gu×(Nat×Nat)):=
 match w.heap[b]? with
 |some (.cells cur el fz)=>some (cur.size,el,fz)
 |_=>none
theorem xJ{w w':World}{b:Nat}(h:w'.heap[b]? =w.heap[b]?):shape w' b=shape w b:=by unfold shape;rw[h]
mutual
def gw(t:Bool)(w:World)(A:Nat->Nat->Prop)(F:Nat->Prop):aj->Value->Prop
 | .int k n,v=>v= .int k n
 | .bool b,v=>v= .bool b
 | .str s,v=>v= .string ⟨s.toArray⟩/\s.length<=lim
 | .slice sz _ xs,v=> ∃a cap,v= .slice a xs.length cap/\xs.length<=cap/\(cap<=maxLen/\xs.length<=lim)/\
   (xs=[]\/ ∃b off us G,a=some ⟨b,off,none⟩/\F b/\(∀c,G c->F c/\(t=true->c≠b))/\mf w A b off us/\(t=true->off=0/\0<us.length/\∃el,shape w b=some (cap*sz,el,(0,0)))/\vd t w A G sz xs us)
 | .agg cs,v=> ∃us:Array Value,v= .agg us/\ve t w A F cs us.toList
 |_,_=>e8
def ve(t:Bool)(w:World)(A:Nat->Nat->Prop)(F:Nat->Prop):List aj->List Value->Prop
 |[],us=>us=[]
 |c::cs,us=> ∃u ct iD iP,us=u::ct/\((∀b,iD b->F b)/\(∀b,iP b->F b)/\(t=true->∀b,iD b->¬iP b))/\(gw t w A iD c u/\u.oneCell'=true)/\ve t w A iP cs ct
def vd(t:Bool)(w:World)(A:Nat->Nat->Prop)(F:Nat->Prop)(sz:Nat):List aj->List Value->Prop
 |[],us=>us=[]
 |x::xs,us=> ∃u ct iD iP,us=u.cells.toList++ct/\((∀b,iD b->F b)/\(∀b,iP b->F b)/\(t=true->∀b,iD b->¬iP b))/\(gw t w A iD x u/\u.cells.size=sz/\(∀c∈u.cells.toList,c.oneCell'=true))/\vd t w A iP sz xs ct
end
mutual
def bd(w:World)(Z:bg):aj->Value->Prop
 | .junk,_=>True
 | .int k n,v=>v= .int k n
 | .bool b,v=>v= .bool b
 | .str s,v=>v= .string ⟨s.toArray⟩/\s.length<=lim
 | .slice sz tag xs,v=>
   (∃a cap,v= .slice a xs.length cap/\xs.length<=cap/\(cap<=maxLen/\xs.length<=lim)/\(xs=[]\/ ∃b off us,a=some ⟨b,off,none⟩/\mf w Z.A b off us/\dR w Z sz xs us))/\
   (tag= .nil->v= .slice none 0 0)/\
   (∀g,tag= .own g->∃n u,Z.ow g=some (n,u)/\xs.length<=n/\(xs.length=n->v=u))/\
   (∀k j,tag= .tr k j->gw true w Z.A (Z.tr k j) (.slice sz tag xs) v)/\(∀k,tag= .lo k->gw false w Z.A (Z.tr k 0) (.slice sz tag xs) v)
 | .agg cs,v=> ∃us:Array Value,v= .agg us/\dd w Z cs us.toList
 | .ptr key off,v=> ∃b,Z.bx key=some b/\v= .pointer (some ⟨b,off,none⟩)
 | .eptr x,v=> ∃b off u,v= .pointer (some ⟨b,off,none⟩)/\bd w Z x u/\mf w Z.A b off u.cells.toList
 | .iface t x,v=> ∃u,v= .iface t u/\bd w Z x u
 | .nilp,v=>v= .pointer none
 | .tuple bf,v=> ∃us:Array Value,v= .tuple us/\cY w Z bf us.toList
 | .func f di,v=> ∃us:Array Value,v= .func (.func f) #[] us/\cY w Z di us.toList
 | .gmap key,v=> ∃b,Z.bx key=some b/\v= .map (some b)
 | .row _ key n,v=>(∃b cap,v= .slice (some ⟨b,0,none⟩) n cap)/\n<=lim/\∃n' u,Z.ow key=some (n',u)/\n<=n'/\(n=n'->v=u)
 | .rptr sz key n i f,v=>(∃b o,v= .pointer (some ⟨b,o,none⟩))/\i<n/\∃n' u,Z.ow key=some (n',u)/\n<=n'/\(n=n'->∃b,u.ownBlock=some b/\v= .pointer (some ⟨b,i*sz+f,none⟩))
 | .hdm _ _,_=>e8
 | .hdi _ _ _,_=>e8
 | .cst c,v=>v=c
def dd(w:World)(Z:bg):List aj->List Value->Prop
 |[],us=>us=[]
 |c::cs,us=> ∃u ct,us=u::ct/\(bd w Z c u/\u.oneCell'=true)/\dd w Z cs ct
def cY(w:World)(Z:bg):List aj->List Value->Prop
 |[],us=>us=[]
 |c::cs,us=> ∃u ct,us=u::ct/\bd w Z c u/\cY w Z cs ct
def dR(w:World)(Z:bg)(sz:Nat):List aj->List Value->Prop
 |[],us=>us=[]
 |x::xs,us=> ∃u ct,us=u.cells.toList++ct/\(bd w Z x u/\u.cells.size=sz/\(∀c∈u.cells.toList,c.oneCell'=true))/\dR w Z sz xs ct
end
theorem Hy{w w':World}{A gz:Nat->Nat->Prop}{b:Nat}(bm:∀b o,A b o->gz b o/\w'.cell? ⟨b,o,none⟩=w.cell? ⟨b,o,none⟩):
  ∀(us:List Value) (off:Nat),mf w A b off us->mf w' gz b off us
 |[],_,_=>trivial
 |_::us,off,h=>⟨⟨(bm _ _ h.1.1).1,(bm _ _ h.1.1).2.trans h.1.2⟩,Hy bm us (off+1) h.2⟩
mutual
theorem Gw{t:Bool}{w w':World}{A gz:Nat->Nat->Prop}(bm:∀b o,A b o->gz b o/\w'.cell? ⟨b,o,none⟩=w.cell? ⟨b,o,none⟩)(ag:∀b o,A b o->shape w' b=shape w b):∀(p:aj) (F pS:Nat->Prop) (v:Value),(∀b,F b->pS b)->gw t w A F p v->gw t w' gz pS p v
 | .int k n,_,_,_,_,h=>by simp only[gw]at h⊢;exact h
 | .bool b,_,_,_,_,h=>by simp only[gw]at h⊢;exact h
 | .str s,_,_,_,_,h=>by simp only[gw]at h⊢;exact h
 | .slice sz tag xs,F,pS,v,hh,h=>by
  simp only[gw]at h⊢;obtain⟨a,cap,J,U,ar,a6⟩:=h;refine⟨a,cap,J,U,ar,?_⟩;rcases a6 with a6|⟨b,off,us,G,ak,aD,bh,dk,hy,h8⟩
  ·exact .inl a6
  ·refine .inr ⟨b,off,us,G,ak,hh _ aD,fun c aw=>⟨hh _ (bh c aw).1,(bh c aw).2⟩,Hy bm _ _ dk,fun aJ=>?_,Ui bm ag xs G G _ (fun _ h=>h) h8⟩;obtain⟨f1,f2,el,f3⟩:=hy aJ;refine⟨f1,f2,el,?_⟩;cases us with
   |nil=>simp at f2
   |cons u us=>rw[ag b off dk.1.1];exact f3
 | .agg cs,F,pS,v,hh,h=>by simp only[gw]at h⊢;obtain⟨us,J,U⟩:=h;exact⟨us,J,Uj bm ag cs F pS _ hh U⟩
 | .junk,_,_,_,_,h=>by simp[gw]at h
 | .ptr _ _,_,_,_,_,h=>by simp[gw]at h
 | .eptr _,_,_,_,_,h=>by simp[gw]at h
 | .iface _ _,_,_,_,_,h=>by simp[gw]at h
 | .nilp,_,_,_,_,h=>by simp[gw]at h
 | .tuple _,_,_,_,_,h=>by simp[gw]at h
 | .func _ _,_,_,_,_,h=>by simp[gw]at h
 | .gmap _,_,_,_,_,h=>by simp[gw]at h
 | .row _ _ _,_,_,_,_,h=>by simp[gw]at h
 | .rptr _ _ _ _ _,_,_,_,_,h=>by simp[gw]at h
 | .hdm _ _,_,_,_,_,h=>by simp[gw]at h
 | .hdi _ _ _,_,_,_,_,h=>by simp[gw]at h
 | .cst _,_,_,_,_,h=>by simp[gw]at h
theorem Uj{t:Bool}{w w':World}{A gz:Nat->Nat->Prop}(bm:∀b o,A b o->gz b o/\w'.cell? ⟨b,o,none⟩=w.cell? ⟨b,o,none⟩)(ag:∀b o,A b o->shape w' b=shape w b):∀(cs:List aj) (F pS:Nat->Prop) (us:List Value),(∀b,F b->pS b)->ve t w A F cs us->ve t w' gz pS cs us
 |[],_,_,_,_,h=>by simp only[ve]at h⊢;exact h
 |c::cs,F,pS,us,hh,h=>by simp only[ve]at h⊢;obtain⟨u,ct,iD,iP,J,⟨U,ar,a6⟩,⟨b0,df⟩,eB⟩:=h;exact⟨u,ct,iD,iP,J,⟨fun b af=>hh _ (U b af),fun b af=>hh _ (ar b af),a6⟩,⟨Gw bm ag c iD iD u (fun _ h=>h) b0,df⟩,Uj bm ag cs iP iP ct (fun _ h=>h) eB⟩
theorem Ui{t:Bool}{w w':World}{A gz:Nat->Nat->Prop}(bm:∀b o,A b o->gz b o/\w'.cell? ⟨b,o,none⟩=w.cell? ⟨b,o,none⟩)(ag:∀b o,A b o->shape w' b=shape w b){sz:Nat}:∀(cs:List aj) (F pS:Nat->Prop) (us:List Value),(∀b,F b->pS b)->vd t w A F sz cs us->vd t w' gz pS sz cs us
 |[],_,_,_,_,h=>by simp only[vd]at h⊢;exact h
 |c::cs,F,pS,us,hh,h=>by simp only[vd]at h⊢;obtain⟨u,ct,iD,iP,J,⟨U,ar,a6⟩,⟨b0,df⟩,eB⟩:=h;exact⟨u,ct,iD,iP,J,⟨fun b af=>hh _ (U b af),fun b af=>hh _ (ar b af),a6⟩,⟨Gw bm ag c iD iD u (fun _ h=>h) b0,df⟩,Ui bm ag cs iP iP ct (fun _ h=>h) eB⟩
end
mutual
def aB(S:aI->Prop):aj->Prop
 | .slice _ tag xs=>(match tag with| .own k=>S k| .tr k _=>S k| .lo k=>S k|_=>True)/\aC S xs
 | .agg cs=>aC S cs
 | .ptr k _=>S k
 | .eptr x=>aB S x
 | .iface _ x=>aB S x
 | .tuple bf=>aC S bf
 | .func _ di=>aC S di
 | .gmap k=>S k
 | .row _ k _=>S k
 | .rptr _ k _ _ _=>S k
 |_=>True
def aC(S:aI->Prop):List aj->Prop
 |[]=>True
 |x::xs=>aB S x/\aC S xs
end
mutual
theorem xh{S T:aI->Prop}(h:∀k,S k->T k):∀p:aj,aB S p->aB T p
 | .junk,_=>by simp[aB]
 | .int _ _,_=>by simp[aB]
 | .bool _,_=>by simp[aB]
 | .str _,_=>by simp[aB]
 | .slice sz tag xs,bF=>by simp only[aB]at bF⊢;exact⟨by cases tag<;>first|trivial|exact h _ bF.1,km h xs bF.2⟩
 | .agg cs,bF=>by simp only[aB]at bF⊢;exact km h cs bF
 | .ptr k _,bF=>by simp only[aB]at bF⊢;exact h _ bF
 | .eptr x,bF=>by simp only[aB]at bF⊢;exact xh h x bF
 | .iface _ x,bF=>by simp only[aB]at bF⊢;exact xh h x bF
 | .nilp,_=>by simp[aB]
 | .tuple bf,bF=>by simp only[aB]at bF⊢;exact km h bf bF
 | .func _ di,bF=>by simp only[aB]at bF⊢;exact km h di bF
 | .gmap k,bF=>by simp only[aB]at bF⊢;exact h _ bF
 | .row _ k _,bF=>by simp only[aB]at bF⊢;exact h _ bF
 | .rptr _ k _ _ _,bF=>by simp only[aB]at bF⊢;exact h _ bF
 | .hdm _ _,_=>by simp[aB]
 | .hdi _ _ _,_=>by simp[aB]
 | .cst _,_=>by simp[aB]
theorem km{S T:aI->Prop}(h:∀k,S k->T k):∀b1:List aj,aC S b1->aC T b1
 |[],_=>by simp[aC]
 |x::xs,bF=>by simp only[aC]at bF⊢;exact⟨xh h x bF.1,km h xs bF.2⟩
end
mutual
theorem Hv:∀p:aj,aB (fun _=>True) p
 | .junk=>by simp[aB]
 | .int _ _=>by simp[aB]
 | .bool _=>by simp[aB]
 | .str _=>by simp[aB]
 | .slice sz tag xs=>by simp only[aB];exact⟨by cases tag<;>trivial,vD xs⟩
 | .agg cs=>by simp only[aB];exact vD cs
 | .ptr k _=>by simp[aB]
 | .eptr x=>by simp only[aB];exact Hv x
 | .iface _ x=>by simp only[aB];exact Hv x
 | .nilp=>by simp[aB]
 | .tuple bf=>by simp only[aB];exact vD bf
 | .func _ di=>by simp only[aB];exact vD di
 | .gmap k=>by simp[aB]
 | .row _ k _=>by simp[aB]
 | .rptr _ k _ _ _=>by simp[aB]
 | .hdm _ _=>by simp[aB]
 | .hdi _ _ _=>by simp[aB]
 | .cst _=>by simp[aB]
theorem vD:∀b1:List aj,aC (fun _=>True) b1
 |[]=>by simp[aC]
 |x::xs=>by simp only[aC];exact⟨Hv x,vD xs⟩
end
def fN:List Nat->List Value->List MapEntry
 |b::e7,k::v::r=>⟨k,v,b⟩::fN e7 r
 |_,_=>[]
def kc(cs:List aj)(us:Array Value)(el:gu):Obj:=
 match cs with
 | .hdm clock borns::_=>.map (fN borns us.toList).toArray clock
 | .hdi since seen last::_=>.mapIter (match us.toList with|[.map m]=>m|_=>none) since seen.toArray last
 |_=>.cells us el
structure akn (clock:Nat) (borns:List Nat) (r:List aj):Prop where
 len:r.length=2*borns.length
 inc:borns.Pairwise (· < ·)
 lt:∀b∈borns,b<clock
def jJ(w:World)(Z:bg)(cs:List aj)(us:List Value):Prop:=
 match cs with
 | .hdm clock borns::r=>cY w Z r us/\akn clock borns r
 | .hdi _ _ _::r=>cY w Z r us
 |cs=>dd w Z cs us
def gr:List aj->Bool
 | .hdm _ _::_=>false
 | .hdi _ _ _::_=>false
 |_=>true
theorem Ca{w:World}{Z:bg}{cs:List aj}{us:List Value}(h:dd w Z cs us):gr cs=true:=by
 unfold gr;split
 ·simp only[dd,bd]at h;obtain⟨_,_,_,⟨h,_⟩,_⟩:=h;exact h.elim
 ·simp only[dd,bd]at h;obtain⟨_,_,_,⟨h,_⟩,_⟩:=h;exact h.elim
 ·rfl
theorem vQ{cs:List aj}(h:gr cs=true)(us:Array Value)(el:gu):kc cs us el= .cells us el:=by
 unfold gr at h;unfold kc;split at h<;>first|cases h|skip
 rfl
theorem vR{w:World}{Z:bg}{cs:List aj}(h:gr cs=true)(us:List Value):jJ w Z cs us=dd w Z cs us:=by
 unfold gr at h;unfold jJ;split at h<;>first|cases h|skip
 rfl
structure pU (S:aI->Prop) (w:World) (Z:bg) (w':World) (bt:bg):Prop where
 A:∀b o,Z.A b o->bt.A b o/\w'.cell? ⟨b,o,none⟩=w.cell? ⟨b,o,none⟩
 bx:∀k b,S k->Z.bx k=some b->bt.bx k=some b
 ow:∀g n u,S g->Z.ow g=some (n,u)->∃n' e6,bt.ow g=some (n',e6)/\(n'=n/\e6=u\/n<n')
 sh:∀b o,Z.A b o->shape w' b=shape w b
 tr:∀k j b,S k->Z.tr k j b->bt.tr k j b
abbrev lU:=pU (fun _=>True)
mutual
theorem vY{S:aI->Prop}{w w':World}{Z bt:bg}(ay:pU S w Z w' bt):∀(p:aj) (v:Value),aB S p->bd w Z p v->bd w' bt p v
 | .junk,_,_,_=>by simp[bd]
 | .int k n,_,_,h=>by simp only[bd]at h⊢;exact h
 | .bool b,_,_,h=>by simp only[bd]at h⊢;exact h
 | .str s,_,_,h=>by simp only[bd]at h⊢;exact h
 | .slice sz tag xs,v,ad,h=>by
  simp only[bd,aB]at h ad⊢;obtain⟨⟨a,cap,J,U,ar,a6⟩,b0,df,oB,tH⟩:=h;refine⟨⟨a,cap,J,U,ar,?_⟩,b0,fun g a7=>?_,fun k j oD=>?_,fun k oD=>?_⟩
  ·rcases a6 with a6|⟨b,off,us,a6,df,eB⟩
   ·exact .inl a6
   ·exact .inr ⟨b,off,us,a6,Hy ay.A _ _ df,IB ay sz xs us ad.2 eB⟩
  ·obtain⟨n,u,ak,aD,bh⟩:=df g a7;subst a7;obtain⟨n',e6,f1,f2⟩:=ay.ow g n u ad.1 ak;refine⟨n',e6,f1,?_⟩;rcases f2 with⟨rfl,rfl⟩|f2
   ·exact⟨aD,bh⟩
   ·exact⟨Ω,fun e=>Ω⟩
  ·have:=oB k j oD;subst oD;exact Gw ay.A ay.sh _ _ _ _ (fun b=>ay.tr k j b ad.1) this
  ·have:=tH k oD;subst oD;exact Gw ay.A ay.sh _ _ _ _ (fun b=>ay.tr k 0 b ad.1) this
 | .agg cs,v,ad,h=>by simp only[bd,aB]at h ad⊢;obtain⟨us,J,U⟩:=h;exact⟨us,J,IE ay cs _ ad U⟩
 | .ptr key off,v,ad,h=>by simp only[bd,aB]at h ad⊢;obtain⟨b,J,U⟩:=h;exact⟨b,ay.bx _ _ ad J,U⟩
 | .iface t x,v,ad,h=>by simp only[bd,aB]at h ad⊢;obtain⟨u,J,U⟩:=h;exact⟨u,J,vY ay x u ad U⟩
 | .eptr x,v,ad,h=>by simp only[bd,aB]at h ad⊢;obtain⟨b,off,u,J,U,ar⟩:=h;exact⟨b,off,u,J,vY ay x u ad U,Hy ay.A _ _ ar⟩
 | .nilp,_,_,h=>by simp only[bd]at h⊢;exact h
 | .tuple bf,v,ad,h=>by simp only[bd,aB]at h ad⊢;obtain⟨us,J,U⟩:=h;exact⟨us,J,zC ay bf _ ad U⟩
 | .func f di,v,ad,h=>by simp only[bd,aB]at h ad⊢;obtain⟨us,J,U⟩:=h;exact⟨us,J,zC ay di _ ad U⟩
 | .gmap key,v,ad,h=>by simp only[bd,aB]at h ad⊢;obtain⟨b,J,U⟩:=h;exact⟨b,ay.bx _ _ ad J,U⟩
 | .row sz key n,v,ad,h=>by
  simp only[bd,aB]at h ad⊢;obtain⟨J,U,n',u,ar,a6,b0⟩:=h;obtain⟨gC,jV,f1,f2⟩:=ay.ow key n' u ad ar;refine⟨J,U,gC,jV,f1,?_⟩;rcases f2 with⟨rfl,rfl⟩|f2
  ·exact⟨a6,b0⟩
  ·exact⟨Ω,fun e=>Ω⟩
 | .rptr sz key n i f,v,ad,h=>by
  simp only[bd,aB]at h ad⊢;obtain⟨J,U,n',u,ar,a6,b0⟩:=h;obtain⟨gC,jV,f1,f2⟩:=ay.ow key n' u ad ar;refine⟨J,U,gC,jV,f1,?_⟩;rcases f2 with⟨rfl,rfl⟩|f2
  ·exact⟨a6,b0⟩
  ·exact⟨Ω,fun e=>Ω⟩
 | .hdm _ _,_,_,h=>by simp only[bd]at h
 | .hdi _ _ _,_,_,h=>by simp only[bd]at h
 | .cst c,_,_,h=>by simp only[bd]at h⊢;exact h
theorem IE{S:aI->Prop}{w w':World}{Z bt:bg}(ay:pU S w Z w' bt):∀(cs:List aj) (us:List Value),aC S cs->dd w Z cs us->dd w' bt cs us
 |[],_,_,h=>by simp only[dd]at h⊢;exact h
 |c::cs,us,ad,h=>by simp only[dd,aC]at h ad⊢;obtain⟨u,ct,J,U,ar⟩:=h;exact⟨u,ct,J,⟨vY ay c u ad.1 U.1,U.2⟩,IE ay cs ct ad.2 ar⟩
theorem zC{S:aI->Prop}{w w':World}{Z bt:bg}(ay:pU S w Z w' bt):∀(cs:List aj) (us:List Value),aC S cs->cY w Z cs us->cY w' bt cs us
 |[],_,_,h=>by simp only[cY]at h⊢;exact h
 |c::cs,us,ad,h=>by simp only[cY,aC]at h ad⊢;obtain⟨u,ct,J,U,ar⟩:=h;exact⟨u,ct,J,vY ay c u ad.1 U,zC ay cs ct ad.2 ar⟩
theorem IB{S:aI->Prop}{w w':World}{Z bt:bg}(ay:pU S w Z w' bt)(sz:Nat):∀(xs:List aj) (us:List Value),aC S xs->dR w Z sz xs us->dR w' bt sz xs us
 |[],_,_,h=>by simp only[dR]at h⊢;exact h
 |x::xs,us,ad,h=>by simp only[dR,aC]at h ad⊢;obtain⟨u,ct,J,⟨U,ar,a6⟩,b0⟩:=h;exact⟨u,ct,J,⟨vY ay x u ad.1 U,ar,a6⟩,IB ay sz xs ct ad.2 b0⟩
end
theorem Y8{S:aI->Prop}{w w':World}{Z bt:bg}(ay:pU S w Z w' bt){cs:List aj}{us:List Value}(ad:aC S cs)(h:jJ w Z cs us):jJ w' bt cs us:=by
 unfold jJ at h⊢;split
 ·simp only[aC]at ad;exact⟨zC ay _ _ ad.2 h.1,h.2⟩
 ·simp only[aC]at ad;exact zC ay _ _ ad.2 h
 ·rename_i J U;split at h
  ·exact absurd rfl (J _ _ _)
  ·exact absurd rfl (U _ _ _ _)
  ·exact IE ay _ _ ad h
section
variable {w w':World} {Z bt:bg} (ay:lU w Z w' bt)
include ay
theorem zD{p:aj}{v:Value}(h:bd w Z p v):bd w' bt p v:=vY ay p v (Hv p) h
theorem Zd{p:List aj}{v:List Value}(h:dd w Z p v):dd w' bt p v:=IE ay p v (vD p) h
theorem IH{p:List aj}{v:List Value}(h:cY w Z p v):cY w' bt p v:=zC ay p v (vD p) h
theorem qP{p:List aj}{v:List Value}(h:jJ w Z p v):jJ w' bt p v:=Y8 ay (vD p) h
theorem B7{sz:Nat}{p:List aj}{v:List Value}(h:dR w Z sz p v):dR w' bt sz p v:=IB ay sz p v (vD p) h
end
end
section
open Go Go.RowKit
def get(k:Nat):List (Nat×aj)->aj
 |[]=>.junk
 |(i,p)::r=>if i=k then p else get k r
def put(k:Nat)(p:aj):List (Nat×aj)->List (Nat×aj)
 |[]=>[(k,p)]
 |(i,q)::r=>if i=k then(i,p)::r else(i,q)::put k p r
def look{α:Type}(k:aI):List (aI×α)->Option α
 |[]=>none
 |(i,p)::r=>if i=k then some p else look k r
def cA{α:Type}(k:aI)(p:α):List (aI×α)->List (aI×α)
 |[]=>[(k,p)]
 |(i,q)::r=>if i=k then(i,p)::r else(i,q)::cA k p r
theorem p7(k j:Nat)(p:aj):∀l,get j (put k p l)=if k=j then p else get j l
 |[]=>by simp[get,put]
 |(i,q)::r=>by
  by_cases h:i=k
  ·subst h;by_cases U:i=j<;>simp[get,put,U]
  ·by_cases U:i=j
   ·subst U;simp[get,put,h,lv h]
   ·simp[get,put,h,U,p7 k j p r]
theorem jt{α:Type}(k j:aI)(p:α):∀l,look j (cA k p l)=if k=j then some p else look j l
 |[]=>by simp[look,cA]
 |(i,q)::r=>by
  by_cases h:i=k
  ·subst h;by_cases U:i=j<;>simp[look,cA,U]
  ·by_cases U:i=j
   ·subst U;simp[look,cA,h,lv h]
   ·simp[look,cA,h,U,jt k j p r]
structure gg where
 n:Nat
 el:Nat
 sz:Nat
 xs:Option (List aj)
def OW(w:World)(Z:bg)(o:gg)(v:Value)(us:List Value):Prop:=∀xs,o.xs=some xs->xs.length=o.n/\dR w Z o.sz xs us/\∀bl,v.ownBlock=some bl->∀j,¬Z.A bl j
theorem s6{w w':World}{Z bt:bg}(ay:lU w Z w' bt){o:gg}{v:Value}{us:List Value}(bm:∀bl,v.ownBlock=some bl->∀j,bt.A bl j->Z.A bl j)(h:OW w Z o v us):OW w' bt o v us:=fun xs ab=>⟨(h xs ab).1,B7 ay (h xs ab).2.1,fun bl af j ae=>(h xs ab).2.2 bl af j (bm bl af j ae)⟩
def dt(S:aI->Prop)(o:gg):Prop:= ∀xs,o.xs=some xs->aC S xs
structure bu where
 t:List (Nat×aj)
 b:List (aI×List aj)
 e:List (aI×gg)
 n:Nat
 o:List aI
def fresh(n:Nat)(o:List aI)(k:aI):Prop:=(match k with| .loc m=>n<=m| .obj _=>True)/\k∉o
theorem Lg{n n':Nat}{o o':List aI}(ax:n<=n')(ay:∀k∈o,k∈o'){k:aI}(h:fresh n' o' k):fresh n o k:=by unfold fresh at h⊢;exact⟨by cases k<;>simp at h⊢;omega,fun ad=>h.2 (ay k ad)⟩
def Ps(Z:bg)(b:List (aI×List aj))(e:List (aI×gg))(bl:Nat):Prop:=(∃k,(look k b).isSome/\Z.bx k=some bl)\/(∃g n v,(look g e).isSome/\Z.ow g=some (n,v)/\v.ownBlock=some bl)
structure Good (pr:Nat->Prop) (w:World) (Z:bg) (b:List (aI×List aj)) (e:List (aI×gg)):Prop where
 alt:∀bl o,Z.A bl o->bl<w.heap.size
 box:∀k cs,look k b=some cs->∃bl us el,Z.bx k=some bl/\pr bl/\(∀o,¬Z.A bl o)/\w.heap[bl]? =some (kc cs us el)/\jJ w Z cs us.toList
 inj:∀k bJ bl,(look k b).isSome->(look bJ b).isSome->Z.bx k=some bl->Z.bx bJ=some bl->k=bJ
 own:∀g o,look g e=some o->∃v us,Z.ow g=some (o.n,v)/\w.ownsRow 0 o.el o.sz v o.n us/\(∀bl,v.ownBlock=some bl->pr bl/\(∀j,Z.A bl j->j<o.n*o.sz))/\OW w Z o v us
 oinj:∀g fv n n' v v' bl,(look g e).isSome->(look fv e).isSome->Z.ow g=some (n,v)->Z.ow fv=some (n',v')->v.ownBlock=some bl->v'.ownBlock=some bl->g=fv
 obx:∀g k n v bl,(look g e).isSome->(look k b).isSome->Z.ow g=some (n,v)->v.ownBlock=some bl->Z.bx k=some bl->e8
 one:∀k,Z.bx k=none\/Z.ow k=none
 otr:∀bl,Ps Z b e bl->∀k j,¬Z.tr k j bl
structure fu where
 w0:World
 Z0:bg
 mt:Nat->Prop
 N:Nat
 ob:List aI
def fu.pr(C:fu)(bl:Nat):Prop:=C.mt bl\/C.w0.heap.size<=bl
def ao6:aI:= .obj 990001
def fX:aI:= .obj 990002
structure q1 (C:fu) (w:World) (Z:bg):Prop where
 os:w.os=C.w0.os
 tape:w.tape=C.w0.tape
 output:w.output=C.w0.output
 size:C.w0.heap.size<=w.heap.size
 block:∀k,k<C.w0.heap.size->¬C.mt k->w.heap[k]? =C.w0.heap[k]?
 keep:∀b o,C.Z0.A b o->Z.A b o/\w.cell? ⟨b,o,none⟩=C.w0.cell? ⟨b,o,none⟩
 fresh:∀b o,Z.A b o->C.Z0.A b o\/C.pr b
 obj:∀n b,C.Z0.bx (.obj n)=some b->Z.bx (.obj n)=some b
 obn:∀n b,C.Z0.bx (.obj n)=some b-> .obj n∈C.ob
 row:∀m n u,C.Z0.ow (.obj m)=some (n,u)->∃n' e6,Z.ow (.obj m)=some (n',e6)/\(n'=n/\e6=u\/n<n')
 obr:∀m n u,C.Z0.ow (.obj m)=some (n,u)-> .obj m∈C.ob
 trd:∀k j bJ dT b,Z.tr k j b->Z.tr bJ dT b->k=bJ/\j=dT
 trb:∀k j b,Z.tr k j b->(k=ao6\/C.w0.heap.size<=b)/\b<w.heap.size
 trn:∀k j b,Z.tr k j b->Z.bx k=none/\Z.ow k=none
 sh:∀b o,C.Z0.A b o->shape w b=shape C.w0 b
theorem EN{Z bt:bg}{g:aI}{n:Nat}{u:Value}(h:∃n' e6,Z.ow g=some (n',e6)/\(n'=n/\e6=u\/n<n'))(ay:∀n u,Z.ow g=some (n,u)->∃n' e6,bt.ow g=some (n',e6)/\(n'=n/\e6=u\/n<n')):
  ∃n' e6,bt.ow g=some (n',e6)/\(n'=n/\e6=u\/n<n'):=by
 obtain⟨iA,iO,ak,aD⟩:=h;obtain⟨gC,jV,f1,f2⟩:=ay iA iO ak;refine⟨gC,jV,f1,?_⟩;rcases aD with⟨rfl,rfl⟩|aD
 ·exact f2
 ·rcases f2 with⟨rfl,rfl⟩|f2
  ·exact .inr aD
  ·exact .inr Ω
structure c0 (C:fu) (st:bu) (a:Act) (w:World) (Z:bg):Prop where
 good:Good C.pr w Z st.b st.e
 fr:q1 C w Z
 defers:a.defers=[]
 size:a.tmps.size=C.N
 slot:∀i,bd w Z (get i st.t) (a.tmps.getD i undef)
 new:∀k,fresh st.n st.o k->Z.bx k=none/\Z.ow k=none/\∀j b,¬Z.tr k j b
def e4(d:Option Nat)(p:aj)(t:List (Nat×aj)):List (Nat×aj):=
 match d with
 |some d=>put d p t
 |none=>t
def jQ(N:Nat)(d:Option Nat):Bool:=match d with|some d=>decide (d<N)|none=>true
theorem c0.put{C:fu}{st:bu}{a:Act}{w:World}{Z:bg}(h:c0 C st a w Z){d:Option Nat}(aR:jQ C.N d=true){p:aj}{v:Value}(bF:bd w Z p v):
  c0 C {st with t:=e4 d p st.t} (a.put d v) w Z:=by
 cases d with
 |none=>exact h
 |some d=>
  have bE:d<a.tmps.size:=by rw[h.size];simpa[jQ]using aR
  refine⟨h.good,h.fr,h.defers,by simpa[Act.put]using h.size,fun i=>?_,h.new⟩;simp only[e4,p7];by_cases e:d=i
  ·subst e;simpa[Act.put,Array.getD_eq_getD_getElem?,bE]using bF
  ·have:=h.slot i;simpa[e,Act.put,Array.getD_eq_getD_getElem?,Array.getElem?_setIfInBounds_ne e]using this
theorem c0.over{C:fu}{st st':bu}{a:Act}{w w':World}{Z bt:bg}(h:c0 C st a w Z)(ay:lU w Z w' bt)(aJ:st'.t=st.t)(a7:Good C.pr w' bt st'.b st'.e)(aK:q1 C w' bt)
  (ax:∀k,fresh st'.n st'.o k->bt.bx k=none/\bt.ow k=none/\∀j b,¬bt.tr k j b):c0 C st' a w' bt:=
 ⟨a7,aK,h.defers,h.size,fun i=>by rw[aJ];exact zD ay (h.slot i),ax⟩
inductive dF where
 |t (i:Nat)
 |c (p:aj)
 deriving Inhabited
def cv(t:List (Nat×aj)):dF->aj
 | .t i=>get i t
 | .c p=>p
def FM:aj->Value->Bool
 | .int k n,.int bJ n'=>decide (k=bJ/\n=n')
 | .bool b,.bool b4=>b==b4
 | .str s,.string l=>decide (l.data.toList=s/\s.length<=lim)
 | .slice _ .nil [],.slice none 0 0=>true
 | .nilp,.pointer none=>true
 | .tuple [],.tuple ⟨[]⟩=>true
 | .func f [],.func (.func g) ⟨[]⟩ ⟨[]⟩=>f==g
 | .junk,_=>true
 |_,_=>false
theorem QX(w:World)(Z:bg){p:aj}{v:Value}(h:FM p v=true):bd w Z p v:=by
 unfold FM at h;split at h
 ·simp at h;obtain⟨rfl,rfl⟩:=h;simp[bd]
 ·simp at h;subst h;simp[bd]
 ·rename_i s l;simp at h;obtain⟨J,U⟩:=h;refine⟨?_,U⟩;subst J;simp
 ·simp only[bd];refine⟨⟨none,0,rfl,Ψ,Ψ,Ψ⟩,Ψ,(fun _ h=>by cases h),(fun _ _ h=>by cases h),(fun _ h=>by cases h)⟩
 ·simp[bd]
 ·simp[bd,cY]
 ·simp at h;subst h;simp[bd,cY]
 ·simp[bd]
 ·cases h
def Ah:List aj->List Value->Bool
 |[],[]=>true
 |p::b1,v::bf=>FM p v&&v.oneCell'&&Ah b1 bf
 |_,_=>false
def Ag:aj->Value->Bool
 | .agg cs,.agg us=>Ah cs us.toList
 |p,v=>FM p v
theorem QY(w:World)(Z:bg):∀(b1:List aj) (bf:List Value),Ah b1 bf=true->dd w Z b1 bf
 |[],[],_=>by simp[dd]
 |[],_::_,h=>by simp[Ah]at h
 |_::_,[],h=>by simp[Ah]at h
 |p::b1,v::bf,h=>by simp only[Ah,cy]at h;simp only[dd];exact⟨v,bf,rfl,⟨QX w Z h.1.1,h.1.2⟩,QY w Z b1 bf h.2⟩
theorem J6(w:World)(Z:bg){p:aj}{v:Value}(h:Ag p v=true):bd w Z p v:=by
 unfold Ag at h;split at h
 ·simp only[bd];exact⟨_,rfl,QY w Z _ _ h⟩
 ·exact QX w Z h
def eD:dF->Operand->Bool
 | .t i,.tmp j=>i==j
 | .c p,.const v=>Ag p v
 | .c (.func f []),.func g=>f==g
 |_,_=>false
theorem eE{C:fu}{st:bu}{a:Act}{w:World}{Z:bg}(h:c0 C st a w Z){x:dF}{o:Operand}(ab:eD x o=true):bd w Z (cv st.t x) (a.eval o):=by
 unfold eD at ab;split at ab
 ·simp at ab;subst ab;simpa[cv,Act.eval]using h.slot _
 ·simpa[cv,Act.eval]using J6 w Z ab
 ·simp at ab;subst ab;simp[cv,Act.eval,bd,cY]
 ·cases ab
inductive CD where
 |int (k:IntKind)
 |bool
 |str
 |slice (e:Nat)
 |struct (ee:List (Nat×Nat))
 |map (k e:Nat)
 |other
 deriving DecidableEq
structure dN where
 size:Nat
 bytes:Nat
 kind:CD
 zero:aj
def CD.isAgg:CD->Bool
 | .struct _=>true
 |_=>false
def Cu:List aj->List Value->Bool
 |[],[]=>true
 |p::b1,v::bf=>Ag p v&&v.oneCell'&&Cu b1 bf
 |_,_=>false
def zW:aj->Value->Bool
 | .agg cs,.agg us=>Cu cs us.toList
 | .agg _,_=>false
 |p,v=>Ag p v&&v.oneCell'
def kA:CD->TypeDesc->Bool
 | .int k,.int bJ=>decide (k=bJ)
 | .bool,.bool=>true
 | .str,.string=>true
 | .slice e,.slice fj=>e==fj
 | .struct ee,.struct gs=>decide (gs.toList.map (fun f=>(f.offset,f.type))=ee)
 | .map k e,.map bJ fj=>k==bJ&&e==fj
 | .other,d=>match d with| .struct _| .array _ _| .int _| .bool| .string| .slice _=>false|_=>true
 |_,_=>false
def Ua(P:cI)(gs:Array Field):Bool:=gs.toList.all fun f=>match P.underlying f.type with|some (.int _)=>true|some .string=>true|_=>false
def Tm(P:cI)(t:Nat)(gs:Array Field):Bool:=gs.toList.all (fun f=>f.name != "_")&& !P.stoodInHeld t&& !P.eqGuardType P.depth t
def Ky(P:cI)(t:Nat):TypeDesc->Bool
 | .struct gs=> !Ua P gs||Tm P t gs
 |_=>true
def PA(P:cI)(t:Nat)(f:dN):Bool:=
 match P.info? t,P.underlying t with
 |some i,some d=>Ky P t d&&i.size==f.size&&i.bytes==f.bytes&&kA f.kind d&&(match i.zero with|some z=>zW f.zero z&&z.cells.size==f.size|none=>false)
 |_,_=>false
def fY(P:cI)(bG:List (Nat×dN)):Bool:=bG.all fun x=>PA P x.1 x.2
def eu(bG:List (Nat×dN))(t:Nat):Option dN:=(bG.find? fun x=>x.1==t).map (·.2)
theorem ap3{P:cI}{bG:List (Nat×dN)}(h:fY P bG=true){t:Nat}{f:dN}(aK:eu bG t=some f):PA P t f=true:=by
 unfold eu at aK;cases ab:bG.find? fun x=>x.1==t with
 |none=>simp[ab]at aK
 |some x=>simp[ab]at aK;have J:=List.find?_some ab;simp at J;have U:=List.mem_of_find?_eq_some ab;have ar:=jd.1 h x U;rw[<-aK,<-J];exact ar
structure aby (P:cI) (t:Nat) (f:dN):Prop where
 cmp:∀d,P.underlying t=some d->Ky P t d=true
 ex:∃i d z,P.info? t=some i/\P.underlying t=some d/\i.size=f.size/\i.bytes=f.bytes/\kA f.kind d=true/\i.zero=some z/\zW f.zero z=true/\z.cells.size=f.size
theorem wi{P:cI}{bG:List (Nat×dN)}(h:fY P bG=true){t:Nat}{f:dN}(aK:eu bG t=some f):aby P t f:=by
 have h:=ap3 h aK;unfold PA at h;split at h
 ·rename_i i d J U;simp only[cy,eb]at h;obtain⟨⟨⟨⟨br,ar⟩,a6⟩,b0⟩,df⟩:=h;split at df
  ·rename_i z bz;simp only[cy,eb]at df;exact⟨fun cd k9=>by rw[U]at k9;cases k9;exact br,i,d,z,J,U,ar,a6,b0,bz,df.1,df.2⟩
  ·cases df
 ·cases h
theorem pW(b o j:Nat):(⟨b,o,none⟩:Addr).add j=⟨b,o+j,none⟩:=by
 unfold Addr.add;split
 ·rename_i h;subst h;rfl
 ·rfl
theorem P3(w:World)(Z:bg):∀(b1:List aj) (bf:List Value),Cu b1 bf=true->dd w Z b1 bf
 |[],[],_=>by simp[dd]
 |[],_::_,h=>by simp[Cu]at h
 |_::_,[],h=>by simp[Cu]at h
 |p::b1,v::bf,h=>by simp only[Cu,cy]at h;simp only[dd];exact⟨v,bf,rfl,⟨J6 w Z h.1.1,h.1.2⟩,P3 w Z b1 bf h.2⟩
def cells:aj->List aj
 | .agg cs=>cs
 |p=>[p]
def eT:aj->Bool
 | .junk| .tuple _=>false
 | .cst (.slice _ _ _)| .cst (.string _)=>true
 | .cst _=>false
 |_=>true
theorem OU{w:World}{Z:bg}{p:aj}{v:Value}(h:bd w Z p v)(ag:eT p=true)(bD:∀cs,p≠ .agg cs):v.oneCell'=true/\v.cells= #[v]:=by
 cases p<;>simp only[bd,eT]at h ag;case junk=>cases ag
 case tuple=>cases ag
 case cst c=>subst h;cases v<;>first|exact⟨rfl,rfl⟩|cases ag
 case agg cs=>exact absurd rfl (bD cs)
 case int=>subst h;exact⟨rfl,rfl⟩
 case bool=>subst h;exact⟨rfl,rfl⟩
 case str=>rw[h.1];exact⟨rfl,rfl⟩
 case slice=>obtain⟨⟨a,cap,J,_⟩,_⟩:=h;subst J;exact⟨rfl,rfl⟩
 case ptr=>obtain⟨b,_,J⟩:=h;subst J;exact⟨rfl,rfl⟩
 case eptr=>obtain⟨b,o,u,J,_⟩:=h;subst J;exact⟨rfl,rfl⟩
 case iface=>obtain⟨u,J,_⟩:=h;subst J;exact⟨rfl,rfl⟩
 case nilp=>subst h;exact⟨rfl,rfl⟩
 case func=>obtain⟨us,J,_⟩:=h;subst J;exact⟨rfl,rfl⟩
 case gmap=>obtain⟨b,_,J⟩:=h;subst J;exact⟨rfl,rfl⟩
 case row=>obtain⟨⟨a,cap,J⟩,_⟩:=h;subst J;exact⟨rfl,rfl⟩
 case rptr=>obtain⟨⟨a,o,J⟩,_⟩:=h;subst J;exact⟨rfl,rfl⟩
theorem vX{w:World}{Z:bg}{p:aj}{v:Value}(h:bd w Z p v)(ag:eT p=true):dd w Z (cells p) v.cells.toList:=by
 by_cases bD:∃cs,p= .agg cs
 ·obtain⟨cs,rfl⟩:=bD;simp only[bd]at h;obtain⟨us,rfl,U⟩:=h;simpa[cells,pP]using U
 ·have nL:∀cs,p≠ .agg cs:=fun cs e=>bD ⟨cs,e⟩;obtain⟨J,U⟩:=OU h ag nL;have aw:cells p=[p]:=by cases p<;>first|rfl|exact absurd rfl (nL _)
  rw[aw,U];simp only[dd];exact⟨v,[],rfl,⟨h,J⟩,rfl⟩
theorem B9{w:World}{Z:bg}:∀{b1:List aj} {bf:List Value},dd w Z b1 bf->∀c∈bf,c.oneCell'=true
 |[],bf,h=>by simp only[dd]at h;subst h;simp
 |p::b1,bf,h=>by
  simp only[dd]at h;obtain⟨u,ct,rfl,J,U⟩:=h;intro c aw;rcases fT.1 aw with rfl|aw
  ·exact J.2
  ·exact B9 U c aw
theorem qk{w:World}{Z:bg}:∀{b1:List aj} {bf:List Value},dd w Z b1 bf->bf.length=b1.length
 |[],bf,h=>by simp only[dd]at h;subst h;rfl
 |p::b1,bf,h=>by simp only[dd]at h;obtain⟨u,ct,rfl,_,U⟩:=h;simp[qk U]
theorem B8{w:World}{Z:bg}:∀(n:Nat) {b1:List aj} {bf:List Value},dd w Z b1 bf->dd w Z (b1.drop n) (bf.drop n)
 |0,_,_,h=>by simpa using h
 |n+1,[],bf,h=>by simp only[dd]at h;subst h;simp[dd]
 |n+1,p::b1,bf,h=>by simp only[dd]at h;obtain⟨u,ct,rfl,_,U⟩:=h;simpa using B8 n U
theorem EJ{w:World}{Z:bg}:∀(n:Nat) {b1:List aj} {bf:List Value},dd w Z b1 bf->dd w Z (b1.take n) (bf.take n)
 |0,_,_,_=>by simp[dd]
 |n+1,[],bf,h=>by simp only[dd]at h;subst h;simp[dd]
 |n+1,p::b1,bf,h=>by simp only[dd]at h;obtain⟨u,ct,rfl,J,U⟩:=h;simp only[List.take_succ_cons,dd];exact⟨u,_,rfl,J,EJ n U⟩
theorem zB{w:World}{Z:bg}:∀{b1 bB:List aj} {bf us:List Value},dd w Z b1 bf->dd w Z bB us->dd w Z (b1++bB) (bf++us)
 |[],bB,bf,us,h,cn=>by simp only[dd]at h;subst h;simpa using cn
 |p::b1,bB,bf,us,h,cn=>by simp only[dd]at h;obtain⟨u,ct,rfl,J,U⟩:=h;simp only[bW,dd];exact⟨u,_,rfl,J,zB U cn⟩
theorem EI{w:World}{Z:bg}:∀(n:Nat) {b1:List aj} {bf:List Value} {p:aj},dd w Z b1 bf->b1[n]? =some p->∃v,bf[n]? =some v/\bd w Z p v/\v.oneCell'=true
 |n,[],_,p,_,bF=>by simp at bF
 |0,q::b1,bf,p,h,bF=>by simp only[dd]at h;obtain⟨u,ct,rfl,J,_⟩:=h;simp at bF;subst bF;exact⟨u,rfl,J.1,J.2⟩
 |n+1,q::b1,bf,p,h,bF=>by simp only[dd]at h;obtain⟨u,ct,rfl,_,U⟩:=h;simpa using EI n U (by simpa using bF)
theorem IF{w:World}{Z:bg}:∀(n:Nat) {b1:List aj} {bf:List Value} {p:aj},cY w Z b1 bf->b1[n]? =some p->∃v,bf[n]? =some v/\bd w Z p v
 |n,[],_,p,_,bF=>by simp at bF
 |0,q::b1,bf,p,h,bF=>by simp only[cY]at h;obtain⟨u,ct,rfl,J,_⟩:=h;simp at bF;subst bF;exact⟨u,rfl,J⟩
 |n+1,q::b1,bf,p,h,bF=>by simp only[cY]at h;obtain⟨u,ct,rfl,_,U⟩:=h;simpa using IF n U (by simpa using bF)
theorem vH{w:World}{A:Nat->Nat->Prop}{b:Nat}:∀{us:List Value} {off j:Nat} {u:Value},mf w A b off us->us[j]? =some u->A b (off+j)/\w.cell? ⟨b,off+j,none⟩=some u
 |[],_,_,_,_,h=>by simp at h
 |x::us,off,0,u,au,h=>by simp at h;subst h;exact au.1
 |x::us,off,j+1,u,au,h=>by have:=vH (j:=j) au.2 (by simpa using h);rwa[show off+1+j=off+(j+1)from by omega]at this
theorem Hx{w:World}{A:Nat->Nat->Prop}{b:Nat}:∀(n:Nat) {us:List Value} {off:Nat},mf w A b off us->mf w A b (off+n) (us.drop n)
 |0,_,_,h=>by simpa using h
 |n+1,[],_,_=>by simp[mf]
 |n+1,x::us,off,h=>by have:=Hx n h.2;rw[show off+(n+1)=off+1+n from by omega];simpa using this
theorem Hz{w:World}{A:Nat->Nat->Prop}{b:Nat}:∀(n:Nat) {us:List Value} {off:Nat},mf w A b off us->mf w A b off (us.take n)
 |0,_,_,_=>by simp[mf]
 |n+1,[],_,_=>by simp[mf]
 |n+1,x::us,off,h=>by simp only[List.take_succ_cons];exact⟨h.1,Hz n h.2⟩
theorem aoZ{P:cI}{w:World}{A:Nat->Nat->Prop}{b off:Nat}{us:List Value}(h:mf w A b off us):(loadCells ⟨b,off,none⟩ us.length).run P w= .ok us.toArray w:=run_loadCells_list w _ us fun j v ae=>by rw[pW];exact(vH h ae).2
theorem aoY{P:cI}{w:World}{b off n:Nat}{us:Array Value}{el:gu}{fr:Nat×Nat}(h:w.heap[b]? =some (.cells us el fr))(ax:off+n<=us.size):
  (loadCells ⟨b,off,none⟩ n).run P w= .ok ((us.toList.drop off).take n).toArray w:=by
 have au:((us.toList.drop off).take n).length=n:=by simp;omega
 have:=run_loadCells_list (P:=P) w ⟨b,off,none⟩ ((us.toList.drop off).take n) fun j v ae=>by
  rw[pW];have aif:j<n:=by have:=(eV.1 ae).1;omega
  simp only[World.cell?,h,jN,ho,if_false];rw[List.getElem?_take]at ae;simpa[aif]using ae
 rw[au]at this;exact this
theorem Tz{α:Type}(l r:List α)(n sz:Nat)(h:l.length=sz):(l++r).drop ((n+1)*sz)=r.drop (n*sz):=by
 have e:(n+1)*sz=l.length+n*sz:=by rw[h,Nat.succ_mul,Nat.add_comm]
 rw[e,<-List.drop_drop];simp
theorem ZW{α:Type}(l r:List α)(n sz:Nat)(h:l.length=sz):(l++r).take ((n+1)*sz)=l++r.take (n*sz):=by
 have e:(n+1)*sz=l.length+n*sz:=by rw[h,Nat.succ_mul,Nat.add_comm]
 rw[e,List.take_length_add_append]
theorem IA{w:World}{Z:bg}{sz:Nat}:∀(i:Nat) {xs:List aj} {us:List Value} {p:aj},dR w Z sz xs us->xs[i]? =some p->
  ∃u,bd w Z p u/\u.cells.size=sz/\u.cells.toList=(us.drop (i*sz)).take sz
 |i,[],_,p,_,bF=>by simp at bF
 |0,x::xs,us,p,h,bF=>by
  simp only[dR]at h;obtain⟨u,ct,rfl,⟨J,U,ar⟩,_⟩:=h;simp at bF;subst bF;refine⟨u,J,U,?_⟩;have:u.cells.toList.length=sz:=by simpa using U
  simp[<-this]
 |i+1,x::xs,us,p,h,bF=>by
  simp only[dR]at h;obtain⟨u,ct,rfl,⟨_,U,_⟩,b0⟩:=h;obtain⟨v,g1,g2,g3⟩:=IA i b0 (by simpa using bF);refine⟨v,g1,g2,?_⟩;have:u.cells.toList.length=sz:=by simpa using U
  rw[g3,Tz _ _ _ _ this]
theorem uo{w:World}{Z:bg}{sz:Nat}:∀{xs:List aj} {us:List Value},dR w Z sz xs us->us.length=xs.length*sz
 |[],us,h=>by simp only[dR]at h;subst h;simp
 |x::xs,us,h=>by
  simp only[dR]at h;obtain⟨u,ct,rfl,⟨_,U,_⟩,b0⟩:=h;have:u.cells.toList.length=sz:=by simpa using U
  rw[pQ,this,uo b0,oX,Nat.succ_mul];omega
theorem zA{w:World}{Z:bg}{sz:Nat}:∀{xs:List aj} {us:List Value},dR w Z sz xs us->∀c∈us,c.oneCell'=true
 |[],us,h=>by simp only[dR]at h;subst h;simp
 |x::xs,us,h=>by
  simp only[dR]at h;obtain⟨u,ct,rfl,⟨_,_,ar⟩,b0⟩:=h;intro c aw;rcases kt.1 aw with aw|aw
  ·exact ar c aw
  ·exact zA b0 c aw
theorem EH{w:World}{Z:bg}{sz:Nat}:∀{b1 bB:List aj} {bf us:List Value},dR w Z sz b1 bf->dR w Z sz bB us->dR w Z sz (b1++bB) (bf++us)
 |[],bB,bf,us,h,cn=>by simp only[dR]at h;subst h;simpa using cn
 |p::b1,bB,bf,us,h,cn=>by simp only[dR]at h;obtain⟨u,ct,rfl,J,U⟩:=h;simp only[bW,dR];exact⟨u,ct++us,Ψ,J,EH U cn⟩
theorem Y9{w:World}{Z:bg}{sz:Nat}:∀(n:Nat) {xs:List aj} {us:List Value},dR w Z sz xs us->dR w Z sz (xs.drop n) (us.drop (n*sz))
 |0,_,_,h=>by simpa using h
 |n+1,[],us,h=>by simp only[dR]at h;subst h;simp[dR]
 |n+1,x::xs,us,h=>by
  simp only[dR]at h;obtain⟨u,ct,rfl,⟨_,U,_⟩,b0⟩:=h;have:u.cells.toList.length=sz:=by simpa using U
  rw[Tz _ _ _ _ this];simpa using Y9 n b0
theorem Zc{w:World}{Z:bg}{sz:Nat}:∀(n:Nat) {xs:List aj} {us:List Value},dR w Z sz xs us->dR w Z sz (xs.take n) (us.take (n*sz))
 |0,_,_,_=>by simp[dR]
 |n+1,[],us,h=>by simp only[dR]at h;subst h;simp[dR]
 |n+1,x::xs,us,h=>by
  simp only[dR]at h;obtain⟨u,ct,rfl,⟨J,U,ar⟩,b0⟩:=h;have:u.cells.toList.length=sz:=by simpa using U
  simp only[List.take_succ_cons,dR];refine⟨u,ct.take (n*sz),?_,⟨J,U,ar⟩,Zc n b0⟩;rw[ZW _ _ _ _ this]
def isAgg(sz:Nat)(p:aj):Prop:= ∃cs,p= .agg cs/\cs.length=sz
def zF(agg:Bool)(sz dZ n i f:Nat):Option gg->Option (Prop×aj)
 |some ⟨n',_,jK,some xs⟩=>if n'=n/\jK=dZ then
   (match xs[i]? with
    |some p=>if agg then some (eT p=true/\f+sz<=(cells p).length,.agg (((cells p).drop f).take sz))else((cells p)[f]?).map fun q=>(eT p=true,q)
    |none=>none)else none
 |_=>none
def nl(b:List (aI×List aj))(e:List (aI×gg))(agg:Bool)(sz:Nat):aj->Option (Prop×aj)
 | .rptr dZ k n i f=>zF agg sz dZ n i f (look k e)
 | .ptr k off=>
  match look k b with
  |some cs=>if agg then some (gr cs=true/\off+sz<=cs.length,.agg ((cs.drop off).take sz))else(cs[off]?).map fun p=>(gr cs=true,p)
  |none=>none
 | .eptr p=>if agg then some (isAgg sz p,p)else some (eT p=true/\cells p=[p],p)
 |_=>none
def C8(agg:Bool)(sz:Nat):aj->Option (Prop×aj)
 | .eptr p=>if agg then some (isAgg sz p,p)else some (eT p=true/\cells p=[p],p)
 |_=>none
theorem agv{b:List (aI×List aj)}{e:List (aI×gg)}{agg:Bool}{sz:Nat}{p:aj}{r:Prop×aj}(h:C8 agg sz p=some r):nl b e agg sz p=some r:=by
 cases p<;>simp only[C8]at h<;>first|cases h;done|skip
 simpa only[nl]using h
theorem akf{b:List (aI×List aj)}{e:List (aI×gg)}{agg:Bool}{sz:Nat}{p:aj}{r:Prop×aj}(h:nl b [] agg sz p=some r):nl b e agg sz p=some r:=by cases p<;>simp only[nl]at h⊢ <;>first|exact h|(simp[look,zF]at h)
def sd(off:Nat)(agg:Bool)(sz:Nat):aj->Option (Prop×aj)
 | .ptr k o=>some (True,.ptr k (o+off))
 | .rptr dZ k n i f=>some (True,.rptr dZ k n i (f+off))
 | .eptr (.agg cs)=>if agg then some (off+sz<=cs.length,.eptr (.agg ((cs.drop off).take sz)))else(cs[off]?).map fun p=>(eT p=true/\cells p=[p],.eptr p)
 |_=>none
def vb(off:Nat)(agg:Bool)(sz:Nat):aj->Option (Prop×aj)
 | .agg cs=>if agg then some (off+sz<=cs.length,.agg ((cs.drop off).take sz))else(cs[off]?).map fun p=>(True,p)
 |_=>none
def Bl(sz:Nat):aj->aj->Option (Prop×aj)
 | .slice dZ _ xs,.int _ i=>if dZ=sz then some (0<=i/\i<xs.length,.eptr (xs.getD i.toNat .junk))else none
 | .row dZ k n,.int _ i=>if dZ=sz then some (0<=i/\i<n,.rptr dZ k n i.toNat 0)else none
 |_,_=>none
def IZ:aj->aj->Option (Prop×aj)
 | .str s,.int _ i=>some (0<=i/\i<s.length,.int .u8 (s.getD i.toNat 0).toNat)
 |_,_=>none
def rC(Gg:Int):Option aj->Option Int
 |none=>some Gg
 |some (.int _ i)=>some i
 |_=>none
def I4(x:aj)(lo hi:Option aj):Option (Prop×aj):=
 match x with
 | .str s=>match rC 0 lo,rC s.length hi with
  |some l,some h=>some (0<=l/\l<=h/\h<=s.length,.str ((s.take h.toNat).drop l.toNat))
  |_,_=>none
 |_=>none
def HF(sz:Nat)(x:aj)(lo hi:Option aj):Option (Prop×aj):=
 match x with
 | .slice dZ _ xs=>if dZ=sz then match rC 0 lo,rC xs.length hi with
  |some l,some h=>some (0<=l/\l<=h/\h<=xs.length,.slice sz .no ((xs.take h.toNat).drop l.toNat))
  |_,_=>none else none
 |_=>none
def tV(n:Int):Prop:= -9223372036854775808<=n/\n<=9223372036854775807
def Hg(op:BinOp)(wr:Bool)(k:IntKind)(a b:Int):Option (Prop×aj):=
 match op with
 | .add=>if wr then some (True,.int k (k.wrap (a+b)))else some (k= .i64/\tV (a+b),.int .i64 (a+b))
 | .sub=>if wr then some (True,.int k (k.wrap (a-b)))else some (k= .i64/\tV (a-b),.int .i64 (a-b))
 | .mul=>if wr then some (True,.int k (k.wrap (a*b)))else some (k= .i64/\tV (a*b),.int .i64 (a*b))
 | .quo=>some (b≠0,.int k (k.wrap (a.tdiv b)))
 | .rem=>some (b≠0,.int k (a.tmod b))
 | .eql=>some (True,.bool (a==b))
 | .neq=>some (True,.bool (a !=b))
 | .lss=>some (True,.bool (decide (a<b)))
 | .leq=>some (True,.bool (decide (a<=b)))
 | .gtr=>some (True,.bool (decide (b<a)))
 | .geq=>some (True,.bool (decide (b<=a)))
 | .and=>some (True,.int k (k.wrap (qX k.bits a&&& qX k.bits b).toNat))
 | .or=>some (True,.int k (k.wrap (qX k.bits a|||qX k.bits b).toNat))
 | .xor=>some (True,.int k (k.wrap (qX k.bits a ^^^ qX k.bits b).toNat))
 |_=>none
def I5(op:BinOp)(a b:List dw):Option (Prop×aj):=
 match op with
 | .add=>some (a.length+b.length<=lim,.str (a++b))
 | .eql=>some (True,.bool (a==b))
 | .neq=>some (True,.bool (!(a==b)))
 | .lss=>some (True,.bool (hP a b))
 | .leq=>some (True,.bool (hP a b||a==b))
 | .gtr=>some (True,.bool (!(hP a b||a==b)))
 | .geq=>some (True,.bool (!hP a b))
 |_=>none
def CK(op:BinOp)(wr:Bool):aj->aj->Option (Prop×aj)
 | .int k a,.int bJ b=>match op with
  | .shl=>some (0<=b,.int k (k.wrap (a*2 ^ (min b.toNat k.bits))))
  | .shr=>some (0<=b,.int k (a.fdiv (2 ^ (min b.toNat k.bits))))
  |_=>if k=bJ then Hg op wr k a b else none
 | .str a,.str b=>I5 op a b
 |_,_=>none
def oN(cs:List aj)(off:Nat)(b1:List aj):List aj:=cs.take off++b1++cs.drop (off+b1.length)
def uZ(t:List (Nat×aj)):List aj->List (Nat×Nat×dF)->Option (Prop×List aj)
 |cs,[]=>some (True,cs)
 |cs,(off,sz,x)::r=>
  let p:=cv t x
  match uZ t (oN cs off (cells p)) r with
  |some (c,cs')=>some ((eT p=true/\(cells p).length=sz/\off+sz<=cs.length)/\c,cs')
  |none=>none
def Ib(c x y:aj):Option (Prop×aj):=
 match c with
 | .bool b=>match x,y with
  | .bool u,.bool v=>some (True,.bool (cond b u v))
  |p,q=>match b with
   |true=>some (True,p)
   |false=>some (True,q)
 |_=>none
def HW:aj->Option (Prop×aj)
 | .bool b=>some (True,.bool (!b))
 |_=>none
def HR:aj->Option (Prop×aj)
 | .int k n=>some (True,.int k (k.wrap (0-n)))
 |_=>none
def Ax(i:Nat):aj->Option (Prop×aj)
 | .tuple bf=>(bf[i]?).map fun p=>(True,p)
 |_=>none
def Bv:aj->Option (Prop×aj)
 | .slice _ _ xs=>some (True,.int .i64 xs.length)
 | .row _ _ n=>some (True,.int .i64 n)
 | .cst (.slice _ n _)=>some (True,.int .i64 n)
 |_=>none
def EY:aj->Option (Prop×aj)
 | .str s=>some (True,.int .i64 s.length)
 | .cst (.string s)=>some (True,.int .i64 s.size)
 |_=>none
def Gd(k:IntKind):aj->Option (Prop×aj)
 | .int _ n=>some (True,.int k (k.wrap n))
 |_=>none
def BG:aj->Option (Prop×aj)
 | .ptr k o=>some (True,.ptr k o)
 | .eptr p=>some (True,.eptr p)
 | .func f cs=>some (True,.func f cs)
 |_=>none
def HO:aj->aj->Option (Prop×aj)
 | .int k a,.int bJ b=>if k=bJ then some (True,.int k (if b<a then b else a))else none
 |_,_=>none
def ky:List Bool->List aj->List aj->Option Bool
 |[],[],[]=>some true
 |false::r,.int k a::as,.int bJ b::e7=>if k=bJ then(ky r as e7).map fun q=>(a==b)&&q else none
 |true::r,.str a::as,.str b::e7=>(ky r as e7).map fun q=>(a==b)&&q
 |_,_,_=>none
inductive jY where
 |i
 |s
 |a (ee:List Bool)
 deriving DecidableEq
def tY:jY->aj->aj->Option Bool
 | .i,.int k a,.int bJ b=>if k=bJ then some (a==b)else none
 | .s,.str a,.str b=>some (a==b)
 | .a ee,.agg as,.agg e7=>ky ee as e7
 |_,_,_=>none
def xf:jY->aj->Bool
 | .a ee,.agg as=>(ky ee as as).isSome
 | .a _,_=>false
 |_,_=>true
@[simp]theorem Ws(k:aj):xf .i k=true:=by cases k<;>rfl
def xp(ck:jY)(k:aj):List aj->Option (Option aj)
 |bJ::v::r=>match tY ck k bJ with
  |some true=>some (some v)
  |some false=>xp ck k r
  |none=>none
 |_=>some none
def nn(b:aI->Option (List aj))(ck:jY)(zero:aj)(ok:Bool)(x k:aj):Option (Prop×aj):=
 match x with
 | .gmap key=>match b key with
  |some (.hdm _ _::kvs)=>if xf ck k=false then none else match xp ck k kvs with
   |some (some v)=>some (True,if ok then .tuple [v,.bool true]else v)
   |some none=>some (True,if ok then .tuple [zero,.bool false]else zero)
   |none=>none
  |_=>none
 |_=>none
def sS(b:aI->Option (List aj))(x:aj):Option (Prop×aj):=
 match x with
 | .gmap key=>match b key with
  |some (.hdm _ borns::_)=>some (True,.int .i64 borns.length)
  |_=>none
 |_=>none
def iR(neg:Bool):Option (List Bool)->aj->aj->Option (Prop×aj)
 |none,.bool a,.bool b=>some (True,.bool (if neg then a !=b else a==b))
 |some ee,.agg as,.agg e7=>(ky ee as e7).map fun q=>(True,.bool (if neg then !q else q))
 |_,_,_=>none
def HJ:aj->aj->Option (Prop×aj)
 | .int k a,.int bJ b=>if k=bJ then some (True,.int k (if a<b then b else a))else none
 |_,_=>none
def vM(ck:jY)(k v:aj):List aj->Option (Option (List aj))
 |bJ::v'::r=>match tY ck k bJ with
  |some true=>some (some (k::v::r))
  |some false=>match vM ck k v r with
   |some (some eZ)=>some (some (bJ::v'::eZ))
   |some none=>some none
   |none=>none
  |none=>none
 |_=>some none
def nm(n:Nat):List Nat->List aj->Option aj
 |b::e7,k::v::r=>if b=n then some (.tuple [k,v])else nm n e7 r
 |_,_=>none
def oJ(b:aI->Option (List aj))(x:aj):Option (Prop×aj):=
 match x with
 | .ptr eY 0=>match b eY with
  |some [.hdi _ seen last,.gmap mk]=>match b mk with
   |some (.hdm clock borns::kvs)=>match seen.getLast? with
    |some n=>(nm n borns kvs).map fun p=>(clock=last,p)
    |none=>none
   |_=>none
  |_=>none
 |_=>none
theorem Xi{f g:aI->Option (List aj)}(h:∀k,f k≠none->g k=f k){ck:jY}{zero:aj}{ok:Bool}{x k:aj}{r:Prop×aj}(he:nn f ck zero ok x k=some r):nn g ck zero ok x k=some r:=by
 unfold nn at he⊢;split at he
 ·rename_i key;cases aK:f key with
  |none=>simp[aK]at he
  |some cs=>rw[h key (by rw[aK];simp),aK];rw[aK]at he;exact he
 ·cases he
theorem akO{f g:aI->Option (List aj)}(h:∀k,f k≠none->g k=f k){x:aj}{r:Prop×aj}(he:sS f x=some r):sS g x=some r:=by
 unfold sS at he⊢;split at he
 ·rename_i key;cases aK:f key with
  |none=>simp[aK]at he
  |some cs=>rw[h key (by rw[aK];simp),aK];rw[aK]at he;exact he
 ·cases he
theorem aku{f g:aI->Option (List aj)}(h:∀k,f k≠none->g k=f k){x:aj}{r:Prop×aj}(he:oJ f x=some r):oJ g x=some r:=by
 unfold oJ at he⊢;split at he
 ·rename_i eY;cases aK:f eY with
  |none=>simp[aK]at he
  |some cs=>
   simp only[h eY (by rw[aK];simp),aK]at he⊢;split at he
   ·rename_i since seen last mk dA;cases vm:f mk with
    |none=>simp[vm]at he
    |some e1=>simp only[h mk (by rw[vm];simp),vm]at he⊢;exact he
   ·cases he
 ·cases he
inductive gk where
 |mov (x:dF)
 |pick (c x y:dF)
 |load (agg:Bool) (sz:Nat) (x:dF)
 |faddr (off:Nat) (agg:Bool) (sz:Nat) (x:dF)
 |fld (off:Nat) (agg:Bool) (sz:Nat) (x:dF)
 |iaddr (sz:Nat) (x i:dF)
 |sidx (x i:dF)
 |ssl (x:dF) (lo hi:Option dF)
 |lsl (sz:Nat) (x:dF) (lo hi:Option dF)
 |bin (op:BinOp) (wr:Bool) (x y:dF)
 |notB (x:dF)
 |neg (x:dF)
 |conv (k:IntKind) (x:dF)
 |ext (i:Nat) (x:dF)
 |len (x:dF)
 |slen (x:dF)
 |build (zero:List aj) (parts:List (Nat×Nat×dF))
 |nck (x:dF)
 |min2 (x y:dF)
 |mkf (n:Nat) (xs:List dF)
 |mget (ck:jY) (zero:aj) (ok:Bool) (x k:dF)
 |ment (x:dF)
 |mlen (x:dF)
 |beq (neg:Bool) (ee:Option (List Bool)) (x y:dF)
 |max2 (x y:dF)
 |mkif (t:Nat) (x:dF)
 |loadB (agg:Bool) (sz:Nat) (x:dF)
 |mgetB (ck:jY) (zero:aj) (ok:Bool) (x k:dF)
 |loadZ (agg:Bool) (sz:Nat) (x:dF)
def hG(st:bu):gk->Option (Prop×aj)
 | .mov x=>some (True,cv st.t x)
 | .pick c x y=>Ib (cv st.t c) (cv st.t x) (cv st.t y)
 | .load agg sz x=>nl st.b st.e agg sz (cv st.t x)
 | .faddr off agg sz x=>sd off agg sz (cv st.t x)
 | .fld off agg sz x=>vb off agg sz (cv st.t x)
 | .iaddr sz x i=>Bl sz (cv st.t x) (cv st.t i)
 | .sidx x i=>IZ (cv st.t x) (cv st.t i)
 | .ssl x lo hi=>I4 (cv st.t x) (lo.map (cv st.t)) (hi.map (cv st.t))
 | .lsl sz x lo hi=>HF sz (cv st.t x) (lo.map (cv st.t)) (hi.map (cv st.t))
 | .bin op wr x y=>CK op wr (cv st.t x) (cv st.t y)
 | .notB x=>HW (cv st.t x)
 | .neg x=>HR (cv st.t x)
 | .conv k x=>Gd k (cv st.t x)
 | .ext i x=>Ax i (cv st.t x)
 | .len x=>Bv (cv st.t x)
 | .slen x=>EY (cv st.t x)
 | .build zero parts=>(uZ st.t zero parts).map fun(c,cs)=>(c,.agg cs)
 | .nck x=>BG (cv st.t x)
 | .min2 x y=>HO (cv st.t x) (cv st.t y)
 | .mkf n xs=>some (True,.func n (xs.map (cv st.t)))
 | .mget ck zero ok x k=>nn (fun k=>look k st.b) ck zero ok (cv st.t x) (cv st.t k)
 | .ment x=>oJ (fun k=>look k st.b) (cv st.t x)
 | .mlen x=>sS (fun k=>look k st.b) (cv st.t x)
 | .beq neg ee x y=>iR neg ee (cv st.t x) (cv st.t y)
 | .max2 x y=>HJ (cv st.t x) (cv st.t y)
 | .mkif t x=>some (True,.iface t (cv st.t x))
 | .loadB agg sz x=>nl st.b [] agg sz (cv st.t x)
 | .mgetB ck zero ok x k=>nn (fun k=>look k st.b) ck zero ok (cv st.t x) (cv st.t k)
 | .loadZ agg sz x=>C8 agg sz (cv st.t x)
def BT(bG:List (Nat×dN))(ee:List (Nat×Nat)):List (Nat×Nat×dF)->List (Nat×Operand)->Bool
 |[],[]=>true
 |(off,sz,x)::r,(i,o)::s=>(match ee[i]? with|some (xu,t)=>off==xu&&((eu bG t).map (·.size))==some sz|none=>false)&&eD x o&&BT bG ee r s
 |_,_=>false
def Jw:aj->aj->Bool
 | .int k n,.int bJ n'=>decide (k=bJ/\n=n')
 | .bool b,.bool b4=>b==b4
 | .str [],.str []=>true
 | .slice a .nil [],.slice b .nil []=>a==b
 | .nilp,.nilp=>true
 | .junk,.junk=>true
 |_,_=>false
def zV:List aj->List aj->Bool
 |[],[]=>true
 |c::cs,d::e1=>Jw c d&&zV cs e1
 |_,_=>false
def Cv:aj->aj->Bool
 | .agg cs,.agg e1=>zV cs e1
 | .agg _,_=>false
 |p,q=>Jw p q
def zr:List dF->List Operand->Bool
 |[],[]=>true
 |x::xs,o::os=>eD x o&&zr xs os
 |_,_=>false
def AG(bG:List (Nat×dN)):Nat->List Bool->List (Nat×Nat)->Bool
 |_,[],[]=>true
 |n,b::r,(off,t)::ee=>off==n&&(match eu bG t with|some ⟨_,_,.int _,_⟩=> !b|some ⟨_,_,.str,_⟩=>b|_=>false)&&AG bG (n+1) r ee
 |_,_,_=>false
def Gu(bG:List (Nat×dN))(ee:List Bool)(t:Nat):Bool:=match eu bG t with
 |some ⟨_,_,.struct gs,_⟩=>AG bG 0 ee gs
 |_=>false
def y5(bG:List (Nat×dN))(ck:jY)(t:Nat):Bool:=match ck with
 | .i=>(match eu bG t with|some ⟨_,_,.int _,_⟩=>true|_=>false)
 | .s=>(match eu bG t with|some ⟨_,_,.str,_⟩=>true|_=>false)
 | .a ee=>Gu bG ee t
def P6:List aj->aj->Bool
 |cs,.agg e1=>zV cs e1
 |_,_=>false
def xy:Option dF->Option Operand->Bool
 |none,none=>true
 |some x,some o=>eD x o
 |_,_=>false
def Fc(bG:List (Nat×dN)):gk->Op->Bool
 | .mov x,.move o=>eD x o
 | .mov x,.assign o=>eD x o
 | .pick c x y,.pick cw Fm aa4=>eD c cw&&eD x Fm&&eD y aa4
 | .load agg sz x,.load t o=>(match eu bG t with|some f=>f.size==sz&&f.kind.isAgg==agg|none=>false)&&eD x o
 | .faddr off agg sz x,.fieldAddr s o i=>
  (match eu bG s with
   |some ⟨_,_,.struct ee,_⟩=>(match ee[i]? with|some (xu,t)=>off==xu&&(match eu bG t with|some f=>f.size==sz&&f.kind.isAgg==agg&&sz !=0|none=>false)|none=>false)
   |_=>false)&&eD x o
 | .fld off agg sz x,.field s o i=>
  (match eu bG s with
   |some ⟨_,_,.struct ee,_⟩=>(match ee[i]? with|some (xu,t)=>off==xu&&(match eu bG t with|some f=>f.size==sz&&f.kind.isAgg==agg|none=>false)|none=>false)
   |_=>false)&&eD x o
 | .iaddr sz x i,.indexAddr t o j=>(match eu bG t with|some ⟨_,_,.slice e,_⟩=>(match eu bG e with|some f=>f.size==sz|none=>false)|_=>false)&&eD x o&&eD i j
 | .sidx x i,.index t o j=>(match eu bG t with|some ⟨_,_,.str,_⟩=>true|_=>false)&&eD x o&&eD i j
 | .ssl x lo hi,.slice t o l h none=>(match eu bG t with|some ⟨_,_,.str,_⟩=>true|_=>false)&&eD x o&&xy lo l&&xy hi h
 | .lsl sz x lo hi,.slice t o l h none=>(match eu bG t with|some ⟨_,_,.slice e,_⟩=>(match eu bG e with|some f=>f.size==sz|none=>false)|_=>false)&&eD x o&&xy lo l&&xy hi h
 | .bin op _ x y,.binOp XY _ o o' _=>decide (op=XY)&&eD x o&&eD y o'
 | .notB x,.unOp op _ o=>decide (op= .not)&&eD x o
 | .neg x,.unOp op _ o=>decide (op= .neg)&&eD x o
 | .conv k x,.convert s d o=>(match eu bG s,eu bG d with|some ⟨_,_,.int _,_⟩,some ⟨_,_,.int bJ,_⟩=>decide (k=bJ)|_,_=>false)&&eD x o
 | .ext i x,.extract o j=>i==j&&eD x o
 | .len x,.call ⟨.builtin .len,⟨[o]⟩,⟨[t]⟩⟩=>(match eu bG t with|some ⟨_,_,.slice _,_⟩=>true|_=>false)&&eD x o
 | .slen x,.call ⟨.builtin .len,⟨[o]⟩,⟨[t]⟩⟩=>(match eu bG t with|some ⟨_,_,.str,_⟩=>true|_=>false)&&eD x o
 | .build zero parts,.build t b1=>(match eu bG t with|some ⟨_,_,.struct ee,z⟩=>P6 zero z&&(ee.all fun x=>(eu bG x.2).isSome)&&BT bG ee parts b1.toList|_=>false)
 | .nck x,.nilCheck o=>eD x o
 | .min2 x y,.call ⟨.builtin .min,⟨[o,o']⟩,⟨[_,_]⟩⟩=>eD x o&&eD y o'
 | .mkf n xs,.makeFunc (.func m) ⟨[]⟩ os=>n==m&&zr xs os.toList
 | .mget ck zero ok x k,.lookup t o o' HY=>ok==HY&&(match eu bG t with|some ⟨_,_,.map nk p4,_⟩=>y5 bG ck nk&&(match eu bG p4 with|some f=>Cv zero f.zero|none=>false)|_=>false)&&eD x o&&eD k o'
 | .ment x,.entry o=>eD x o
 | .mlen x,.call ⟨.builtin .len,⟨[o]⟩,⟨[t]⟩⟩=>(match eu bG t with|some ⟨_,_,.map _ _,_⟩=>true|_=>false)&&eD x o
 | .beq neg ee x y,.binOp op t o o' _=>decide (op=if neg then .neq else .eql)&&(match ee with|none=>(match eu bG t with|some ⟨_,_,.bool,_⟩=>true|_=>false)|some ee=>Gu bG ee t)&&eD x o&&eD y o'
 | .max2 x y,.call ⟨.builtin .max,⟨[o,o']⟩,⟨[_,_]⟩⟩=>eD x o&&eD y o'
 | .mkif t x,.makeInterface da o=>t==da&&(match eu bG t with|some ⟨_,_,.slice _,_⟩=>true|_=>false)&&eD x o
 | .loadB agg sz x,.load t o=>(match eu bG t with|some f=>f.size==sz&&f.kind.isAgg==agg|none=>false)&&eD x o
 | .loadZ agg sz x,.load t o=>(match eu bG t with|some f=>f.size==sz&&f.kind.isAgg==agg|none=>false)&&eD x o
 | .mgetB ck zero ok x k,.lookup t o o' HY=>ok==HY&&(match eu bG t with|some ⟨_,_,.map nk p4,_⟩=>y5 bG ck nk&&(match eu bG p4 with|some f=>Cv zero f.zero|none=>false)|_=>false)&&eD x o&&eD k o'
 |_,_=>false
end
section
open Go Go.RowKit
theorem KO(P:cI)(w:World)(op:BinOp)(t:gu)(x y:Operand)(k bJ:IntKind)(m n:Int):(eqGuard op t x y (.int k m) (.int bJ n)).run P w= .ok () w:=by cases op<;>rfl
theorem adj(P:cI)(w:World)(op:BinOp)(t:gu)(x y:Operand)(m n:ByteArray):(eqGuard op t x y (.string m) (.string n)).run P w= .ok () w:=by cases op<;>rfl
theorem ap5(l:List dw):(⟨l.toArray⟩:ByteArray).toList=l:=by simp
theorem abO(a b:List dw):(⟨a.toArray⟩:ByteArray)++(⟨b.toArray⟩:ByteArray)=⟨(a++b).toArray⟩:=by apply arK;simp
theorem aef(a:List dw)(l h:Nat):(⟨a.toArray⟩:ByteArray).extract l h=⟨((a.take h).drop l).toArray⟩:=by apply arK;simp[List.drop_take]
theorem EX(a:List dw):(⟨a.toArray⟩:ByteArray).size=a.length:=by simp[av9]
section
variable {P:cI} {w:World} {r:Sem Value}
theorem sg{k:IntKind}{x:Int}(h:r.run P w= .ok (.int k x) w):∃v,r.run P w= .ok v w/\∀Z,bd w Z (.int k x) v:=⟨_,h,fun Z=>by simp[bd]⟩
theorem UD{x:Bool}(h:r.run P w= .ok (.bool x) w):∃v,r.run P w= .ok v w/\∀Z,bd w Z (.bool x) v:=⟨_,h,fun Z=>by simp[bd]⟩
end
theorem ajp(P:cI)(w:World){op:BinOp}{wr:Bool}{k:IntKind}{a b:Int}{c:Prop}{p:aj}(he:Hg op wr k a b=some (c,p))(aw:c)(t:gu):
  ∃v,(binOp op t (.int k a) (.int k b)).run P w= .ok v w/\∀Z,bd w Z p v:=by
 cases op<;>simp only[Hg]at he;case add=>
  cases wr<;>simp only[if_true,ho,if_false]at he<;>cases he
  ·obtain⟨rfl,h⟩:=aw;exact sg (by simp[binOp,Op.intArith,pN _ h])
  ·exact sg (by simp[binOp,Op.intArith])
 case sub=>
  cases wr<;>simp only[if_true,ho,if_false]at he<;>cases he
  ·obtain⟨rfl,h⟩:=aw;exact sg (by simp[binOp,Op.intArith,pN _ h])
  ·exact sg (by simp[binOp,Op.intArith])
 case mul=>
  cases wr<;>simp only[if_true,ho,if_false]at he<;>cases he
  ·obtain⟨rfl,h⟩:=aw;exact sg (by simp[binOp,Op.intArith,pN _ h])
  ·exact sg (by simp[binOp,Op.intArith])
 case quo=>cases he;exact sg (by simp[binOp,Op.intDiv,aw])
 case rem=>cases he;exact sg (by simp[binOp,Op.intDiv,aw])
 case and=>cases he;exact sg (by simp only[binOp,Op.intBits,ne_eq,not_true_eq_false,if_false,gL])
 case or=>cases he;exact sg (by simp only[binOp,Op.intBits,ne_eq,not_true_eq_false,if_false,gL])
 case xor=>cases he;exact sg (by simp only[binOp,Op.intBits,ne_eq,not_true_eq_false,if_false,gL])
 all_goals cases he
 all_goals exact UD (by simp only[binOp,Op.intCmp,ne_eq,not_true_eq_false,if_false,gL,gt_iff_lt,ge_iff_le])
theorem apI(P:cI)(w:World){op:BinOp}{a b:List dw}{c:Prop}{p:aj}(he:I5 op a b=some (c,p))(aw:c)(t:gu):
  ∃v,(binOp op t (.string ⟨a.toArray⟩) (.string ⟨b.toArray⟩)).run P w= .ok v w/\∀Z,bd w Z p v:=by
 cases op<;>simp only[I5]at he;case add=>
  cases he;refine⟨.string ⟨(a++b).toArray⟩,?_,fun Z=>by simp only[bd];exact⟨trivial,by simpa using aw⟩⟩;have J:¬(((⟨a.toArray⟩:ByteArray).size+(⟨b.toArray⟩:ByteArray).size:Nat):Int)>IntKind.i64.max:=by
   have:IntKind.i64.max=9223372036854775807:=by decide
   rw[this,EX,EX];simp only[lim]at aw;omega
  simp only[binOp,Op.stringOp,J,if_false,gL,abO]
 all_goals cases he
 all_goals exact UD (by simp only[binOp,Op.stringOp,ap5,gL])
theorem ab1(P:cI)(w:World)(Z:bg){op:BinOp}{wr:Bool}{x y:aj}{c:Prop}{p:aj}(he:CK op wr x y=some (c,p))(aw:c)(t:gu){u v:Value}(hu:bd w Z x u)(aF:bd w Z y v)(o o':Operand):
  ∃r,(do eqGuard op t o o' u v;binOp op t u v).run P w= .ok r w/\bd w Z p r:=by
 unfold CK at he;split at he
 ·rename_i k a bJ b;simp only[bd]at hu aF;subst hu;subst aF;split at he
  ·cases he;refine⟨_,?_,by simp[bd];rfl⟩;simp[binOp,Op.shift,KO,Int.not_lt.2 aw]
  ·cases he;refine⟨_,?_,by simp[bd];rfl⟩;simp[binOp,Op.shift,KO,Int.not_lt.2 aw]
  ·split at he
   ·rename_i ad;subst ad;obtain⟨r,J,U⟩:=ajp P w he aw t;exact⟨r,by simp[KO,J],U Z⟩
   ·cases he
 ·simp only[bd]at hu aF;rw[hu.1,aF.1];obtain⟨r,J,U⟩:=apI P w he aw t;exact⟨r,by simp[adj,J],U Z⟩
 ·cases he
theorem Lc{w:World}{Z:bg}:∀(v:List Value) (i off:Nat) (cs:Array Value),off+i+v.length<=cs.size->
  ((v.zipIdx i).foldl (fun cs (x:Value×Nat)=>cs.setIfInBounds (off+x.2) x.1) cs).toList=cs.toList.take (off+i)++v++cs.toList.drop (off+i+v.length)
 |[],i,off,cs,_=>by simp
 |u::v,i,off,cs,h=>by
  simp only[List.zipIdx_cons,List.foldl_cons];rw[Lc (w:=w) (Z:=Z) v (i+1) off _ (by simp at h⊢;omega)];have bE:off+i<cs.toList.length:=by simp at h⊢;omega
  simp only[Array.toList_setIfInBounds];have ak:(cs.toList.set (off+i) u).take (off+(i+1))=cs.toList.take (off+i)++[u]:=by rw[show off+(i+1)=(off+i)+1 from by omega,List.take_succ_eq_append_getElem (by simpa using bE)];simp[List.take_set_of_le (fc _)]
  have aD:(cs.toList.set (off+i) u).drop (off+(i+1)+v.length)=cs.toList.drop (off+i+(u::v).length):=by rw[List.drop_set_of_lt Ω];congr 1;simp;omega
  rw[ak,aD];simp
theorem Zq{w:World}{Z:bg}{C:fu}{st:bu}{a:Act}(aO:c0 C st a w Z){bG:List (Nat×dN)}{ee:List (Nat×Nat)}{rE:List (Nat×Nat)}
  (bF:∀(i off t sz:Nat),ee[i]? =some (off,t)->(eu bG t).map (·.size)=some sz->rE[i]? =some (off,sz)):
  ∀(parts:List (Nat×Nat×dF)) (b1:List (Nat×Operand)) (cs:List aj) (us:Array Value) (c:Prop) (cs':List aj),BT bG ee parts b1=true->dd w Z cs us.toList->uZ st.t cs parts=some (c,cs')->c->
  ∃ct:Array Value,Instr.fill (rE.toArray[·]?) us (b1.map fun(x:Nat×Operand)=>(x.1,a.eval x.2))=some ct/\dd w Z cs' ct.toList
 |[],[],cs,us,c,cs',_,h,he,aw=>by simp only[uZ]at he;cases he;exact⟨us,by simp[Instr.fill],h⟩
 |[],_::_,_,_,_,_,ef,_,_,_=>by simp[BT]at ef
 |_::_,[],_,_,_,_,ef,_,_,_=>by simp[BT]at ef
 |(off,sz,x)::parts,(i,o)::b1,cs,us,c,cs',ef,h,he,aw=>by
  simp only[BT,cy]at ef;obtain⟨⟨J,U⟩,ar⟩:=ef;split at J
  ·rename_i xu t Ds;simp only[cy,eb]at J;obtain⟨rfl,J⟩:=J;have tS:=bF i off t sz Ds J;simp only[uZ]at he;split at he
   ·rename_i cw asB af;cases he;obtain⟨⟨ag,au,hle⟩,hT⟩:=aw;have ab:=eE aO U;have l3:=vX ab ag;have hlen:=qk l3;have l8:=qk h;have lh:(a.eval o).cells.size=sz:=by have:(a.eval o).cells.toList.length=(cells (cv st.t x)).length:=hlen;rw[au]at this;simpa using this
    have rq:us.size=cs.length:=by simpa using l8
    have yV:=Lc (w:=w) (Z:=Z) (a.eval o).cells.toList 0 off us (by simp[lh,rq];omega);have mZ:dd w Z (oN cs off (cells (cv st.t x))) ((((a.eval o).cells.toList.zipIdx 0).foldl (fun cs (x:Value×Nat)=>cs.setIfInBounds (off+x.2) x.1) us).toList):=by rw[yV];unfold oN;refine zB (zB (EJ off h) l3) ?_;rw[Nat.add_zero,hlen];exact B8 _ h
    obtain⟨ct,g1,g2⟩:=Zq aO bF parts b1 _ _ cw cs' ar mZ af hT;refine⟨ct,?_,g2⟩;simp only[gM,Instr.fill,List.getElem?_toArray,tS];rw[if_neg (by simp[lh,rq];omega)];rw[<-g1];simp only[List.getElem?_toArray];congr 1;rw[<-Array.foldl_toList];simp
   ·cases he
  ·cases J
end
section
open Go Go.RowKit
theorem wh{P:cI}{bG:List (Nat×dN)}(aJ:fY P bG=true){t:Nat}{f:dN}(aK:eu bG t=some f)(w:World):
  (Go.isAgg t).run P w= .ok f.kind.isAgg w/\(sizeOf t).run P w= .ok f.size w:=by
 obtain⟨i,d,z,J,U,ar,a6,b0,df,eB,oB⟩:=(wi aJ aK).ex;refine⟨?_,by simp[sizeOf,typeInfo,J,ar]⟩;simp only[Go.isAgg,fZ,run_underlying U,gf];cases ad:f.kind<;>rw[ad]at b0<;>cases d<;>simp[kA]at b0<;>simp[CD.isAgg]
theorem jx{P:cI}{bG:List (Nat×dN)}(aJ:fY P bG=true){t:Nat}{f:dN}(aK:eu bG t=some f):∃d,P.underlying t=some d/\kA f.kind d=true:=by obtain⟨i,d,z,J,U,ar,a6,b0,df,eB,oB⟩:=(wi aJ aK).ex;exact⟨d,U,b0⟩
theorem tz{e:Nat}{d:TypeDesc}(h:kA (.slice e) d=true):d= .slice e:=by cases d<;>simp[kA]at h;subst h;rfl
theorem Au{d:TypeDesc}(h:kA .str d=true):d= .string:=by cases d<;>simp[kA]at h;rfl
theorem Gf{k:IntKind}{d:TypeDesc}(h:kA (.int k) d=true):d= .int k:=by cases d<;>simp[kA]at h;subst h;rfl
theorem KB{ee:List (Nat×Nat)}{d:TypeDesc}(h:kA (.struct ee) d=true):∃gs:Array Field,d= .struct gs/\gs.toList.map (fun f=>(f.offset,f.type))=ee:=by cases d<;>simp[kA]at h;rename_i gs;exact⟨gs,rfl,by simpa using h⟩
theorem ID{w:World}{Z:bg}{cs:List aj}{us:List Value}(h:dd w Z cs us)(off sz:Nat):dd w Z ((cs.drop off).take sz) ((us.drop off).take sz):=EJ sz (B8 off h)
theorem X4{w:World}{base el sz n:Nat}{v:Value}{us:List Value}(h:w.ownsRow base el sz v n us){b:Nat}(af:v.ownBlock=some b):∃cap,v= .slice (some ⟨b,0,none⟩) n cap:=by
 rcases h.2 with⟨rfl,_⟩|⟨g,cap,cur,rfl,_⟩
 ·simp[oV]at af
 ·simp[oV]at af;subst af;exact⟨cap,rfl⟩
theorem Good.rowElem{pr:Nat->Prop}{w:World}{Z:bg}{b:List (aI×List aj)}{e:List (aI×gg)}(a7:Good pr w Z b e){k:aI}{n el sz:Nat}{xs:List aj}(ad:look k e=some ⟨n,el,sz,some xs⟩){i f:Nat}{u:Value}(ab:bd w Z (.rptr sz k n i f) u){p:aj}(bF:xs[i]? =some p):
  ∃(v:Value) (us:List Value) (gm:Nat),bd w Z p v/\v.cells.size=sz/\∃b o,u= .pointer (some ⟨b,o,none⟩)/\∀j c,v.cells.toList[f+j]? =some c->w.cell? ⟨b,o+j,none⟩=some c:=by
 simp only[bd]at ab;obtain⟨_,hi,n',e6,J,U,ar⟩:=ab;obtain⟨v,us,ba,bo,b3,c9⟩:=a7.own k _ ad;rw[J]at ba;simp only[ea,jO]at ba;obtain⟨rfl,rfl⟩:=ba;obtain⟨bl,af,rfl⟩:=ar rfl;obtain⟨cap,rfl⟩:=X4 bo af;obtain⟨au,mZ,_⟩:=c9 xs rfl;simp only at au mZ;obtain⟨v,dC,eH,ln⟩:=IA i mZ bF;refine⟨v,us,el,dC,eH,bl,_,rfl,fun j c ae=>?_⟩;have bE:f+j<sz:=by have:=(eV.1 ae).1;simp[eH]at this;exact this
 have hmul:i*sz+sz<=n'*sz:=by have:=Nat.mul_le_mul_right sz (show i+1<=n' from hi);rwa[Nat.succ_mul]at this
 have aw:=bo.cellAt (i*sz+f+j) (by show _<n'*sz;omega);rw[aw];rw[ln,List.getElem?_take,if_pos bE,List.getElem?_drop]at ae;rw[<-ae];congr 1;omega
theorem HE{P:cI}{bG:List (Nat×dN)}(aJ:fY P bG=true){pr:Nat->Prop}{w:World}{Z:bg}{b:List (aI×List aj)}{e:List (aI×gg)}(a7:Good pr w Z b e){t:Nat}{f:dN}(aK:eu bG t=some f)
  {x:aj} {u:Value} (ab:bd w Z x u) {c:Prop} {p:aj} (he:nl b e f.kind.isAgg f.size x=some (c,p)) (aw:c):∃v,(Instr.loadAt t u).run P w= .ok v w/\bd w Z p v:=by
 obtain⟨bD,ag⟩:=wh aJ aK w;generalize GF:f.kind.isAgg=gG at*;generalize eC:f.size=sz at*;unfold nl at he;split at he
 ·rename_i dZ k n i tE;unfold zF at he;split at he
  ·rename_i n' el jK xs ad;split at he
   ·rename_i ax;obtain⟨rfl,rfl⟩:=ax;split at he
    ·rename_i H9 aiJ;obtain⟨PW,us,gm,g1,g2,rj⟩:=Good.rowElem a7 ad ab aiJ;have lE:eT H9=true:=by
      cases gG
      ·simp only[ho,if_false,hf]at he;obtain⟨q,_,he⟩:=he;cases he;exact aw
      ·simp only[if_true]at he;cases he;exact aw.1
     have dA:=vX g1 lE;cases gG
     ·simp only[ho,if_false,hf]at he;obtain⟨q,bn,he⟩:=he;cases he;obtain⟨v,f1,f2,f3⟩:=EI tE dA bn;refine⟨v,?_,f2⟩;obtain⟨b,o,rfl,rj⟩:=rj;have:=rj 0 v (by simpa using f1);simp only[Nat.add_zero]at this;simp[Instr.loadAt,Instr.sureAddr,loadVar,bD,this]
     ·simp only[if_true]at he;cases he;obtain⟨b,o,rfl,rj⟩:=rj;refine⟨.agg ((PW.cells.toList.drop tE).take sz).toArray,?_,by simp only[bd];exact⟨_,rfl,by simpa using ID dA tE sz⟩⟩;have au:=qk dA;have hlen:((PW.cells.toList.drop tE).take sz).length=sz:=by simp only[List.length_take,tl];omega
      have jr:=run_loadCells_list (P:=P) w ⟨b,o,none⟩ ((PW.cells.toList.drop tE).take sz) (fun j v ae=>by
       rw[pW];refine rj j v ?_;rw[List.getElem?_take]at ae;split at ae
       ·simpa[List.getElem?_drop]using ae
       ·cases ae)
      rw[hlen]at jr;simp only[Instr.loadAt,Instr.sureAddr,loadVar,fZ,gL,gf,bD,if_true,ag,jr]
    ·cases he
   ·cases he
  ·cases he
 ·rename_i k off;simp only[bd]at ab;obtain⟨bl,J,rfl⟩:=ab;split at he
  ·rename_i cs ad;obtain⟨iS,us,el,g1,g2,g3,g4,g5⟩:=a7.box k cs ad;rw[J]at g1;cases g1;have tS:gr cs=true:=by
    cases gG
    ·simp only[ho,if_false,hf]at he;obtain⟨q,bn,he⟩:=he;cases he;exact aw
    ·simp only[if_true]at he;cases he;exact aw.1
   rw[vQ tS]at g4;rw[vR tS]at g5;have au:=qk g5;cases gG
   ·simp only[ho,if_false,hf]at he;obtain⟨q,bn,he⟩:=he;cases he;obtain⟨v,f1,f2,f3⟩:=EI off g5 bn;refine⟨v,?_,f2⟩;have rj:w.cell? ⟨bl,off,none⟩=some v:=by simpa[World.cell?,g4]using f1
    simp[Instr.loadAt,Instr.sureAddr,loadVar,bD,rj]
   ·simp only[if_true]at he;cases he;replace aw:=aw.2;refine⟨_,?_,by simp only[bd];exact⟨_,rfl,by simpa using ID g5 off sz⟩⟩;simp only[Instr.loadAt,Instr.sureAddr,loadVar,fZ,gL,gf,bD,if_true,ag];rw[aoY g4 (by simp at au;omega)];rfl
  ·cases he
 ·rename_i q;simp only[bd]at ab;obtain⟨bl,off,e6,rfl,U,ar⟩:=ab;cases gG
  ·simp only[ho,if_false]at he;cases he;obtain⟨UW,AS⟩:=aw;obtain⟨g1,g2⟩:=OU U UW (fun cs e=>by subst e;have:=fh List.length AS;simp only[cells,oX,List.length_nil]at this;cases cs with
    |nil=>simp[cells]at AS
    |cons y ys=>simp only[cells,oW]at AS;obtain⟨ak,aD⟩:=AS;subst aD;have:=fh SizeOf.sizeOf ak;simp at this;omega)
   refine⟨e6,?_,U⟩;rw[g2]at ar;have rj:=ar.1.2;simp[Instr.loadAt,Instr.sureAddr,loadVar,bD,rj]
  ·simp only[if_true]at he;cases he;obtain⟨cs,rfl,hlen⟩:=aw;simp only[bd]at U;obtain⟨us,rfl,a6⟩:=U;refine⟨.agg us,?_,by simp only[bd];exact⟨us,rfl,a6⟩⟩;simp only[pP]at ar;have au:=qk a6;have:=aoZ (P:=P) ar;rw[show us.toList.length=sz from by omega]at this;simp[Instr.loadAt,Instr.sureAddr,loadVar,bD,ag,this]
 ·cases he
theorem agh{P:cI}{bG:List (Nat×dN)}(aJ:fY P bG=true){w:World}{Z:bg}{s i:Nat}{f:dN}{ee:List (Nat×Nat)}(aK:eu bG s=some f)(ad:f.kind= .struct ee){off t:Nat}{g:dN}(hi:ee[i]? =some (off,t))(a7:eu bG t=some g)(br:g.size≠0)
  {x:aj} {u:Value} (ab:bd w Z x u) {c:Prop} {p:aj} (he:sd off g.kind.isAgg g.size x=some (c,p)) (aw:c):∃v,(Instr.fieldAt s u i).run P w= .ok v w/\bd w Z p v:=by
 obtain⟨d,aR,fe⟩:=jx aJ aK;rw[ad]at fe;obtain⟨gs,rfl,kR⟩:=KB fe;have vp:∃fd:Field,gs[i]? =some fd/\fd.offset=off/\fd.type=t:=by rw[<-kR]at hi;simp only[tk,hf]at hi;obtain⟨fd,J,U⟩:=hi;simp only[jO]at U;exact⟨fd,by simpa using J,U.1,U.2⟩
 obtain⟨fd,GN,ay,pt⟩:=vp;obtain⟨bD,ag⟩:=wh aJ a7 w;have jr:∀b o,(Instr.fieldAt s (.pointer (some ⟨b,o,none⟩)) i).run P w= .ok (.pointer (some ⟨b,o+off,none⟩)) w:=by intro b o;simp[Instr.fieldAt,run_underlying aR,GN,Instr.sureAddr,fieldPlace,pt,ag,br,pW,ay]
 unfold sd at he;split at he
 ·cases he;simp only[bd]at ab;obtain⟨b,J,rfl⟩:=ab;exact⟨_,jr _ _,by simp only[bd];exact⟨b,J,rfl⟩⟩
 ·cases he;simp only[bd]at ab;obtain⟨⟨b,o,rfl⟩,hi,n',e6,J,U,ar⟩:=ab;refine⟨_,jr _ _,?_⟩;simp only[bd];refine⟨⟨b,_,rfl⟩,hi,n',e6,J,U,fun e=>?_⟩;obtain⟨b4,ak,aD⟩:=ar e;simp only[awg,ea,Addr.mk.injEq,and_true]at aD;obtain⟨rfl,rfl⟩:=aD;exact⟨b,ak,by rw[Nat.add_assoc]⟩
 ·rename_i cs;simp only[bd]at ab;obtain⟨b,o,e6,rfl,⟨us,rfl,U⟩,ar⟩:=ab;refine⟨_,jr _ _,?_⟩;simp only[pP]at ar;split at he
  ·cases he;simp only[bd];exact⟨b,o+off,.agg ((us.toList.drop off).take g.size).toArray,rfl,⟨_,rfl,by simpa using ID U off g.size⟩,by simpa[pP]using Hz g.size (Hx off ar)⟩
  ·simp only[hf]at he;obtain⟨q,bn,he⟩:=he;cases he;obtain⟨v,f1,f2,f3⟩:=EI off U bn;simp only[bd];have aiq:=vH ar f1;have ai6:v.cells= #[v]:=by cases v<;>first|rfl|cases f3
   exact⟨b,o+off,v,rfl,f2,by rw[ai6];exact⟨aiq,trivial⟩⟩
 ·cases he
theorem ago{P:cI}{bG:List (Nat×dN)}(aJ:fY P bG=true){w:World}{Z:bg}{s i:Nat}{f:dN}{ee:List (Nat×Nat)}(aK:eu bG s=some f)(ad:f.kind= .struct ee){off t:Nat}{g:dN}(hi:ee[i]? =some (off,t))(a7:eu bG t=some g)
  {x:aj} {u:Value} (ab:bd w Z x u) {c:Prop} {p:aj} (he:vb off g.kind.isAgg g.size x=some (c,p)) (aw:c):∃v,(Instr.field s u i).run P w= .ok v w/\bd w Z p v:=by
 obtain⟨d,aR,fe⟩:=jx aJ aK;rw[ad]at fe;obtain⟨gs,rfl,kR⟩:=KB fe;have vp:∃fd:Field,gs[i]? =some fd/\fd.offset=off/\fd.type=t:=by rw[<-kR]at hi;simp only[tk,hf]at hi;obtain⟨fd,J,U⟩:=hi;simp only[jO]at U;exact⟨fd,by simpa using J,U.1,U.2⟩
 obtain⟨fd,GN,ay,pt⟩:=vp;obtain⟨bD,ag⟩:=wh aJ a7 w;unfold vb at he;split at he
 ·rename_i cs;simp only[bd]at ab;obtain⟨us,rfl,U⟩:=ab;generalize GF:g.kind.isAgg=gG at*;cases gG
  ·simp only[ho,if_false,hf]at he;obtain⟨q,bn,he⟩:=he;cases he;obtain⟨v,f1,f2,f3⟩:=EI off U bn;have wE:us[off]? =some v:=by simpa using f1
   exact⟨v,by simp[Instr.field,run_underlying aR,GN,asAgg,part,pt,bD,ay,wE],f2⟩
  ·simp only[if_true]at he;cases he;refine⟨.agg (us.extract off (off+g.size)),by simp[Instr.field,run_underlying aR,GN,asAgg,part,pt,bD,ay,ag],?_⟩;simp only[bd];refine⟨_,rfl,?_⟩;have:=ID U off g.size;simpa[List.take_drop]using this
 ·cases he
theorem ajk{P:cI}{bG:List (Nat×dN)}(aJ:fY P bG=true){w:World}{Z:bg}{t e:Nat}{f g:dN}(aK:eu bG t=some f)(ad:f.kind= .slice e)(a7:eu bG e=some g)
  {x y:aj} {u v:Value} (ab:bd w Z x u) (aL:bd w Z y v) {c:Prop} {p:aj} (he:Bl g.size x y=some (c,p)) (aw:c):∃r,(Instr.indexAt t u v).run P w= .ok r w/\bd w Z p r:=by
 obtain⟨d,aR,fe⟩:=jx aJ aK;rw[ad]at fe;obtain rfl:=tz fe;obtain⟨bD,ag⟩:=wh aJ a7 w;unfold Bl at he;split at he
 ·rename_i dZ tag xs k i;split at he
  ·rename_i eC;cases he;simp only[bd]at ab aL;subst aL;subst eC;obtain⟨⟨a,cap,rfl,J,U,ar⟩,_⟩:=ab;obtain⟨Dx,la⟩:=aw;have jS:i.toNat<xs.length:=Ω
   rcases ar with rfl|⟨b,off,us,rfl,a6,b0⟩
   ·simp at jS
   ·have ab:xs[i.toNat]? =some xs[i.toNat]:=b6 jS;obtain⟨w',dC,eH,ln⟩:=IA i.toNat b0 ab;refine⟨.pointer (some ⟨b,off+i.toNat*g.size,none⟩),?_,?_⟩
    ·simp only[Instr.indexAt,asIntOf,fZ,gL,gf,run_underlying aR,Dx,la,and_self,if_true,ag,pW]
    ·simp only[bd];refine⟨b,off+i.toNat*g.size,w',rfl,by simpa[List.getD,ab]using dC,?_⟩;rw[ln];exact Hz g.size (Hx _ a6)
  ·cases he
 ·rename_i dZ k n me i;split at he
  ·rename_i eC;cases he;simp only[bd]at ab aL;subst aL;subst eC;obtain⟨⟨b,cap,rfl⟩,U,n',e6,ar,a6,b0⟩:=ab;obtain⟨Dx,la⟩:=aw;refine⟨.pointer (some ⟨b,0+i.toNat*g.size,none⟩),?_,?_⟩
   ·simp only[Instr.indexAt,asIntOf,fZ,gL,gf,run_underlying aR,Dx,la,and_self,if_true,ag,pW]
   ·simp only[bd];refine⟨⟨b,_,rfl⟩,Ω,n',e6,ar,a6,fun e=>⟨b,?_,Ψ⟩⟩;rw[<-b0 e];rfl
  ·cases he
 ·cases he
theorem H3{C:fu}{st:bu}{a:Act}{w:World}{Z:bg}(h:c0 C st a w Z){x:Option dF}{o:Option Operand}(ab:xy x o=true){Gg n:Int}(he:rC Gg (x.map (cv st.t))=some n):
  (o.map a.eval=none/\n=Gg)\/ ∃k,o.map a.eval=some (.int k n):=by
 cases x with
 |none=>cases o with
  |none=>simp[rC]at he;exact .inl ⟨rfl,he.symm⟩
  |some o=>simp[xy]at ab
 |some x=>cases o with
  |none=>simp[xy]at ab
  |some o=>
   simp only[xy]at ab
   have:=eE h ab
   simp only[o0]at he⊢
   cases vl:cv st.t x<;>simp[vl,rC]at he
   rw[vl]at this
   simp only[bd]at this
   subst he
   exact .inr ⟨_,by rw[this]⟩
theorem aa6{c d:aj}(h:Jw c d=true):c=d:=by unfold Jw at h;split at h<;>simp_all
theorem P2:∀{cs e1:List aj},zV cs e1=true->cs=e1
 |[],[],_=>rfl
 |[],_::_,h=>by simp[zV]at h
 |_::_,[],h=>by simp[zV]at h
 |c::cs,d::e1,h=>by simp only[zV,cy]at h;rw[aa6 h.1,P2 h.2]
theorem arI{cs:List aj}{z:aj}(h:P6 cs z=true):z= .agg cs:=by
 cases z<;>simp only[P6]at h;case agg e1=>rw[P2 h]
 all_goals cases h
theorem ahp(s:List dw)(n:Nat)(h:n<s.length):(⟨s.toArray⟩:ByteArray)[n]? =some (s.getD n 0):=by
 have eC:n<(⟨s.toArray⟩:ByteArray).size:=by rw[EX];exact h
 have e:(⟨s.toArray⟩:ByteArray)[n]? =some ((⟨s.toArray⟩:ByteArray)[n]'eC):=getElem?_pos (⟨s.toArray⟩:ByteArray) n eC;rw[e];congr 1;simp[List.getD,h];rfl
theorem I1(P:cI)(w:World)(k:IntKind)(i:Int)(y:Nat)(c:BoundsCode)(br:0<=i)(J:i<=y):(Instr.sliceBound (.int k i) y c).run P w= .ok i.toNat w:=by simp[Instr.sliceBound,asIntOf,br,J]
theorem QQ(P:cI)(w:World)(ajF:Bool)(len cap:Nat)(lo hi:Option Value)(l h:Int)(DB:(lo=none/\l=0)\/ ∃k,lo=some (.int k l))(Dw:(hi=none/\h=len)\/ ∃k,hi=some (.int k h))
  (br:0<=l) (J:l<=h) (U:h<=len) (aw:len<=cap):(Instr.sliceBounds ajF len cap lo hi none).run P w= .ok (l.toNat,h.toNat,cap) w:=by
 rcases DB with⟨rfl,rfl⟩|⟨k,rfl⟩<;>rcases Dw with⟨rfl,rfl⟩|⟨bJ,rfl⟩
 ·simp[Instr.sliceBounds]
 ·simp[Instr.sliceBounds,I1 P w bJ h cap _ Ω Ω]
 ·simp[Instr.sliceBounds,I1 P w k l len _ Ω Ω]
 ·simp[Instr.sliceBounds,I1 P w bJ h cap _ Ω Ω,I1 P w k l h.toNat _ Ω Ω]
theorem Ya{P:cI}{bG:List (Nat×dN)}(aJ:fY P bG=true):∀(gs:List Field),(gs.all fun f=>(eu bG f.type).isSome)=true->
  ∃rE:List (Nat×Nat),gs.mapM (fun f=>(P.info? f.type).map fun i=>(f.offset,i.size))=some rE/\
   ∀(i off t sz:Nat),(gs.map (fun f=>(f.offset,f.type)))[i]? =some (off,t)->(eu bG t).map (·.size)=some sz->rE[i]? =some (off,sz)
 |[],_=>⟨[],Ψ,Ψ⟩
 |f::gs,h=>by
  simp only[List.all_cons,cy]at h;obtain⟨rE,J,U⟩:=Ya aJ gs h.2;obtain⟨g,a7⟩:=fL.1 h.1;obtain⟨i,d,z,ak,aD,bh,dk,hy,h8,r3,r4⟩:=(wi aJ a7).ex;refine⟨(f.offset,g.size)::rE,by simp[List.mapM_cons,ak,bh,J],fun j off t sz ae eC=>?_⟩;cases j with
  |zero=>simp only[gM,List.getElem?_cons_zero,ea,jO]at ae⊢;obtain⟨rfl,rfl⟩:=ae;rw[a7]at eC;simpa using eC
  |succ j=>simp only[gM,List.getElem?_cons_succ]at ae⊢;exact U j off t sz ae eC
theorem lP{P:cI}{w:World}{x:Sem Value}{v:Value}(h:x.run P w= .ok v w):(do pure (Next.value (<-x)):Sem Next).run P w= .ok (.value v) w:=by simp[h]
theorem P5{p q:aj}(h:Cv p q=true):p=q:=by
 unfold Cv at h;split at h
 ·rw[P2 h]
 ·cases h
 ·exact aa6 h
theorem P4(w:World)(Z:bg){p:aj}{v:Value}(h:zW p v=true):bd w Z p v/\dd w Z (cells p) v.cells.toList:=by
 by_cases bD:∃cs,p= .agg cs
 ·obtain⟨cs,rfl⟩:=bD;cases v<;>simp only[zW]at h;case agg us=>have:=P3 w Z _ _ h;exact⟨by simp only[bd];exact⟨us,rfl,this⟩,by simpa[cells,pP]using this⟩
  all_goals cases h
 ·have cn:Ag p v=true/\v.oneCell'=true:=by cases p<;>simp only[zW,cy]at h<;>first|exact h|exact absurd ⟨_,rfl⟩ bD
  have aO:=J6 w Z cn.1;refine⟨aO,?_⟩;have aw:cells p=[p]:=by cases p<;>first|rfl|exact absurd ⟨_,rfl⟩ bD
  have aF:v.cells= #[v]:=by have:=cn.2;cases v<;>first|rfl|simp[Value.oneCell']at this
  rw[aw,aF];simp only[dd];exact⟨v,[],rfl,⟨aO,cn.2⟩,rfl⟩
theorem Pt{P:cI}{bG:List (Nat×dN)}(aJ:fY P bG=true){t:Nat}{f:dN}(aK:eu bG t=some f)(w:World):∃z,(zeroValue t).run P w= .ok z w/\zW f.zero z=true/\z.cells.size=f.size:=by obtain⟨i,d,z,J,U,ar,a6,b0,df,eB,oB⟩:=(wi aJ aK).ex;exact⟨z,by simp[zeroValue,typeInfo,J,df],eB,oB⟩
theorem EK{C:fu}{st:bu}{a:Act}{w:World}{Z:bg}(h:c0 C st a w Z):∀{xs:List dF} {os:List Operand},zr xs os=true->cY w Z (xs.map (cv st.t)) (os.map a.eval)
 |[],[],_=>by simp[cY]
 |[],_::_,ad=>by simp[zr]at ad
 |_::_,[],ad=>by simp[zr]at ad
 |x::xs,o::os,ad=>by simp only[zr,cy]at ad;simp only[gM,cY];exact⟨_,_,rfl,eE h ad.1,EK h ad.2⟩
theorem adm{P:cI}{w:World}{t:gu}(aR:P.underlying t=some .bool)(d:Nat)(a b:Bool):(Op.equalIn (d+1) t (.bool a) (.bool b)).run P w= .ok (a==b) w:=by rw[Op.equalIn];simp only[fZ,run_underlying aR,gf,gL]
theorem adn{P:cI}{w:World}{t:gu}(aR:P.underlying t=some .bool)(a b:Bool):(Op.equal t (.bool a) (.bool b)).run P w= .ok (a==b) w:=adm aR _ a b
theorem TD:∀{borns:List Nat} {kvs:List aj} {us:List Value},kvs.length=2*borns.length->us.length=kvs.length->(fN borns us).length=borns.length
 |[],_,us,_,_=>by simp[fN]
 |b4::e7,kvs,[],J,U=>by rw[J]at U;simp at U
 |b4::e7,kvs,[_],J,U=>by rw[J]at U;simp at U;omega
 |b4::e7,kvs,k::v::us,J,U=>by simp only[fN,oX];rw[TD (kvs:=kvs.drop 2) (us:=us) (borns:=e7) (by simp at J⊢;omega) (by simp at J U⊢;omega)]
theorem Zi{w:World}{Z:bg}:∀{b1:List aj} {bf:List Value},cY w Z b1 bf->bf.length=b1.length
 |[],bf,h=>by simp only[cY]at h;subst h;rfl
 |p::b1,bf,h=>by simp only[cY]at h;obtain⟨u,ct,rfl,_,U⟩:=h;simp[Zi U]
theorem v8{P:cI}{w:World}{r:Nat}{o:Obj}(af:w.heap[r]? =some o)(ax:∀c e f,o≠ .cells c e f:=by simp):(getObj r).run P w= .ok o w:=by simp only[getObj,Sem.run,af]
def q0(P:cI):Nat->List Bool->List Field->Prop
 |_,[],[]=>True
 |n,b::r,f::gs=>(f.offset=n/\f.name≠ "_" /\(if b=true then P.underlying f.type=some .string else∃k,P.underlying f.type=some (.int k)))/\q0 P (n+1) r gs
 |_,_,_=>e8
theorem Ez{P:cI}{t:gu}{b:Bool}(h:if b=true then P.underlying t=some .string else∃k,P.underlying t=some (.int k)):P.plainKey t=true:=by
 cases b
 ·obtain⟨k,h⟩:=(by simpa using h:∃k,P.underlying t=some (.int k));simp[Program.plainKey,h]
 ·have h:P.underlying t=some .string:=by simpa using h
  simp[Program.plainKey,h]
theorem aci{P:cI}{w:World}{Z:bg}(d:Nat){X Y:Array Value}(ee:List Bool):∀(gs:List Field) (n:Nat) (as e7:List aj) (us bf:List Value) (q:Bool),q0 P n ee gs->X.toList.drop n=us->Y.toList.drop n=bf->dd w Z as us->dd w Z e7 bf->ky ee as e7=some q->
  (Op.eqFields (d+1) X Y gs).run P w= .ok q w/\(q=true->us=bf)/\∀m,(us.zip us).all (fun(x,y)=>Instr.sameBits m x y)=true:=by
 induction ee with
 |nil=>intro gs n as e7 us bf q a7 Dh Di J U h;cases as<;>cases e7<;>simp only[ky,ea,reduceCtorEq]at h;cases gs<;>simp only[q0]at a7;simp only[dd]at J U;rw[J,U,<-h];exact⟨by simp[Op.eqFields],fun _=>rfl,fun m=>rfl⟩
 |cons yq r bR=>
  intro gs n as e7 us bf q a7 Dh Di J U h;cases gs with
  |nil=>simp only[q0]at a7
  |cons f gs=>
  simp only[q0]at a7;obtain⟨⟨G1,DF,pt⟩,a7⟩:=a7;cases as with
  |nil=>cases yq<;>cases e7<;>simp[ky]at h
  |cons Ex as=>
  cases e7 with
  |nil=>cases yq<;>cases Ex<;>simp[ky]at h
  |cons Ia e7=>
  cases yq with
  |false=>
   have aw:∃k a b gK,Ex= .int k a/\Ia= .int k b/\ky r as e7=some gK/\q=((a==b)&&gK):=by
    cases Ex<;>first|(simp[ky]at h;done)|skip
    cases Ia<;>first|(simp[ky]at h;done)|skip
    simp only[ky]at h;split at h
    ·rename_i ad;subst ad;simp only[hf]at h;obtain⟨gK,ar,a6⟩:=h;exact⟨_,_,_,gK,rfl,rfl,ar,a6.symm⟩
    ·cases h
   obtain⟨k,a,b,gK,rfl,rfl,ar,rfl⟩:=aw;simp only[dd,bd]at J U;obtain⟨u,ct,rfl,⟨rfl,_⟩,J⟩:=J;obtain⟨v,vs',rfl,⟨rfl,_⟩,U⟩:=U;have Ew:X[n]? =some (.int k a):=by rw[<-uG,<-List.head?_drop,Dh];rfl
   have N7:Y[n]? =some (.int k b):=by rw[<-uG,<-List.head?_drop,Di];rfl
   obtain⟨i1,i2,i3⟩:=bR gs (n+1) as e7 ct vs' gK a7 (by rw[<-List.tail_drop,Dh];rfl) (by rw[<-List.tail_drop,Di];rfl) J U ar;obtain⟨me,Mr⟩:=(by simpa using pt:∃k,P.underlying f.type=some (.int k));refine⟨?_,?_,fun m=>?_⟩
   ·simp only[Op.eqFields,DF,ne_eq,not_false_eq_true,if_true,fZ,G1,run_part_plain w (Ez pt) Ew,run_part_plain w (Ez pt) N7,gf,run_equalIn_int w d f.type k me a b Mr];cases nM:(a==b)
    ·simp
    ·simpa using i1
   ·intro bn;simp only[cy,eb]at bn;rw[bn.1,i2 bn.2]
   ·have:=i3 m;simp only[List.zip_cons_cons,List.all_cons,this,Bool.and_true];cases m<;>simp[Instr.sameBits]
  |true=>
   have aw:∃a b gK,Ex= .str a/\Ia= .str b/\ky r as e7=some gK/\q=((a==b)&&gK):=by
    cases Ex<;>first|(simp[ky]at h;done)|skip
    cases Ia<;>first|(simp[ky]at h;done)|skip
    simp only[ky,hf]at h;obtain⟨gK,ar,a6⟩:=h;exact⟨_,_,gK,rfl,rfl,ar,a6.symm⟩
   obtain⟨a,b,gK,rfl,rfl,ar,rfl⟩:=aw;simp only[dd,bd]at J U;obtain⟨u,ct,rfl,⟨⟨rfl,_⟩,_⟩,J⟩:=J;obtain⟨v,vs',rfl,⟨⟨rfl,_⟩,_⟩,U⟩:=U;have Ew:X[n]? =some (.string ⟨a.toArray⟩):=by rw[<-uG,<-List.head?_drop,Dh];rfl
   have N7:Y[n]? =some (.string ⟨b.toArray⟩):=by rw[<-uG,<-List.head?_drop,Di];rfl
   obtain⟨i1,i2,i3⟩:=bR gs (n+1) as e7 ct vs' gK a7 (by rw[<-List.tail_drop,Dh];rfl) (by rw[<-List.tail_drop,Di];rfl) J U ar;have Mr:P.underlying f.type=some .string:=by simpa using pt
   refine⟨?_,?_,fun m=>?_⟩
   ·simp only[Op.eqFields,DF,ne_eq,not_false_eq_true,if_true,fZ,G1,run_part_plain w (Ez pt) Ew,run_part_plain w (Ez pt) N7,gf,run_equalIn_string w d f.type _ _ Mr];have e:((⟨a.toArray⟩:ByteArray).toList==(⟨b.toArray⟩:ByteArray).toList)=(a==b):=by rw[arL,arL]
    rw[e];cases nM:(a==b)
    ·simp
    ·simpa using i1
   ·intro bn;simp only[cy,eb]at bn;rw[bn.1,i2 bn.2]
   ·have:=i3 m;simp only[List.zip_cons_cons,List.all_cons,this,Bool.and_true];cases m<;>simp only[Instr.sameBits]<;>exact(MapKept.bytes_beq _ _).2 rfl
theorem T9{P:cI}{bG:List (Nat×dN)}(aJ:fY P bG=true):∀(ee:List Bool) (gs:List Field) (n:Nat),AG bG n ee (gs.map fun f=>(f.offset,f.type))=true->(gs.all (fun f=>match P.underlying f.type with|some (.int _)=>true|some .string=>true|_=>false)=true)/\((∀f∈gs,f.name≠ "_")->q0 P n ee gs)
 |[],[],_,_=>⟨rfl,fun _=>trivial⟩
 |[],_::_,_,h=>by simp[AG]at h
 |_::_,[],_,h=>by simp[AG]at h
 |b::r,f::gs,n,h=>by
  simp only[gM,AG,cy,eb]at h;obtain⟨⟨J,U⟩,ar⟩:=h;obtain⟨i1,i2⟩:=T9 aJ r gs (n+1) ar;split at U
  ·rename_i aK;obtain⟨d,hu,aR⟩:=jx aJ aK;obtain rfl:=Gf aR;refine⟨by simp only[List.all_cons,hu,i1,Bool.and_self],fun ax=>⟨⟨J,ax f Ψ,?_⟩,i2 fun g a7=>ax g (by simp[a7])⟩⟩;have:b=false:=by simpa using U
   subst this;simpa using⟨_,hu⟩
  ·rename_i aK;obtain⟨d,hu,aR⟩:=jx aJ aK;obtain rfl:=Au aR;refine⟨by simp only[List.all_cons,hu,i1,Bool.and_self],fun ax=>⟨⟨J,ax f Ψ,?_⟩,i2 fun g a7=>ax g (by simp[a7])⟩⟩;subst U;simpa using hu
  ·cases U
theorem Ub{P:cI}{bG:List (Nat×dN)}(aJ:fY P bG=true){ee:List Bool}{t:Nat}(h:Gu bG ee t=true):∃gs,P.underlying t=some (.struct gs)/\q0 P 0 ee gs.toList/\P.stoodInHeld t=false/\P.eqGuardType P.depth t=false:=by
 unfold Gu at h;split at h
 ·rename_i aK;obtain⟨d,hu,aR⟩:=jx aJ aK;have aw:=(wi aJ aK).cmp d hu;cases d<;>simp[kA]at aR;rename_i gs;subst aR;obtain⟨i1,i2⟩:=T9 aJ ee gs.toList 0 h;have tL:Ua P gs=true:=i1;simp only[Ky,tL,Bool.not_true,Bool.false_or,Tm,cy,Bool.not_eq_true',jd,bne_iff_ne,ne_eq]at aw;exact⟨gs,hu,i2 aw.1.1,aw.1.2,aw.2⟩
 ·cases h
theorem TH{P:cI}{w:World}{Z:bg}{t:gu}{gs:Array Field}{ee:List Bool}(hu:P.underlying t=some (.struct gs))(a7:q0 P 0 ee gs.toList)(cF:P.stoodInHeld t=false){as e7:List aj}{X Y:Array Value}(J:dd w Z as X.toList)(U:dd w Z e7 Y.toList){q:Bool}(h:ky ee as e7=some q):
  (Op.equalIn 10000 t (.agg X) (.agg Y)).run P w= .ok q w/\(q=true->X=Y)/\∀m,(X.toList.zip X.toList).all (fun(x,y)=>Instr.sameBits m x y)=true:=by
 have aK:P.fieldsOf t=gs:=by simp[Program.fieldsOf,hu]
 obtain⟨i1,i2,i3⟩:=aci 9998 ee gs.toList 0 as e7 _ _ q a7 rfl rfl J U h;refine⟨?_,fun e=>?_,?_⟩
 ·rw[run_equalIn_struct w 9999 t X Y (by rw[aK];exact hu) cF,aK];exact i1
 ·have:=i2 e;simpa using this
 ·simpa using i3
inductive uL (P:cI):jY->gu->Prop
 |i {t:gu} {k:IntKind}:P.underlying t=some (.int k)->uL P .i t
 |s {t:gu}:P.underlying t=some .string->uL P .s t
 |a {t:gu} {ee:List Bool} {gs:Array Field}:P.underlying t=some (.struct gs)->q0 P 0 ee gs.toList->P.stoodInHeld t=false->uL P (.a ee) t
theorem MR{P:cI}{bG:List (Nat×dN)}(aJ:fY P bG=true){ck:jY}{t:Nat}(h:y5 bG ck t=true):uL P ck t:=by
 cases ck with
 |i=>
  simp only[y5]at h;split at h
  ·rename_i aK;obtain⟨d,hu,aR⟩:=jx aJ aK;obtain rfl:=Gf aR;exact .i hu
  ·cases h
 |s=>
  simp only[y5]at h;split at h
  ·rename_i aK;obtain⟨d,hu,aR⟩:=jx aJ aK;obtain rfl:=Au aR;exact .s hu
  ·cases h
 |a ee=>obtain⟨gs,J,U,ar,_⟩:=Ub aJ h;exact .a J U ar
def ts(P:cI)(w:World)(ck:jY)(t:gu)(hB u:Value)(b:Bool):Prop:=match ck with
 | .a _=>(Op.equal t hB u).run P w= .ok b w
 |_=> ∀d,P.underlying t=some d->Instr.sameNow d hB u=some b
def iv(P:cI)(w:World)(ck:jY)(t:gu)(hB:Value)(es:List MapEntry)(i:Nat)(r:Option (Nat×Value)):Prop:=match ck with
 | .a _=>(Instr.findAsking t hB es i).run P w= .ok r w
 |_=> ∀d,P.underlying t=some d->Instr.findNow d hB es i=some r
theorem iv.nil(P:cI)(w:World)(ck:jY)(t:gu)(hB:Value)(i:Nat):iv P w ck t hB [] i none:=by cases ck<;>simp[iv,Instr.findAsking,Instr.findNow]
theorem iv.hit{P:cI}{w:World}{ck:jY}{t:gu}{hB:Value}{e:MapEntry}{es:List MapEntry}{i:Nat}(h:ts P w ck t hB e.key true):iv P w ck t hB (e::es) i (some (i,e.val)):=by
 cases ck with
 |a ee=>simp only[ts]at h;simp[iv,Instr.findAsking,h]
 |i=>simp only[ts]at h;simp only[iv];intro d aR;simp[Instr.findNow,h d aR]
 |s=>simp only[ts]at h;simp only[iv];intro d aR;simp[Instr.findNow,h d aR]
theorem iv.miss{P:cI}{w:World}{ck:jY}{t:gu}{hB:Value}{e:MapEntry}{es:List MapEntry}{i:Nat}{r:Option (Nat×Value)}(h:ts P w ck t hB e.key false)(aO:iv P w ck t hB es (i+1) r):iv P w ck t hB (e::es) i r:=by
 cases ck with
 |a ee=>simp only[ts]at h;simp only[iv]at aO;simp[iv,Instr.findAsking,h,aO]
 |i=>simp only[ts]at h;simp only[iv]at aO⊢;intro d aR;simp[Instr.findNow,h d aR,aO d aR]
 |s=>simp only[ts]at h;simp only[iv]at aO⊢;intro d aR;simp[Instr.findNow,h d aR,aO d aR]
theorem iv.run{P:cI}{w:World}{ck:jY}{t:gu}(aR:uL P ck t){hB:Value}{es:List MapEntry}{r:Option (Nat×Value)}(h:iv P w ck t hB es 0 r):(Instr.findKey t hB es).run P w= .ok r w:=by
 cases aR with
 |i hu=>simp only[iv]at h;simp[Instr.findKey,run_underlying hu,h _ hu]
 |s hu=>simp only[iv]at h;simp[Instr.findKey,run_underlying hu,h _ hu]
 |a hu a7 cF=>
  simp only[iv]at h;cases es with
  |nil=>simp[Instr.findAsking]at h;simp[Instr.findKey,run_underlying hu,Instr.findNow,h]
  |cons e es=>
   rename_i gs;have:Instr.sameNow (.struct gs) hB e.key=none:=by cases hB<;>rfl
   simp only[Instr.findKey,fZ,run_underlying hu,gf,Instr.findNow,this];exact h
theorem Wr{P:cI}{w:World}{Z:bg}{ck:jY}{t:gu}(aR:uL P ck t){k bJ:aj}{hB u:Value}(ad:bd w Z k hB)(J:bd w Z bJ u){bb:Bool}(af:tY ck k bJ=some bb):
  ts P w ck t hB u bb/\(bb=true->u=hB/\Instr.sameBits 10000 u hB=true):=by
 unfold tY at af;split at af
 ·split at af
  ·rename_i l2;subst l2;simp only[bd]at ad J;subst ad;subst J;cases aR with
   |i hu=>refine⟨fun d aR=>by rw[hu]at aR;cases aR;simpa[Instr.sameNow]using af,fun e=>?_⟩;subst e;simp only[ea,eb]at af;subst af;exact⟨rfl,by simp[Instr.sameBits]⟩
  ·cases af
 ·rename_i a b;simp only[bd]at ad J;obtain⟨rfl,_⟩:=ad;obtain⟨rfl,_⟩:=J;cases aR with
  |s hu=>
   refine⟨fun d aR=>?_,fun e=>?_⟩
   ·rw[hu]at aR;cases aR;simp only[Instr.sameNow];rw[<-af];congr 1;rw[qY,MapKept.bytes_beq];simp
   ·subst e;simp only[ea,eb]at af;subst af;exact⟨rfl,by simp only[Instr.sameBits];exact(MapKept.bytes_beq _ _).2 rfl⟩
 ·simp only[bd]at ad J;obtain⟨X,rfl,ad⟩:=ad;obtain⟨Y,rfl,J⟩:=J;cases aR with
  |a hu a7 cF=>obtain⟨i1,i2,i3⟩:=TH hu a7 cF ad J af;refine⟨by simpa[ts,Op.equal,Op.maxDepth]using i1,fun e=>?_⟩;have:=i2 e;subst this;exact⟨rfl,by simp[Instr.sameBits,i3]⟩
 ·cases af
theorem Nn{P:cI}{w:World}{Z:bg}{ck:jY}{t:gu}(aR:uL P ck t){k:aj}{hB:Value}(ad:bd w Z k hB):∀(borns:List Nat) (kvs:List aj) (us:List Value) (i:Nat) (r:Option aj),cY w Z kvs us->kvs.length=2*borns.length->xp ck k kvs=some r->
  match r with
  |none=>iv P w ck t hB (fN borns us) i none
  |some v=> ∃j u,iv P w ck t hB (fN borns us) i (some (j,u))/\bd w Z v u
 |[],[],us,i,r,h,_,hm=>by simp only[xp]at hm;cases hm;simp only[cY]at h;subst h;simpa[fN]using iv.nil P w ck t hB i
 |[],_::_,_,_,_,_,au,_=>by simp at au
 |b::e7,[],_,_,_,_,au,_=>by simp at au
 |b::e7,[_],_,_,_,_,au,_=>by simp at au;omega
 |b::e7,bJ::v::kvs,us,i,r,h,au,hm=>by
  simp only[cY]at h;obtain⟨iO,PD,rfl,J,jV,td,rfl,U,ar⟩:=h;simp only[xp]at hm;simp only[fN];cases bn:tY ck k bJ with
  |none=>simp[bn]at hm
  |some bb=>
   obtain⟨s1,_⟩:=Wr aR ad J bn;simp only[bn]at hm;cases bb with
   |true=>simp only[ea]at hm;subst hm;exact⟨i,jV,iv.hit (e:=⟨iO,jV,b⟩) s1,U⟩
   |false=>
    simp only at hm;have bR:=Nn aR ad e7 kvs td (i+1) r ar (by simp at au;omega) hm;cases r with
    |none=>exact iv.miss (e:=⟨iO,jV,b⟩) s1 bR
    |some v'=>obtain⟨j,u,g1,g2⟩:=bR;exact⟨j,u,iv.miss (e:=⟨iO,jV,b⟩) s1 g1,g2⟩
theorem Kx{P:cI}{w:World}{t:Nat}{d:TypeDesc}(hu:P.underlying t=some d)(aR:(∃k,d= .int k)\/d= .string)(e:Bool)(n:Nat)(v:Value):(Instr.checkKey e (n+1) t v).run P w= .ok () w:=by unfold Instr.checkKey;rcases aR with⟨k,rfl⟩|rfl<;>simp[run_underlying hu]
theorem agn{P:cI}{w:World}{Z:bg}{X:Array Value}(ee:List Bool):∀(gs:List Field) (n:Nat) (as:List aj),q0 P n ee gs->dd w Z as (X.toList.drop n)->(ky ee as as).isSome=true->
  ∀f∈gs,(∃v,(part f.type X f.offset).run P w= .ok v w)/\∃d,P.underlying f.type=some d/\((∃k,d= .int k)\/d= .string):=by
 induction ee with
 |nil=>intro gs n as a7 _ _ f aK;cases gs<;>simp only[q0]at a7;cases aK
 |cons yq r bR=>
  intro gs n as a7 aO aw f aK;cases gs with
  |nil=>cases aK
  |cons g gs=>
  simp only[q0]at a7;obtain⟨⟨G1,DF,pt⟩,a7⟩:=a7;cases as with
  |nil=>cases yq<;>simp[ky]at aw
  |cons p as=>
  have hT:(ky r as as).isSome=true:=by cases yq<;>cases p<;>simp[ky]at aw⊢ <;>exact aw
  simp only[dd]at aO;obtain⟨u,ct,e,_,dY⟩:=aO;have aD:X.toList.drop (n+1)=ct:=by rw[<-List.tail_drop,e];rfl
  have Ew:X[n]? =some u:=by rw[<-uG,<-List.head?_drop,e];rfl
  rcases fT.1 aK with rfl|aK
  ·refine⟨⟨u,by rw[G1];exact run_part_plain w (Ez pt) Ew⟩,?_⟩;cases yq
   ·obtain⟨k,h⟩:=(by simpa using pt:∃k,P.underlying f.type=some (.int k));exact⟨_,h,.inl ⟨k,rfl⟩⟩
   ·exact⟨_,by simpa using pt,.inr rfl⟩
  ·exact bR gs (n+1) as a7 (by rw[aD];exact dY) hT f aK
theorem Uh{P:cI}{w:World}{α:Type}(body:α->PUnit->Sem (ForInStep PUnit)):∀(l:List α),(∀f∈l,(body f ⟨⟩).run P w= .ok (.yield ⟨⟩) w)->(forIn l PUnit.unit body).run P w= .ok PUnit.unit w
 |[],_=>by simp
 |f::l,h=>by simp only[List.forIn_cons,fZ,h f Ψ,gf];exact Uh body l fun g a7=>h g (by simp[a7])
theorem OY{P:cI}{w:World}{Z:bg}{ck:jY}{t:Nat}(aR:uL P ck t)(e:Bool){k:aj}{v:Value}(ad:bd w Z k v)(hi:xf ck k=true):(Instr.checkKey e 10000 t v).run P w= .ok () w:=by
 cases aR with
 |i hu=>exact Kx hu (.inl ⟨_,rfl⟩) e 9999 v
 |s hu=>exact Kx hu (.inr rfl) e 9999 v
 |a hu a7 cF=>
  rename_i ee gs;cases k<;>simp only[xf,ho]at hi;rename_i as;simp only[bd]at ad;obtain⟨X,rfl,ad⟩:=ad;unfold Instr.checkKey;simp only[fZ,run_underlying hu,gf];rw[<-Array.forIn_toList];rw[Uh]
  ·simp
  ·intro f aK;obtain⟨⟨v,J⟩,d,U,ar⟩:=agn ee gs.toList 0 as a7 (by simpa using ad) hi f aK;have a6:=Kx (w:=w) U ar e 9998 v;by_cases ax:f.name= "_"
   ·simp[ax]
   ·simp[ax,J,a6]
theorem Xc{w:World}{Z:bg}{n:Nat}:∀(borns:List Nat) (kvs:List aj) (us:List Value) (p:aj),cY w Z kvs us->nm n borns kvs=some p->∃e,(fN borns us).find? (·.born==n)=some e/\bd w Z p (.tuple #[e.key,e.val])
 |[],_,_,_,_,hm=>by simp[nm]at hm
 |_::_,[],_,_,_,hm=>by simp[nm]at hm
 |_::_,[_],_,_,_,hm=>by simp[nm]at hm
 |b::e7,k::v::kvs,us,p,h,hm=>by
  simp only[cY]at h;obtain⟨iO,PD,rfl,J,jV,td,rfl,U,ar⟩:=h;simp only[nm]at hm;simp only[fN];by_cases e:b=n
  ·rw[if_pos e]at hm;cases hm;refine⟨⟨iO,jV,b⟩,by simp[List.find?,e],?_⟩;simp only[bd];exact⟨#[iO,jV],rfl,by simp only[cY];exact⟨_,_,rfl,J,_,_,rfl,U,rfl⟩⟩
  ·rw[if_neg e]at hm;obtain⟨x,g1,g2⟩:=Xc e7 kvs td p ar hm;have ahN:(b==n)=false:=by simpa using e
   exact⟨x,by simp[List.find?,ahN,g1],g2⟩
theorem Z8{P:cI}{bG:List (Nat×dN)}(aJ:fY P bG=true){C:fu}{st:bu}{a:Act}{w:World}{Z:bg}(aO:c0 C st a w Z){i:gk}(ahM:∀ck z ok x k,i≠ .mgetB ck z ok x k){o:Oper}(ay:Fc bG i o.op=true)
  {c:Prop} {p:aj} (he:hG st i=some (c,p)) (aw:c):∃v,(execOp a.eval o).run P w= .ok (.value v) w/\bd w Z p v:=by
 obtain⟨dst,op,type,pos,after,guard⟩:=o;simp only at ay;unfold Fc at ay;split at ay
 ·rename_i x o;simp only[hG]at he;cases he;exact⟨_,rfl,eE aO ay⟩
 ·rename_i x o;simp only[hG]at he;cases he;exact⟨_,rfl,eE aO ay⟩
 ·rename_i cw x y ar8 Fm aa4;simp only[cy]at ay;have J:=eE aO ay.1.1;have U:=eE aO ay.1.2;have ar:=eE aO ay.2;simp only[hG,Ib]at he;split at he
  ·rename_i b af;rw[af]at J;simp only[bd]at J;split at he
   ·rename_i u v hu aF;cases he;rw[hu]at U;rw[aF]at ar;simp only[bd]at U ar;refine⟨.bool (cond b u v),?_,by simp[bd]⟩;simp only[execOp,J,U,ar,asBool,fZ,gL,gf];cases b<;>rfl
   ·split at he
    ·cases he;exact⟨_,by simp only[execOp,J,asBool,fZ,gL,gf,if_true],U⟩
    ·cases he;exact⟨_,by simp only[execOp,J,asBool,fZ,gL,gf,ho,if_false],ar⟩
  ·cases he
 ·rename_i agg sz x t o;simp only[cy]at ay;obtain⟨J,U⟩:=ay;split at J
  ·rename_i f aK;simp only[cy,eb]at J;obtain⟨rfl,rfl⟩:=J;obtain⟨v,g1,g2⟩:=HE aJ aO.good aK (eE aO U) (by simpa only[hG]using he) aw;exact⟨v,lP g1,g2⟩
  ·cases J
 ·rename_i off agg sz x s o i;simp only[cy]at ay;obtain⟨J,U⟩:=ay;split at J
  ·rename_i f aK;split at J
   ·rename_i xu t Ds;simp only[cy,eb]at J;obtain⟨rfl,J⟩:=J;split at J
    ·rename_i g a7;simp only[cy,eb,bne_iff_ne,ne_eq]at J;obtain⟨⟨rfl,rfl⟩,br⟩:=J;obtain⟨v,g1,g2⟩:=agh aJ aK rfl Ds a7 br (eE aO U) (by simpa only[hG]using he) aw;exact⟨v,lP g1,g2⟩
    ·cases J
   ·cases J
  ·cases J
 ·rename_i off agg sz x s o i;simp only[cy]at ay;obtain⟨J,U⟩:=ay;split at J
  ·rename_i f aK;split at J
   ·rename_i xu t Ds;simp only[cy,eb]at J;obtain⟨rfl,J⟩:=J;split at J
    ·rename_i g a7;simp only[cy,eb]at J;obtain⟨rfl,rfl⟩:=J;obtain⟨v,g1,g2⟩:=ago aJ aK rfl Ds a7 (eE aO U) (by simpa only[hG]using he) aw;exact⟨v,lP g1,g2⟩
    ·cases J
   ·cases J
  ·cases J
 ·rename_i sz x i t o j;simp only[cy]at ay;obtain⟨⟨J,U⟩,ar⟩:=ay;split at J
  ·rename_i e aK;split at J
   ·rename_i g a7;simp only[eb]at J;subst J;obtain⟨v,g1,g2⟩:=ajk aJ aK rfl a7 (eE aO U) (eE aO ar) (by simpa only[hG]using he) aw;exact⟨v,lP g1,g2⟩
   ·cases J
  ·cases J
 ·rename_i x i t o j;simp only[cy]at ay;obtain⟨⟨J,U⟩,ar⟩:=ay;split at J
  ·rename_i aK;obtain⟨d,aR,fe⟩:=jx aJ aK;obtain rfl:=Au fe;have ak:=eE aO U;have aD:=eE aO ar;simp only[hG,IZ]at he;split at he
   ·rename_i s k n ag ax;cases he;rw[ag]at ak;rw[ax]at aD;simp only[bd]at ak aD;obtain⟨vi,UW⟩:=aw;have bE:n.toNat<s.length:=Ω
    have aib:(⟨s.toArray⟩:ByteArray)[n.toNat]? =some (s.getD n.toNat 0):=by exact ahp s n.toNat bE
    refine⟨_,lP (v:= .int .u8 (s.getD n.toNat 0).toNat) ?_,by simp[bd]⟩;simp only[Instr.index,aD,asIntOf,ak.1,fZ,gL,gf,run_underlying aR,vi,if_true,aib]
   ·cases he
  ·cases J
 ·rename_i x lo hi t o l h;simp only[cy]at ay;obtain⟨⟨⟨J,U⟩,ar⟩,a6⟩:=ay;split at J
  ·rename_i aK;obtain⟨d,aR,fe⟩:=jx aJ aK;obtain rfl:=Au fe;have ak:=eE aO U;simp only[hG,I4]at he;split at he
   ·rename_i s ag;rw[ag]at ak;simp only[bd]at ak;split at he
    ·rename_i qJ cZ au LY;cases he;obtain⟨bM,cp,dc⟩:=aw;have aS:=H3 aO ar au;have be:=H3 aO a6 LY;refine⟨_,lP (v:= .string ⟨((s.take cZ.toNat).drop qJ.toNat).toArray⟩) ?_,?_⟩
     ·have af:=QQ P w false s.length s.length (l.map a.eval) (h.map a.eval) qJ cZ
       aS be bM cp dc (fc _)
      simp only[Instr.sliceAt,Instr.slice,ak.1,fZ,gL,gf,run_underlying aR,Option.map_none,jN,ho,if_false,EX,af,aef]
     ·simp only[bd];refine⟨trivial,?_⟩;have:=ak.2;simp only[tl,List.length_take];omega
    ·cases he
   ·cases he
  ·cases J
 ·rename_i sz x lo hi t o l h;simp only[cy]at ay;obtain⟨⟨⟨J,U⟩,ar⟩,a6⟩:=ay;split at J
  ·rename_i e aK;split at J
   ·rename_i g a7;simp only[eb]at J;subst J;obtain⟨d,aR,fe⟩:=jx aJ aK;obtain rfl:=tz fe;obtain⟨_,eC⟩:=wh aJ a7 w;have ak:=eE aO U;simp only[hG,HF]at he;split at he
    ·rename_i dZ tag xs ag;split at he
     ·rename_i fq;subst fq;rw[ag]at ak;simp only[bd]at ak;obtain⟨⟨tt,cap,aF,bV,b7,fV⟩,_⟩:=ak;split at he
      ·rename_i qJ cZ au LY;cases he;obtain⟨bM,cp,dc⟩:=aw;have aS:=H3 aO ar au;have be:=H3 aO a6 LY;have af:=QQ P w true xs.length cap (l.map a.eval) (h.map a.eval) qJ cZ
        aS be bM cp dc bV
       refine⟨_,lP (v:= .slice (if cap=qJ.toNat then tt else tt.map (·.add (qJ.toNat*g.size))) (cZ.toNat-qJ.toNat) (cap-qJ.toNat)) ?_,?_⟩
       ·simp only[Instr.sliceAt,Instr.slice,aF,fZ,gL,gf,run_underlying aR,Option.map_none,af,eC]
       ·simp only[bd];have hlen:((xs.take cZ.toNat).drop qJ.toNat).length=cZ.toNat-qJ.toNat:=by simp;omega
        refine⟨⟨_,_,by rw[hlen],by rw[hlen];omega,⟨Ω,by rw[hlen];omega⟩,?_⟩,(fun h=>by cases h),(fun g h=>by cases h),(fun _ _ h=>by cases h),(fun _ h=>by cases h)⟩;rcases fV with rfl|⟨b,off,us,rfl,g1,g2⟩
        ·left;simp
        ·by_cases AT:cap=qJ.toNat
         ·left;apply List.eq_nil_of_length_eq_zero;rw[hlen];omega
         ·right;rw[if_neg AT];refine⟨b,off+qJ.toNat*g.size,(us.take (cZ.toNat*g.size)).drop (qJ.toNat*g.size),by simp[pW],Hx _ (Hz _ g1),Y9 _ (Zc _ g2)⟩
      ·cases he
     ·cases he
    ·cases he
   ·cases J
  ·cases J
 ·rename_i op wr x y XY ty o o' aqa;simp only[cy,eW]at ay;obtain⟨⟨rfl,J⟩,U⟩:=ay;obtain⟨r,g1,g2⟩:=ab1 P w Z (by simpa only[hG]using he) aw ty (eE aO J) (eE aO U) o o';exact⟨r,lP g1,g2⟩
 ·rename_i x op ty o;simp only[cy,eW]at ay;obtain⟨rfl,J⟩:=ay;have ak:=eE aO J;simp only[hG]at he;unfold HW at he;split at he
  ·rename_i b af;cases he;rw[af]at ak;simp only[bd]at ak;exact⟨_,lP (v:= .bool (!b)) (by simp[Op.unary,ak]),by simp[bd]⟩
  ·cases he
 ·rename_i x op ty o;simp only[cy,eW]at ay;obtain⟨rfl,J⟩:=ay;have ak:=eE aO J;simp only[hG]at he;unfold HR at he;split at he
  ·rename_i k n af;cases he;rw[af]at ak;simp only[bd]at ak;exact⟨_,lP (v:= .int k (k.wrap (0-n))) (by simp[Op.unary,ak,Op.intArith]),by simp[bd]⟩
  ·cases he
 ·rename_i k x s d o;simp only[cy]at ay;obtain⟨J,U⟩:=ay;split at J
  ·rename_i aS be Dq vm;simp only[eW]at J;subst J;obtain⟨d1,fD,ahV⟩:=jx aJ Dq;obtain rfl:=Gf ahV;obtain⟨d2,e2,ahW⟩:=jx aJ vm;obtain rfl:=Gf ahW;have ak:=eE aO U;simp only[hG]at he;unfold Gd at he;split at he
   ·rename_i bJ n af;cases he;rw[af]at ak;simp only[bd]at ak;exact⟨_,lP (v:= .int k (k.wrap n)) (by simp[convert,ak,run_underlying fD,run_underlying e2,Conv.intToInt]),by simp[bd]⟩
   ·cases he
  ·cases J
 ·rename_i i x o j;simp only[cy,eb]at ay;obtain⟨rfl,J⟩:=ay;have ak:=eE aO J;simp only[hG]at he;unfold Ax at he;split at he
  ·rename_i bf af;simp only[hf]at he;obtain⟨q,bn,he⟩:=he;cases he;rw[af]at ak;simp only[bd]at ak;obtain⟨us,hu,U⟩:=ak;obtain⟨v,g1,g2⟩:=IF i U bn;have lz:us[i]? =some v:=by simpa using g1
   exact⟨v,lP (by simp[Instr.extract,hu,lz]),g2⟩
  ·cases he
 ·rename_i x o t;simp only[cy]at ay;obtain⟨J,U⟩:=ay;have ak:=eE aO U;simp only[hG]at he;unfold Bv at he;split at he
  ·rename_i sz tag xs af;cases he;rw[af]at ak;simp only[bd]at ak;obtain⟨⟨tt,cap,aF,_⟩,_⟩:=ak;refine⟨.int .i64 xs.length,?_,by simp[bd]⟩;split at J
   ·rename_i aK;obtain⟨d,aR,fe⟩:=jx aJ aK;obtain rfl:=tz fe;simp[execOp,resolve,invoke,builtin,Builtin.len_,run_underlying aR,aF,goInt]
   ·cases J
  ·rename_i sz k n af;cases he;rw[af]at ak;simp only[bd]at ak;obtain⟨⟨tt,cap,aF⟩,_⟩:=ak;refine⟨.int .i64 n,?_,by simp[bd]⟩;split at J
   ·rename_i aK;obtain⟨d,aR,fe⟩:=jx aJ aK;obtain rfl:=tz fe;simp[execOp,resolve,invoke,builtin,Builtin.len_,run_underlying aR,aF,goInt]
   ·cases J
  ·rename_i tt n cap af;cases he;rw[af]at ak;simp only[bd]at ak;refine⟨.int .i64 n,?_,by simp[bd]⟩;split at J
   ·rename_i aK;obtain⟨d,aR,fe⟩:=jx aJ aK;obtain rfl:=tz fe;simp[execOp,resolve,invoke,builtin,Builtin.len_,run_underlying aR,ak,goInt]
   ·cases J
  ·cases he
 ·rename_i x o t;simp only[cy]at ay;obtain⟨J,U⟩:=ay;have ak:=eE aO U;simp only[hG]at he;unfold EY at he;split at he
  ·rename_i s af;cases he;rw[af]at ak;simp only[bd]at ak;refine⟨.int .i64 s.length,?_,by simp[bd]⟩;split at J
   ·rename_i aK;obtain⟨d,aR,fe⟩:=jx aJ aK;obtain rfl:=Au fe;simp[execOp,resolve,invoke,builtin,Builtin.len_,run_underlying aR,ak.1,goInt,EX]
   ·cases J
  ·rename_i s af;cases he;rw[af]at ak;simp only[bd]at ak;refine⟨.int .i64 s.size,?_,by simp[bd]⟩;split at J
   ·rename_i aK;obtain⟨d,aR,fe⟩:=jx aJ aK;obtain rfl:=Au fe;simp[execOp,resolve,invoke,builtin,Builtin.len_,run_underlying aR,ak,goInt]
   ·cases J
  ·cases he
 ·rename_i zero parts t b1;split at ay
  ·rename_i ee z aK;simp only[cy]at ay;obtain⟨⟨J,U⟩,ar⟩:=ay;have bz:=arI J;obtain⟨i,d,arH,ak,aD,bh,dk,hy,h8,r3,r4⟩:=(wi aJ aK).ex;obtain⟨gs,rfl,kR⟩:=KB hy;simp only at bz r3 r4;subst bz;have k8:(gs.toList.all fun f=>(eu bG f.type).isSome)=true:=by rw[<-kR]at U;simpa[List.all_map,Function.comp_def]using U
   obtain⟨rE,cX,dI⟩:=Ya aJ gs.toList k8;rw[kR]at dI;cases arH<;>simp only[zW]at r3;case agg us=>
    simp only[hG]at he;cases af:uZ st.t zero parts with
    |none=>simp[af]at he
    |some x=>obtain⟨cw,cs'⟩:=x;simp only[af,o0]at he;cases he;obtain⟨ct,g1,g2⟩:=Zq aO dI parts b1.toList zero us c cs' ar (P3 w Z _ _ r3) af aw;refine⟨.agg ct,lP (run_build w t _ ct ?_),by simp only[bd];exact⟨ct,rfl,g2⟩⟩;simp only[Program.built,ak,aD,h8,cX,pP];simpa using g1
   all_goals cases r3
  ·cases ay
 ·rename_i x o;have ak:=eE aO ay;simp only[hG]at he;unfold BG at he;split at he
  ·rename_i k off af;cases he;rw[af]at ak;have aD:=ak;simp only[bd]at ak;obtain⟨b,_,aF⟩:=ak;exact⟨a.eval o,by simp[execOp,aF],aD⟩
  ·rename_i q af;cases he;rw[af]at ak;have aD:=ak;simp only[bd]at ak;obtain⟨b,off,u,aF,_⟩:=ak;exact⟨a.eval o,by simp[execOp,aF],aD⟩
  ·rename_i f cs af;cases he;rw[af]at ak;have aD:=ak;simp only[bd]at ak;obtain⟨us,aF,_⟩:=ak;exact⟨a.eval o,by simp[execOp,aF],aD⟩
  ·cases he
 ·rename_i x y o o' t da;simp only[cy]at ay;have ak:=eE aO ay.1;have aD:=eE aO ay.2;simp only[hG]at he;unfold HO at he;split at he
  ·rename_i k m bJ n hm ax;split at he
   ·rename_i ad;subst ad;cases he;rw[hm]at ak;rw[ax]at aD;simp only[bd]at ak aD;exact⟨.int k (if n<m then n else m),by simp[execOp,resolve,invoke,builtin,Builtin.min_,Builtin.min2,ak,aD],by simp[bd]⟩
   ·cases he
  ·cases he
 ·rename_i n xs m os;simp only[cy,eb]at ay;obtain⟨rfl,ay⟩:=ay;simp only[hG]at he;cases he;have vh:=EK aO ay;refine⟨.func (.func n) #[] (os.map a.eval),by simp[execOp,Instr.makeFunc],?_⟩;simp only[bd];exact⟨os.map a.eval,rfl,by simpa using vh⟩
 ·rename_i ck zero ok x k t o o' HY;simp only[cy,eb]at ay;obtain⟨⟨⟨rfl,J⟩,U⟩,ar⟩:=ay;have ak:=eE aO U;have aD:=eE aO ar;split at J
  ·rename_i sz ly nk p4 z aK;simp only[cy]at J;obtain⟨Dz,LP⟩:=J;split at LP
   ·rename_i asQ ahZ;have bz:=P5 LP;obtain⟨cQ,hu,fe⟩:=jx aJ aK;have tK:cQ= .map nk p4:=by cases cQ<;>simp[kA]at fe;obtain⟨rfl,rfl⟩:=fe;rfl
    subst tK;obtain⟨b5,lr,z2,_⟩:=Pt aJ ahZ w;rw[<-bz]at z2;have aa:=(P4 w Z z2).1;have my:=MR aJ Dz;simp only[hG]at he;unfold nn at he;split at he
    ·rename_i key ab;rw[ab]at ak;simp only[bd]at ak;obtain⟨bl,bV,b7⟩:=ak;split at he
     ·rename_i clock borns kvs fE;obtain⟨iS,us,el,g1,g2,g3,g4,g5⟩:=aO.good.box key _ fE;rw[bV]at g1;cases g1;simp only[kc]at g4;simp only[jJ]at g5;have hz:(getObj bl).run P w= .ok (.map (fN borns us.toList).toArray clock) w:=v8 g4;split at he
      ·cases he
      rename_i wT;have wO:=OY (P:=P) (w:=w) my ((fN borns us.toList).toArray.isEmpty) aD (by simpa using wT);split at he
      ·rename_i v hm;cases he;obtain⟨j,u,f1,f2⟩:=Nn my aD borns kvs us.toList 0 _ g5.1 g5.2.len hm;refine⟨if ok then .tuple #[u,.bool true]else u,?_,?_⟩
       ·simp only[execOp];refine lP ?_;simp only[Instr.lookup,fZ,run_underlying hu,gf,b7,hz,gL,wO,f1.run my]
       ·cases ok
        ·simpa using f2
        ·simp only[if_true,bd];exact⟨_,rfl,by simp only[cY];exact⟨_,_,rfl,f2,_,_,rfl,by simp[bd],rfl⟩⟩
      ·rename_i hm;cases he;have f1:=Nn my aD borns kvs us.toList 0 _ g5.1 g5.2.len hm;simp only at f1;refine⟨if ok then .tuple #[b5,.bool false]else b5,?_,?_⟩
       ·simp only[execOp];refine lP ?_;simp only[Instr.lookup,fZ,run_underlying hu,gf,b7,hz,gL,wO,f1.run my,lr]
       ·cases ok
        ·simpa using aa
        ·simp only[if_true,bd];exact⟨_,rfl,by simp only[cY];exact⟨_,_,rfl,aa,_,_,rfl,by simp[bd],rfl⟩⟩
      ·cases he
     ·cases he
    ·cases he
   ·cases LP
  ·cases J
 ·rename_i x o;have ak:=eE aO ay;simp only[hG]at he;unfold oJ at he;split at he
  ·rename_i eY ab;rw[ab]at ak;simp only[bd]at ak;obtain⟨bl,bV,b7⟩:=ak;split at he
   ·rename_i since seen last mk fE;obtain⟨iS,us,el,g1,g2,g3,g4,g5⟩:=aO.good.box eY _ fE;rw[bV]at g1;cases g1;simp only[kc]at g4;simp only[jJ,cY,bd]at g5;obtain⟨u,ct,rq,⟨mb,m1,rfl⟩,rfl⟩:=g5;rw[rq]at g4;simp only at g4;split at he
    ·rename_i clock borns kvs L1;obtain⟨ar6,td,asD,aS,be,b8,eg,dm⟩:=aO.good.box mk _ L1;rw[m1]at aS;cases aS;simp only[kc]at eg;simp only[jJ]at dm;split at he
     ·rename_i n ax;simp only[hf]at he;obtain⟨q,bn,he⟩:=he;cases he;obtain⟨e,f1,f2⟩:=Xc borns kvs td.toList p dm.1 bn;refine⟨.tuple #[e.key,e.val],?_,f2⟩;simp only[execOp];refine lP ?_;have ah7:(getObj bl).run P w= .ok (.mapIter (some mb) since seen.toArray last) w:=v8 g4;have ah8:(getObj mb).run P w= .ok (.map (fN borns td.toList).toArray clock) w:=v8 eg;have LI:seen.toArray.back? =some n:=by simpa using ax
      have AU:(clock !=last)=false:=by simp[aw]
      have ah0:(fN borns td.toList).toArray.find? (·.born==n)=some e:=by simpa using f1
      simp only[Instr.entry,b7,fZ,ah7,gf,LI,ah8,AU,ho,if_false,ah0,gL]
     ·cases he
    ·cases he
   ·cases he
  ·cases he
 ·rename_i x o t;simp only[cy]at ay;obtain⟨J,U⟩:=ay;have ak:=eE aO U;simp only[hG]at he;unfold sS at he;split at he
  ·rename_i key af;rw[af]at ak;simp only[bd]at ak;obtain⟨bl,bV,b7⟩:=ak;split at he
   ·rename_i clock borns kvs fE;cases he;obtain⟨iS,us,el,g1,g2,g3,g4,g5⟩:=aO.good.box key _ fE;rw[bV]at g1;cases g1;simp only[kc]at g4;simp only[jJ]at g5;have hz:(getObj bl).run P w= .ok (.map (fN borns us.toList).toArray clock) w:=v8 g4;have hlen:(fN borns us.toList).length=borns.length:=TD g5.2.len (Zi g5.1);refine⟨.int .i64 borns.length,?_,by simp[bd]⟩;split at J
    ·rename_i aK;obtain⟨d,aR,fe⟩:=jx aJ aK;obtain⟨nk,p4,rfl⟩:∃nk p4,d= .map nk p4:=by cases d<;>simp[kA]at fe;exact⟨_,_,rfl⟩
     simp[execOp,resolve,invoke,builtin,Builtin.len_,run_underlying aR,b7,goInt,hz,hlen]
    ·cases J
   ·cases he
  ·cases he
 ·rename_i neg ee x y op t o o' aqa;simp only[cy,eW]at ay;obtain⟨⟨⟨rfl,br⟩,J⟩,U⟩:=ay;have ak:=eE aO J;have aD:=eE aO U;simp only[hG]at he;unfold iR at he;split at he
  ·rename_i bs b4 bD af;simp only at br;cases he;rw[bD]at ak;rw[af]at aD;simp only[bd]at ak aD;split at br
   ·rename_i aK;obtain⟨d,aR,fe⟩:=jx aJ aK;obtain rfl:d= .bool:=by cases d<;>simp[kA]at fe;rfl
    refine⟨.bool (if neg then bs !=b4 else bs==b4),lP ?_,by simp[bd]⟩;cases neg<;>simp[ak,aD,eqGuard,binOp,adn aR,bne]
   ·cases br
  ·rename_i asX as e7 bD af;simp only at br;simp only[hf]at he;obtain⟨q,bn,he⟩:=he;cases he;rw[bD]at ak;rw[af]at aD;simp only[bd]at ak aD;obtain⟨X,ac8,anB⟩:=ak;obtain⟨Y,ac9,anC⟩:=aD;obtain⟨gs,hu,a7,cF,jo⟩:=Ub aJ br;obtain⟨i1,_,_⟩:=TH hu a7 cF anB anC bn;refine⟨.bool (if neg then !q else q),lP ?_,by simp[bd]⟩;rw[ac8,ac9];cases neg
   ·simp only[ho,if_false,fZ,run_eqGuard_agg w _ t o o' X Y jo,gf,run_eql_struct,i1]
   ·simp only[if_true,fZ,run_eqGuard_agg w _ t o o' X Y jo,gf,run_neq_struct,i1]
  ·cases he
 ·rename_i x y o o' t da;simp only[cy]at ay;have ak:=eE aO ay.1;have aD:=eE aO ay.2;simp only[hG]at he;unfold HJ at he;split at he
  ·rename_i k m bJ n hm ax;split at he
   ·rename_i ad;subst ad;cases he;rw[hm]at ak;rw[ax]at aD;simp only[bd]at ak aD;exact⟨.int k (if m<n then n else m),by simp[execOp,resolve,invoke,builtin,Builtin.max_,Builtin.max2,ak,aD],by simp[bd]⟩
   ·cases he
  ·cases he
 ·rename_i t x da o;simp only[cy,eb]at ay;obtain⟨⟨rfl,J⟩,U⟩:=ay;have ak:=eE aO U;simp only[hG]at he;cases he;split at J
  ·rename_i aK;obtain⟨d,aR,fe⟩:=jx aJ aK;obtain rfl:=tz fe;refine⟨.iface t (a.eval o),lP (by simp[Instr.makeInterface,run_underlying aR]),?_⟩;simp only[bd];exact⟨_,rfl,ak⟩
  ·cases J
 ·rename_i agg sz x t o;simp only[cy]at ay;obtain⟨J,U⟩:=ay;split at J
  ·rename_i f aK;simp only[cy,eb]at J;obtain⟨rfl,rfl⟩:=J;obtain⟨v,g1,g2⟩:=HE aJ aO.good aK (eE aO U) (akf (by simpa only[hG]using he)) aw;exact⟨v,lP g1,g2⟩
  ·cases J
 ·rename_i agg sz x t o;simp only[cy]at ay;obtain⟨J,U⟩:=ay;split at J
  ·rename_i f aK;simp only[cy,eb]at J;obtain⟨rfl,rfl⟩:=J;obtain⟨v,g1,g2⟩:=HE aJ aO.good aK (eE aO U) (agv (by simpa only[hG]using he)) aw;exact⟨v,lP g1,g2⟩
  ·cases J
 ·exact absurd rfl (ahM _ _ _ _ _)
 ·cases ay
theorem aqh{P:cI}{bG:List (Nat×dN)}(aJ:fY P bG=true){C:fu}{st:bu}{a:Act}{w:World}{Z:bg}(aO:c0 C st a w Z){i:gk}{o:Oper}(ay:Fc bG i o.op=true)
  {c:Prop} {p:aj} (he:hG st i=some (c,p)) (aw:c):∃v,(execOp a.eval o).run P w= .ok (.value v) w/\bd w Z p v:=by
 by_cases af:∃ck z ok x k,i= .mgetB ck z ok x k
 ·obtain⟨ck,z,ok,x,k,rfl⟩:=af;refine Z8 aJ aO (i:= .mget ck z ok x k) (fun _ _ _ _ _ e=>by cases e) ?_ he aw;obtain⟨dst,op,type,pos,after,guard⟩:=o;cases op<;>first|exact ay|simp[Fc]at ay
 ·exact Z8 aJ aO (fun ck z ok x k e=>af ⟨ck,z,ok,x,k,e⟩) ay he aw
theorem Tb{w:World}{o:Obj}{b i:Nat}(h:b<w.heap.size):(w.alloc o).cell? ⟨b,i,none⟩=w.cell? ⟨b,i,none⟩:=World.cell?_of_block (Below.heap_alloc w o b h)
def bg.withBox(Z:bg)(k:aI)(bl:Nat):bg:={Z with bx:=fun j=>if j=k then some bl else Z.bx j}
def bg.withOwn(Z:bg)(k:aI)(n:Nat)(v:Value):bg:={Z with ow:=fun j=>if j=k then some (n,v)else Z.ow j}
theorem c0.lookNone{C:fu}{st:bu}{a:Act}{w:World}{Z:bg}(h:c0 C st a w Z){k:aI}(ad:fresh st.n st.o k):look k st.b=none/\look k st.e=none:=by
 obtain⟨J,U,_⟩:=h.new k ad;constructor
 ·cases af:look k st.b with
  |none=>rfl
  |some cs=>obtain⟨bl,us,el,g1,_⟩:=h.good.box _ _ af;rw[J]at g1;cases g1
 ·cases af:look k st.e with
  |none=>rfl
  |some o=>obtain⟨v,us,g1,_⟩:=h.good.own _ _ af;rw[U]at g1;cases g1
theorem Good.ownLt{pr:Nat->Prop}{w:World}{Z:bg}{b:List (aI×List aj)}{e:List (aI×gg)}(h:Good pr w Z b e){g:aI}{o:gg}(a7:look g e=some o){n:Nat}{v:Value}(aF:Z.ow g=some (n,v)){bl:Nat}(af:v.ownBlock=some bl):bl<w.heap.size:=by obtain⟨v',us,g1,g2,_⟩:=h.own g o a7;rw[aF]at g1;cases g1;exact(g2.lt bl af).2
theorem Good.boxLt{pr:Nat->Prop}{w:World}{Z:bg}{b:List (aI×List aj)}{e:List (aI×gg)}(h:Good pr w Z b e){k:aI}{cs:List aj}(ad:look k b=some cs){bl:Nat}(af:Z.bx k=some bl):bl<w.heap.size:=by obtain⟨iS,us,el,g1,_,_,g4,_⟩:=h.box k cs ad;rw[af]at g1;cases g1;exact(Array.getElem?_eq_some_iff.1 g4).1
theorem c0.newBox{C:fu}{st:bu}{a:Act}{w:World}{Z:bg}(h:c0 C st a w Z){dU:aI}(Dy:Z.bx dU=none/\Z.ow dU=none/\∀j b,¬Z.tr dU j b){n':Nat}{o':List aI}(cU:∀j,fresh n' o' j->fresh st.n st.o j/\j≠dU){cs:List aj}{us:Array Value}(el:gu)(aw:jJ w Z cs us.toList):
  c0 C {st with b:=cA dU cs st.b,n:=n',o:=o'} a (w.alloc (kc cs us el)) (Z.withBox dU w.heap.size)/\
  bd (w.alloc (kc cs us el)) (Z.withBox dU w.heap.size) (.ptr dU 0) (.pointer (some ⟨w.heap.size,0,none⟩)):=by
 obtain⟨po,vu,aix⟩:=Dy;have ay:lU w Z (w.alloc (kc cs us el)) (Z.withBox dU w.heap.size):=by
  refine⟨fun b o bm=>⟨bm,Tb (h.good.alt b o bm)⟩,fun k b _ ad=>?_,fun g n u _ a7=>⟨n,u,a7,.inl ⟨rfl,rfl⟩⟩,fun b o bm=>xJ (Below.heap_alloc w _ b (h.good.alt b o bm)),fun _ _ _ _ h=>h⟩;have:k≠dU:=fun e=>by subst e;rw[po]at ad;cases ad
  simp[bg.withBox,this,ad]
 have eC:(w.alloc (kc cs us el)).heap.size=w.heap.size+1:=by simp
 have gp:∀k,(look k (cA dU cs st.b)).isSome->k=dU\/(k≠dU/\(look k st.b).isSome/\(Z.withBox dU w.heap.size).bx k=Z.bx k):=by
  intro k ad;by_cases e:k=dU
  ·exact .inl e
  ·rw[jt,if_neg (lv e)]at ad;exact .inr ⟨e,ad,by simp[bg.withBox,e]⟩
 refine⟨h.over ay rfl ⟨fun bl o bm=>by rw[eC];have:=h.good.alt bl o bm;omega,fun k e1 ad=>?_,fun k bJ bl ad oD ak aD=>?_,fun g o a7=>?_,h.good.oinj,fun g k n v bl a7 ad aF af ab=>?_,fun k=>?_,fun bl af k j aJ=>?_⟩
  ⟨h.fr.os,h.fr.tape,h.fr.output,by rw[eC];have:=h.fr.size;omega,fun k ad hm=>?_,fun b o bm=>?_,h.fr.fresh,fun n b af=>?_,h.fr.obn,h.fr.row,h.fr.obr,h.fr.trd,fun k j b af=>⟨(h.fr.trb k j b af).1,by rw[eC];have:=(h.fr.trb k j b af).2;omega⟩,fun k j b af=>?_,fun b o bm=>(ay.sh b o (h.fr.keep b o bm).1).trans (h.fr.sh b o bm)⟩ (fun m hm=>?_),?_⟩
 ·simp only at ad;rw[jt]at ad;by_cases e:dU=k
  ·rw[if_pos e]at ad;cases ad;subst e;refine⟨w.heap.size,us,el,by simp[bg.withBox],.inr h.fr.size,fun o bm=>?_,heap_alloc_new w _,qP ay aw⟩;have:=h.good.alt _ o bm;omega
  ·rw[if_neg e]at ad;obtain⟨bl,ct,gm,g1,g2,g3,g4,g5⟩:=h.good.box k e1 ad;exact⟨bl,ct,gm,ay.bx _ _ trivial g1,g2,g3,by rw[Below.heap_alloc w _ bl (Array.getElem?_eq_some_iff.1 g4).1];exact g4,qP ay g5⟩
 ·rcases gp k ad with rfl|⟨iA,gC,jH⟩<;>rcases gp bJ oD with rfl|⟨m1,m2,m3⟩
  ·rfl
  ·exfalso;simp only[bg.withBox,if_true,ea]at ak;subst ak;rw[m3]at aD;obtain⟨e1,jm⟩:=fL.1 m2;have:=h.good.boxLt jm aD;omega
  ·exfalso;simp only[bg.withBox,if_true,ea]at aD;subst aD;rw[jH]at ak;obtain⟨e1,jm⟩:=fL.1 gC;have:=h.good.boxLt jm ak;omega
  ·rw[jH]at ak;rw[m3]at aD;exact h.good.inj k bJ bl gC m2 ak aD
 ·obtain⟨v,xs,g1,g2,g3,g4⟩:=h.good.own g o a7;exact⟨v,xs,g1,g2.alloc _,g3,s6 ay (fun _ _ _ h=>h) g4⟩
 ·rcases gp k ad with rfl|⟨iA,gC,jH⟩
  ·simp only[bg.withBox,if_true,ea]at ab;subst ab;obtain⟨o,ia⟩:=fL.1 a7;have:=h.good.ownLt ia aF af;omega
  ·rw[jH]at ab;exact h.good.obx g k n v bl a7 gC aF af ab
 ·by_cases e:k=dU
  ·subst e;exact .inr vu
  ·rcases h.good.one k with J|J
   ·exact .inl (by simp[bg.withBox,e,J])
   ·exact .inr J
 ·rcases af with⟨bJ,bH,a2⟩|af
  ·rcases gp bJ bH with rfl|⟨iA,gC,jH⟩
   ·simp[bg.withBox]at a2;subst a2;exact absurd (h.fr.trb k j _ aJ).2 (Nat.lt_irrefl _)
   ·exact h.good.otr bl (.inl ⟨bJ,gC,by rw[<-jH];exact a2⟩) k j aJ
  ·exact h.good.otr bl (.inr af) k j aJ
 ·rw[Below.heap_alloc w _ k (by have:=h.fr.size;omega)];exact h.fr.block k ad hm
 ·obtain⟨aS,be⟩:=h.fr.keep b o bm;exact⟨aS,(Tb (h.good.alt b o aS)).trans be⟩
 ·exact ay.bx _ _ trivial (h.fr.obj n b af)
 ·have cM:k≠dU:=fun e=>by subst e;exact aix j b af
  obtain⟨t1,t2⟩:=h.fr.trn k j b af;exact⟨by simp[bg.withBox,cM,t1],t2⟩
 ·obtain⟨f1,f2⟩:=cU m hm;obtain⟨aS,be⟩:=h.new m f1;refine⟨?_,be⟩;simp[bg.withBox,f2,aS]
 ·simp[bd,bg.withBox]
theorem c0.setBox{C:fu}{st:bu}{a:Act}{w w':World}{Z:bg}(h:c0 C st a w Z){k:aI}{cs cs':List aj}(ad:look k st.b=some cs){bl:Nat}(af:Z.bx k=some bl){us:Array Value}{el:gu}
  (A7:w'.os=w.os) (Mq:w'.tape=w.tape) (Md:w'.output=w.output) (nT:∀j,j≠bl->w'.heap[j]? =w.heap[j]?) (eC:w'.heap.size=w.heap.size) (kS:w'.heap[bl]? =some (kc cs' us el)) (aw:jJ w Z cs' us.toList):
  c0 C {st with b:=cA k cs' st.b} a w' Z/\lU w Z w' Z:=by
 obtain⟨iS,fJ,asC,g1,g2,g3,g4,g5⟩:=h.good.box k cs ad;rw[af]at g1;cases g1;have ay:lU w Z w' Z:=by
  refine⟨fun b o bm=>⟨bm,World.cell?_of_block (nT b fun e=>?_)⟩,fun _ _ _ h=>h,fun g n u _ a7=>⟨n,u,a7,.inl ⟨rfl,rfl⟩⟩,fun b o bm=>xJ (nT b fun e=>?_),fun _ _ _ _ h=>h⟩<;>
  (subst e;exact g3 o bm)
 have GQ:∀j,(look j (cA k cs' st.b)).isSome->(look j st.b).isSome:=by
  intro j ae;rw[jt]at ae;by_cases e:k=j
  ·subst e;simp[ad]
  ·rwa[if_neg e]at ae
 refine⟨h.over ay rfl ⟨fun b o bm=>by rw[eC];exact h.good.alt b o bm,fun j e1 ae=>?_,fun j dT b ae gq=>h.good.inj j dT b (GQ j ae) (GQ dT gq),fun g o a7=>?_,h.good.oinj,fun g j n v b a7 ae=>h.good.obx g j n v b a7 (GQ j ae),h.good.one,fun bl af=>h.good.otr bl (af.imp (fun⟨k,J,U⟩=>⟨k,GQ k J,U⟩) id)⟩
  ⟨A7.trans h.fr.os,Mq.trans h.fr.tape,Md.trans h.fr.output,by rw[eC];exact h.fr.size,fun j ae hm=>?_,fun b o bm=>?_,h.fr.fresh,h.fr.obj,h.fr.obn,h.fr.row,h.fr.obr,h.fr.trd,fun k j b af=>⟨(h.fr.trb k j b af).1,by rw[eC];exact(h.fr.trb k j b af).2⟩,h.fr.trn,fun b o bm=>(ay.sh b o (h.fr.keep b o bm).1).trans (h.fr.sh b o bm)⟩ h.new,ay⟩
 ·simp only at ae;rw[jt]at ae;by_cases e:k=j
  ·rw[if_pos e]at ae;cases ae;subst e;exact⟨bl,us,el,af,g2,g3,kS,qP ay aw⟩
  ·rw[if_neg e]at ae;obtain⟨b,ct,gm,ak,aD,bh,dk,hy⟩:=h.good.box j e1 ae;refine⟨b,ct,gm,ak,aD,bh,?_,qP ay hy⟩;rw[nT b fun fj=>e (h.good.inj k j bl (by simp[ad]) (by simp[ae]) af (by rw[<-fj];exact ak))];exact dk
 ·obtain⟨v,xs,ak,aD,bh,dk⟩:=h.good.own g o a7;refine⟨v,xs,ak,⟨aD.1,?_⟩,bh,s6 ay (fun _ _ _ h=>h) dk⟩;rcases aD.2 with aD|⟨bb,cap,cur,f1,f2,f3,f4⟩
  ·exact .inl aD
  ·refine .inr ⟨bb,cap,cur,f1,f2,?_,f4⟩;rw[nT bb fun fj=>h.good.obx g k o.n v bl (by simp[a7]) (by simp[ad]) ak (by rw[f1,<-fj];rfl) af];exact f3
 ·rw[nT j fun e=>by subst e;exact g2.elim hm (fun g2=>Ω)];exact h.fr.block j ae hm
 ·obtain⟨aS,be⟩:=h.fr.keep b o bm;exact⟨aS,(ay.A b o aS).2.trans be⟩
theorem c0.storeBox{C:fu}{st:bu}{a:Act}{w:World}{Z:bg}(h:c0 C st a w Z){k:aI}{cs cs':List aj}(ad:look k st.b=some cs){bl:Nat}(af:Z.bx k=some bl)(bF:gr cs=true){us:Array Value}(aw:dd w Z cs' us.toList):
  c0 C {st with b:=cA k cs' st.b} a (w.setRow bl us) Z:=by
 obtain⟨iS,fJ,el,g1,g2,g3,g4,g5⟩:=h.good.box k cs ad;rw[af]at g1;cases g1;rw[vQ bF]at g4;have Vx:=Ca aw;exact(h.setBox (w':=w.setRow bl us) ad af (us:=us) (el:=el) rfl rfl rfl (fun j ae=>setRow_other w bl j us ae) (setRow_size w bl us) (by rw[vQ Vx];exact setRow_heap w bl fJ us el _ g4) (by rw[vR Vx];exact aw)).1
def bg.withRowOf(Z:bg)(k:aI)(v:Value)(n cells:Nat):bg:={A:=fun b o=>Z.A b o\/(v.ownBlock=some b/\o<cells),bx:=Z.bx,ow:=fun j=>if j=k then some (n,v)else Z.ow j,tr:=Z.tr}
theorem MZ{w:World}{A:Nat->Nat->Prop}{b:Nat}:∀(us:List Value) (off:Nat),(∀j u,us[j]? =some u->A b (off+j)/\w.cell? ⟨b,off+j,none⟩=some u)->mf w A b off us
 |[],_,_=>trivial
 |u::us,off,h=>⟨h 0 u rfl,MZ us (off+1) fun j x ae=>by have:=h (j+1) x (by simpa using ae);rwa[show off+(j+1)=off+1+j from by omega]at this⟩
theorem Ga{w w':World}(a7:w.grownBy w' none){b i:Nat}(h:b<w.heap.size):w'.cell? ⟨b,i,none⟩=w.cell? ⟨b,i,none⟩:=World.cell?_of_block (a7.block b h Ψ)
theorem c0.newRowM{C:fu}{st:bu}{a:Act}{w w':World}{Z:bg}(h:c0 C st a w Z){k:aI}{xs:List aj}(ad:(Z.bx k=none/\Z.ow k=none/\∀j b,¬Z.tr k j b)\/ ∃o,look k st.e=some o/\o.n<xs.length){el sz:Nat}{v:Value}{us:List Value}
  (a7:w.grownBy w' none) (l5:w'.ownsRow w.heap.size el sz v xs.length us) (aw:dR w Z sz xs us) (ev:xs.length<=lim) {n':Nat} {o':List aI} (cU:∀j,fresh n' o' j->fresh st.n st.o j/\j≠k):
  c0 C {st with e:=cA k ⟨xs.length,el,sz,some xs⟩ st.e,n:=n',o:=o'} a w' (Z.withOwn k xs.length v)/\
  ((∃b cap,v= .slice (some ⟨b,0,none⟩) xs.length cap)->bd w' (Z.withOwn k xs.length v) (.row sz k xs.length) v):=by
 have ri:∀bl,v.ownBlock=some bl->w.heap.size<=bl/\bl<w'.heap.size:=fun bl af=>l5.lt bl af;have ay:lU w Z w' (Z.withOwn k xs.length v):=by
  refine⟨fun b o bm=>⟨bm,Ga a7 (h.good.alt b o bm)⟩,fun j b _ ae=>ae,fun g n u _ jo=>?_,fun b o bm=>xJ (a7.block b (h.good.alt b o bm) Ψ),fun _ _ _ _ h=>h⟩;by_cases e:g=k
  ·subst e;rcases ad with ad|⟨o,ay,bE⟩
   ·rw[ad.2.1]at jo;cases jo
   ·obtain⟨v0,fJ,ak,_⟩:=h.good.own g o ay;rw[ak]at jo;cases jo;exact⟨xs.length,v,by simp[bg.withOwn],.inr bE⟩
  ·exact⟨n,u,by simp[bg.withOwn,e,jo],.inl ⟨rfl,rfl⟩⟩
 have ld:∀g,(look g (cA k ⟨xs.length,el,sz,some xs⟩ st.e)).isSome->g=k\/(g≠k/\(look g st.e).isSome/\(Z.withOwn k xs.length v).ow g=Z.ow g):=by
  intro g kR;by_cases e:g=k
  ·exact .inl e
  ·rw[jt,if_neg (lv e)]at kR;exact .inr ⟨e,kR,by simp[bg.withOwn,e]⟩
 have Vt:∀bl,v.ownBlock=some bl->∀j,¬Z.A bl j:=fun bl af j bm=>by have J:=h.good.alt bl j bm;have:=(ri bl af).1;omega
 have aiE:∀j b,¬Z.tr k j b:=fun j b af=>by
  rcases ad with ad|⟨o,ia,_⟩
  ·exact ad.2.2 j b af
  ·obtain⟨v0,fJ,ak,_⟩:=h.good.own k o ia;rw[(h.fr.trn k j b af).2]at ak;cases ak
 refine⟨h.over ay rfl ⟨fun bl o bm=>?_,fun j e1 ae=>?_,h.good.inj,fun g o fa=>?_,fun g fv n n' u e6 bl J U ar a6 b0 df=>?_,fun g j n u bl J U ar a6 b0=>?_,fun j=>?_,fun bl af bJ j aJ=>?_⟩
  ⟨a7.os.trans h.fr.os,a7.tape.trans h.fr.tape,a7.output.trans h.fr.output,kJ h.fr.size a7.size,fun j ae hm=>?_,fun b o bm=>?_,h.fr.fresh,h.fr.obj,h.fr.obn,fun m n u hm=>EN (h.fr.row m n u hm) (fun n u=>ay.ow _ n u trivial),h.fr.obr,h.fr.trd,fun k j b af=>⟨(h.fr.trb k j b af).1,Nat.lt_of_lt_of_le (h.fr.trb k j b af).2 a7.size⟩,fun bJ j b af=>?_,fun b o bm=>(ay.sh b o (h.fr.keep b o bm).1).trans (h.fr.sh b o bm)⟩ (fun m hm=>?_),?_⟩
 ·have:=h.good.alt bl o bm;have:=a7.size;omega
 ·obtain⟨bl,ct,gm,g1,g2,g3,g4,g5⟩:=h.good.box j e1 ae;have bE:=(Array.getElem?_eq_some_iff.1 g4).1;exact⟨bl,ct,gm,g1,g2,g3,by rw[a7.block bl bE Ψ];exact g4,qP ay g5⟩
 ·simp only at fa;rw[jt]at fa;by_cases e:k=g
  ·rw[if_pos e]at fa;cases fa;subst e;refine⟨v,us,by simp[bg.withOwn],⟨l5.1,?_⟩,fun bl af=>⟨.inr (kJ h.fr.size (ri bl af).1),fun j bm=>absurd bm (Vt bl af j)⟩,fun ys aL=>?_⟩
   ·rcases l5.2 with ak|⟨bb,cap,cur,f1,f2,f3⟩
    ·exact .inl ak
    ·exact .inr ⟨bb,cap,cur,f1,Ω,f3⟩
   ·simp only[ea]at aL;subst aL;exact⟨rfl,B7 ay aw,Vt⟩
  ·rw[if_neg e]at fa;obtain⟨v0,fJ,ak,aD,bh,dk⟩:=h.good.own g o fa;exact⟨v0,fJ,by simp[bg.withOwn,lv e,ak],aD.kept a7 (by cases v0.ownBlock<;>simp),bh,s6 ay (fun _ _ _ h=>h) dk⟩
 ·rcases ld g J with rfl|⟨iA,gC,jH⟩<;>rcases ld fv U with rfl|⟨m1,m2,m3⟩
  ·rfl
  ·exfalso;simp only[bg.withOwn,if_true,ea,jO]at ar;rw[m3]at a6;obtain⟨o,ia⟩:=fL.1 m2;have au:=h.good.ownLt ia a6 df;have:=(ri bl (by rw[ar.2];exact b0)).1;omega
  ·exfalso;simp only[bg.withOwn,if_true,ea,jO]at a6;rw[jH]at ar;obtain⟨o,ia⟩:=fL.1 gC;have au:=h.good.ownLt ia ar b0;have:=(ri bl (by rw[a6.2];exact df)).1;omega
  ·rw[jH]at ar;rw[m3]at a6;exact h.good.oinj g fv n n' u e6 bl gC m2 ar a6 b0 df
 ·rcases ld g J with rfl|⟨iA,gC,jH⟩
  ·simp only[bg.withOwn,if_true,ea,jO]at ar;obtain⟨e1,jm⟩:=fL.1 U;have au:=h.good.boxLt jm b0;have:=(ri bl (by rw[ar.2];exact a6)).1;omega
  ·rw[jH]at ar;exact h.good.obx g j n u bl gC U ar a6 b0
 ·by_cases e:j=k
  ·subst e;rcases ad with ad|⟨o,ia,_⟩
   ·exact .inl ad.1
   ·obtain⟨v0,fJ,ak,_⟩:=h.good.own j o ia;rcases h.good.one j with J|J
    ·exact .inl J
    ·rw[J]at ak;cases ak
  ·rcases h.good.one j with J|J
   ·exact .inl J
   ·exact .inr (by simp[bg.withOwn,e,J])
 ·rcases af with af|⟨g,n,u,bH,a2,a3⟩
  ·exact h.good.otr bl (.inl af) bJ j aJ
  ·rcases ld g bH with rfl|⟨iA,gC,jH⟩
   ·simp only[bg.withOwn,if_true,ea,jO]at a2;have J:=(ri bl (by rw[a2.2];exact a3)).1;have U:=(h.fr.trb bJ j _ aJ).2;omega
   ·exact h.good.otr bl (.inr ⟨g,n,u,gC,by rw[<-jH];exact a2,a3⟩) bJ j aJ
 ·rw[a7.block j (by have:=h.fr.size;omega) Ψ];exact h.fr.block j ae hm
 ·obtain⟨aS,be⟩:=h.fr.keep b o bm;exact⟨aS,(ay.A b o aS).2.trans be⟩
 ·have cM:bJ≠k:=fun e=>by subst e;exact aiE j b af
  obtain⟨t1,t2⟩:=h.fr.trn bJ j b af;exact⟨t1,by simp[bg.withOwn,cM,t2]⟩
 ·obtain⟨f1,f2⟩:=cU m hm;obtain⟨aS,be,b8⟩:=h.new m f1;refine⟨aS,?_,b8⟩;simp[bg.withOwn,f2,be]
 ·intro LU;simp only[bd];exact⟨LU,ev,xs.length,v,by simp[bg.withOwn],fc _,fun _=>rfl⟩
theorem c0.publish{C:fu}{st:bu}{a:Act}{w:World}{Z:bg}(h:c0 C st a w Z){k:aI}{o:gg}{xs:List aj}(ad:look k st.e=some o)(ab:o.xs=some xs){v:Value}(aF:Z.ow k=some (o.n,v))(ev:xs.length<=lim):
  c0 C {st with e:=cA k ⟨o.n,o.el,o.sz,none⟩ st.e} a w (Z.withRowOf k v o.n (o.n*o.sz))/\
  bd w (Z.withRowOf k v o.n (o.n*o.sz)) (.slice o.sz (.own k) xs) v:=by
 obtain⟨v0,us,ba,bo,b3,c9⟩:=h.good.own k o ad;rw[aF]at ba;cases ba;obtain⟨dh,oL,vS⟩:=c9 xs ab;have ps:∀g,(Z.withRowOf k v o.n (o.n*o.sz)).ow g=Z.ow g:=fun g=>by
  simp only[bg.withRowOf];split
  ·rename_i e;subst e;exact aF.symm
  ·rfl
 have ay:lU w Z w (Z.withRowOf k v o.n (o.n*o.sz)):=⟨fun b o bm=>⟨.inl bm,rfl⟩,fun j b _ ae=>ae,fun g n u _ jo=>⟨n,u,by rw[ps];exact jo,.inl ⟨rfl,rfl⟩⟩,fun _ _ _=>rfl,fun _ _ _ _ h=>h⟩
 have ld:∀g,(look g (cA k ⟨o.n,o.el,o.sz,none⟩ st.e)).isSome->(look g st.e).isSome:=by
  intro g kR;by_cases e:k=g
  ·subst e;simp[ad]
  ·rwa[jt,if_neg e]at kR
 refine⟨h.over ay rfl ⟨fun bl i bm=>?_,fun j e1 ae=>?_,h.good.inj,fun g o' fa=>?_,fun g fv n n' u e6 bl J U ar a6=>h.good.oinj g fv n n' u e6 bl (ld g J) (ld fv U) (by rwa[ps]at ar) (by rwa[ps]at a6),fun g j n u bl J U ar=>h.good.obx g j n u bl (ld g J) U (by rwa[ps]at ar),fun j=>?_,fun bl af=>h.good.otr bl (af.imp id (fun⟨g,n,v,bH,a2,a3⟩=>⟨g,n,v,ld g bH,by rwa[ps]at a2,a3⟩))⟩
  ⟨h.fr.os,h.fr.tape,h.fr.output,h.fr.size,h.fr.block,fun b i bm=>⟨.inl (h.fr.keep b i bm).1,(h.fr.keep b i bm).2⟩,fun b i bm=>?_,h.fr.obj,h.fr.obn,fun m n u hm=>EN (h.fr.row m n u hm) (fun n u=>ay.ow _ n u trivial),h.fr.obr,h.fr.trd,h.fr.trb,fun bJ j b af=>⟨(h.fr.trn bJ j b af).1,by rw[ps];exact(h.fr.trn bJ j b af).2⟩,h.fr.sh⟩ (fun m hm=>?_),?_⟩
 ·rcases bm with bm|⟨bm,_⟩
  ·exact h.good.alt bl i bm
  ·exact(bo.lt bl bm).2
 ·obtain⟨bl,ct,gm,g1,g2,g3,g4,g5⟩:=h.good.box j e1 ae;refine⟨bl,ct,gm,g1,g2,fun i bm=>?_,g4,qP ay g5⟩;rcases bm with bm|⟨bm,_⟩
  ·exact g3 i bm
  ·exact h.good.obx k j o.n v bl (by simp[ad]) (by simp[ae]) aF bm g1
 ·simp only at fa;rw[jt]at fa;by_cases e:k=g
  ·rw[if_pos e]at fa;cases fa;subst e;refine⟨v,us,by rw[ps];exact aF,bo,fun bl af=>⟨(b3 bl af).1,fun j bm=>?_⟩,fun ys aL=>by cases aL⟩;rcases bm with bm|⟨_,bm⟩
   ·exact(b3 bl af).2 j bm
   ·exact bm
  ·rw[if_neg e]at fa;obtain⟨v0,fJ,ak,aD,bh,dk⟩:=h.good.own g o' fa;have wL:∀bl,v0.ownBlock=some bl->∀j,(Z.withRowOf k v o.n (o.n*o.sz)).A bl j->Z.A bl j:=fun bl af j bm=>by
    rcases bm with bm|⟨bm,_⟩
    ·exact bm
    ·exact absurd (h.good.oinj k g o.n o'.n v v0 bl (by simp[ad]) (by simp[fa]) aF ak bm af) e
   exact⟨v0,fJ,by rw[ps];exact ak,aD,fun bl af=>⟨(bh bl af).1,fun j bm=>(bh bl af).2 j (wL bl af j bm)⟩,s6 ay wL dk⟩
 ·rcases h.good.one j with J|J
  ·exact .inl J
  ·exact .inr (by rw[ps];exact J)
 ·rcases bm with bm|⟨bm,_⟩
  ·exact h.fr.fresh b i bm
  ·exact .inr (b3 b bm).1
 ·obtain⟨aS,be,b8⟩:=h.new m hm;exact⟨aS,by rw[ps];exact be,b8⟩
 ·simp only[bd];refine⟨?_,fun e=>(by cases e),fun g e=>?_,fun _ _ e=>(by cases e),fun _ e=>(by cases e)⟩
  ·rcases bo.2 with⟨ak,aD⟩|⟨bb,cap,cur,f1,f2,f3,f4,f5,f6,f7⟩
   ·refine⟨none,0,by rw[ak,dh,aD],Ω,⟨by simp[maxLen],ev⟩,.inl (List.eq_nil_of_length_eq_zero Ω)⟩
   ·refine⟨some ⟨bb,0,none⟩,cap,by rw[f1,dh],Ω,⟨f5,ev⟩,.inr ⟨bb,0,us,rfl,MZ us 0 fun j u ae=>?_,B7 ay oL⟩⟩;have pw:v.ownBlock=some bb:=by rw[f1];rfl
    have A2:j<us.length:=(eV.1 ae).1;refine⟨.inr ⟨pw,by rw[bo.1]at A2;omega⟩,?_⟩;have:=bo.cells pw j u ae;rwa[pW]at this
  ·cases e;exact⟨o.n,v,by rw[ps];exact aF,Ω,fun _=>rfl⟩
theorem Z6{α:Type}(k:aI)(p q:α):∀l,cA k q (cA k p l)=cA k q l
 |[]=>by simp[cA]
 |(i,r)::l=>by
  by_cases e:i=k
  ·simp[cA,e]
  ·simp[cA,e,Z6 k p q l]
theorem c0.newRow{C:fu}{st:bu}{a:Act}{w w':World}{Z:bg}(h:c0 C st a w Z){k:aI}{xs:List aj}(ad:(Z.bx k=none/\Z.ow k=none/\∀j b,¬Z.tr k j b)\/ ∃o,look k st.e=some o/\o.n<xs.length){el sz:Nat}{v:Value}{us:List Value}
  (a7:w.grownBy w' none) (l5:w'.ownsRow w.heap.size el sz v xs.length us) (aw:dR w Z sz xs us) (ev:xs.length<=lim) {n':Nat} {o':List aI} (cU:∀j,fresh n' o' j->fresh st.n st.o j/\j≠k):
  c0 C {st with e:=cA k ⟨xs.length,el,sz,none⟩ st.e,n:=n',o:=o'} a w' ((Z.withOwn k xs.length v).withRowOf k v xs.length (xs.length*sz))/\
  bd w' ((Z.withOwn k xs.length v).withRowOf k v xs.length (xs.length*sz)) (.slice sz (.own k) xs) v:=by
 have J:=(h.newRowM ad a7 l5 aw ev cU).1;have U:=J.publish (k:=k) (o:=⟨xs.length,el,sz,some xs⟩) (xs:=xs) (v:=v) (by simp[jt]) rfl (by simp[bg.withOwn]) ev;simpa only[Z6]using U
theorem c0.setRowM{C:fu}{st:bu}{a:Act}{w w':World}{Z:bg}(h:c0 C st a w Z){k:aI}{o:gg}{xs xs':List aj}(ad:look k st.e=some o)(ab:o.xs=some xs){bl:Nat}{v v':Value}(aF:Z.ow k=some (o.n,v))(pw:v.ownBlock=some bl)(Ha:v'.ownBlock=some bl)
  (ax:(xs'.length=o.n/\v'=v)\/o.n<xs'.length) {us:List Value} (A7:w'.os=w.os) (Mq:w'.tape=w.tape) (Md:w'.output=w.output) (nT:∀j,j≠bl->w'.heap[j]? =w.heap[j]?) (eC:w'.heap.size=w.heap.size)
  (l5:w'.ownsRow 0 o.el o.sz v' xs'.length us) (aw:dR w Z o.sz xs' us):
  c0 C {st with e:=cA k ⟨xs'.length,o.el,o.sz,some xs'⟩ st.e} a w' (Z.withOwn k xs'.length v')/\lU w Z w' (Z.withOwn k xs'.length v')/\(xs'.length<=lim->bd w' (Z.withOwn k xs'.length v') (.row o.sz k xs'.length) v'):=by
 obtain⟨v0,fJ,ba,bo,b3,c9⟩:=h.good.own k o ad;rw[aF]at ba;cases ba;obtain⟨dh,oL,vS⟩:=c9 xs ab;have ay:lU w Z w' (Z.withOwn k xs'.length v'):=by
  refine⟨fun b i bm=>⟨bm,World.cell?_of_block (nT b fun e=>by subst e;exact vS b pw i bm)⟩,fun j b _ ae=>ae,fun g n u _ jo=>?_,fun b i bm=>xJ (nT b fun e=>by subst e;exact vS b pw i bm),fun _ _ _ _ h=>h⟩;by_cases e:g=k
  ·subst e;rw[aF]at jo;cases jo;refine⟨xs'.length,v',by simp[bg.withOwn],?_⟩;rcases ax with⟨J,U⟩|J
   ·exact .inl ⟨J,U⟩
   ·exact .inr J
  ·exact⟨n,u,by simp[bg.withOwn,e,jo],.inl ⟨rfl,rfl⟩⟩
 have ld:∀g n u,(look g (cA k ⟨xs'.length,o.el,o.sz,some xs'⟩ st.e)).isSome->(Z.withOwn k xs'.length v').ow g=some (n,u)->∀b,u.ownBlock=some b->(look g st.e).isSome/\∃n u,Z.ow g=some (n,u)/\u.ownBlock=some b:=by
  intro g n u kR jo b af;by_cases e:g=k
  ·subst e;simp only[bg.withOwn,if_true,ea,jO]at jo;rw[<-jo.2,Ha]at af;cases af;exact⟨by simp[ad],o.n,v,aF,pw⟩
  ·rw[jt,if_neg (lv e)]at kR;simp only[bg.withOwn,e,if_false]at jo;exact⟨kR,n,u,jo,af⟩
 refine⟨h.over ay rfl ⟨fun b i bm=>by rw[eC];exact h.good.alt b i bm,fun j e1 ae=>?_,h.good.inj,fun g o' fa=>?_,fun g fv n n' u e6 b J U ar a6 b0 df=>?_,fun g j n u b J U ar a6 b0=>?_,fun j=>?_,fun b af=>h.good.otr b (af.imp id (fun⟨g,n,v,bH,a2,a3⟩=>by obtain⟨bV,iA,iO,b7,fV⟩:=ld g n v bH a2 b a3;exact⟨g,iA,iO,bV,b7,fV⟩))⟩
  ⟨A7.trans h.fr.os,Mq.trans h.fr.tape,Md.trans h.fr.output,by rw[eC];exact h.fr.size,fun j ae hm=>?_,fun b i bm=>?_,h.fr.fresh,h.fr.obj,h.fr.obn,fun m n u hm=>EN (h.fr.row m n u hm) (fun n u=>ay.ow _ n u trivial),h.fr.obr,h.fr.trd,fun k j b af=>⟨(h.fr.trb k j b af).1,by rw[eC];exact(h.fr.trb k j b af).2⟩,fun bJ j b af=>?_,fun b o bm=>(ay.sh b o (h.fr.keep b o bm).1).trans (h.fr.sh b o bm)⟩ (fun m hm=>?_),ay,?_⟩
 ·obtain⟨b,ct,gm,g1,g2,g3,g4,g5⟩:=h.good.box j e1 ae;have cM:b≠bl:=fun e=>h.good.obx k j o.n _ bl (by simp[ad]) (by simp[ae]) aF pw (by rw[<-e];exact g1);exact⟨b,ct,gm,g1,g2,g3,by rw[nT b cM];exact g4,qP ay g5⟩
 ·simp only at fa;rw[jt]at fa;by_cases e:k=g
  ·rw[if_pos e]at fa;cases fa;subst e;refine⟨v',us,by simp[bg.withOwn],l5,fun b af=>?_,fun ys aL=>?_⟩
   ·rw[Ha]at af;cases af;exact⟨(b3 bl pw).1,fun j bm=>absurd bm (vS bl pw j)⟩
   ·simp only[ea]at aL;subst aL;exact⟨rfl,B7 ay aw,fun b af=>by rw[Ha]at af;cases af;exact vS bl pw⟩
  ·rw[if_neg e]at fa;obtain⟨v0,fJ,ak,aD,bh,dk⟩:=h.good.own g o' fa;have cM:∀b,v0.ownBlock=some b->b≠bl:=fun b af KI=>e (h.good.oinj k g o.n o'.n _ v0 bl (by simp[ad]) (by simp[fa]) aF ak pw (by rw[<-KI];exact af));refine⟨v0,fJ,by simp[bg.withOwn,lv e,ak],⟨aD.1,?_⟩,bh,s6 ay (fun _ _ _ h=>h) dk⟩;rcases aD.2 with aD|⟨bb,F9,mR,f1,f2,f3,f4⟩
   ·exact .inl aD
   ·exact .inr ⟨bb,F9,mR,f1,f2,by rw[nT bb (cM bb (by rw[f1];rfl))];exact f3,f4⟩
 ·obtain⟨bH,iA,iO,a2,a3⟩:=ld g n u J ar b b0;obtain⟨bV,gC,jV,b7,fV⟩:=ld fv n' e6 U a6 b df;exact h.good.oinj g fv iA gC iO jV b bH bV a2 b7 a3 fV
 ·obtain⟨bH,iA,iO,a2,a3⟩:=ld g n u J ar b a6;exact h.good.obx g j iA iO b bH U a2 a3 b0
 ·by_cases e:j=k
  ·subst e;rcases h.good.one j with J|J
   ·exact .inl J
   ·rw[J]at aF;cases aF
  ·rcases h.good.one j with J|J
   ·exact .inl J
   ·exact .inr (by simp[bg.withOwn,e,J])
 ·rw[nT j fun e=>by subst e;exact(b3 j pw).1.elim hm (fun g2=>Ω)];exact h.fr.block j ae hm
 ·obtain⟨aS,be⟩:=h.fr.keep b i bm;exact⟨aS,(ay.A b i aS).2.trans be⟩
 ·obtain⟨t1,t2⟩:=h.fr.trn bJ j b af;have cM:bJ≠k:=fun e=>by subst e;rw[t2]at aF;cases aF
  exact⟨t1,by simp[bg.withOwn,cM,t2]⟩
 ·obtain⟨aS,be,b8⟩:=h.new m hm;refine⟨aS,?_,b8⟩;have:m≠k:=fun e=>by subst e;rw[be]at aF;cases aF
  simp[bg.withOwn,this,be]
 ·intro ev;simp only[bd];obtain⟨cap,LU⟩:=X4 l5 Ha;exact⟨⟨bl,cap,LU⟩,ev,xs'.length,v',by simp[bg.withOwn],fc _,fun _=>rfl⟩
theorem c0.inPlace{C:fu}{st:bu}{a:Act}{w:World}{Z:bg}(h:c0 C st a w Z){k:aI}{o:gg}(ad:look k st.e=some o){bl cap:Nat}{cur:Array Value}(aF:Z.ow k=some (o.n,.slice (some ⟨bl,0,none⟩) o.n cap))
  (yC:w.heap[bl]? =some (.cells cur o.el (0,0))) (AT:cap<=maxLen) (eC:cur.size=cap*o.sz) {xs ys:List aj} {us ns:List Value} (jB:xs.length=o.n) (rq:cur.toList.take (o.n*o.sz)=us) (aw:dR w Z o.sz xs us) (AV:dR w Z o.sz ys ns)
  (fG:0<ys.length) (sC:o.n+ys.length<=cap) (ev:xs.length+ys.length<=lim):
  c0 C {st with e:=cA k ⟨o.n+ys.length,o.el,o.sz,none⟩ st.e} a (w.setRow bl (us++ns++cur.toList.drop (o.n*o.sz+ns.length)).toArray)
   (Z.withRowOf k (.slice (some ⟨bl,0,none⟩) (o.n+ys.length) cap) (o.n+ys.length) ((o.n+ys.length)*o.sz))/\
  bd (w.setRow bl (us++ns++cur.toList.drop (o.n*o.sz+ns.length)).toArray) (Z.withRowOf k (.slice (some ⟨bl,0,none⟩) (o.n+ys.length) cap) (o.n+ys.length) ((o.n+ys.length)*o.sz))
   (.slice o.sz (.own k) (xs++ys)) (.slice (some ⟨bl,0,none⟩) (o.n+ys.length) cap):=by
 have j6:=uo AV;have l8:=uo aw;rw[jB]at l8;have hmul:(o.n+ys.length)*o.sz<=cap*o.sz:=Nat.mul_le_mul_right _ sC;rw[qp]at hmul;obtain⟨v0,fJ,ba,bo,b3,_⟩:=h.good.own k o ad;rw[aF]at ba;cases ba;obtain⟨c9,dh⟩:=b3 bl rfl;generalize Bi:w.setRow bl (us++ns++cur.toList.drop (o.n*o.sz+ns.length)).toArray=w';have nT:∀j,j≠bl->w'.heap[j]? =w.heap[j]?:=fun j ae=>by rw[<-Bi];exact setRow_other w bl j _ ae
 have kS:w'.heap[bl]? =some (.cells (us++ns++cur.toList.drop (o.n*o.sz+ns.length)).toArray o.el (0,0)):=by rw[<-Bi];exact setRow_heap w bl cur _ o.el _ yC
 have Mm:w'.heap.size=w.heap.size:=by rw[<-Bi];exact setRow_size w bl _
 have rj:∀j,j<o.n*o.sz->w'.cell? ⟨bl,j,none⟩=w.cell? ⟨bl,j,none⟩:=by intro j ae;simp only[World.cell?,kS,yC,jN,ho,if_false];rw[List.getElem?_toArray,List.append_assoc,List.getElem?_append_left Ω,<-rq,List.getElem?_take,if_pos ae];simp
 have ay:lU w Z w' (Z.withRowOf k (.slice (some ⟨bl,0,none⟩) (o.n+ys.length) cap) (o.n+ys.length) ((o.n+ys.length)*o.sz)):=by
  refine⟨fun b j bm=>⟨.inl bm,?_⟩,fun j b _ ae=>ae,fun g n u _ jo=>?_,fun b j bm=>?_,fun _ _ _ _ h=>h⟩;rotate_left 2
  ·by_cases e:b=bl
   ·subst e;simp only[shape,kS,yC,List.size_toArray,pQ,tl,Array.length_toList];congr 2;omega
   ·exact xJ (nT b e)
  ·by_cases e:b=bl
   ·subst e;exact rj j (dh j bm)
   ·exact World.cell?_of_block (nT b e)
  ·by_cases e:g=k
   ·subst e;rw[aF]at jo;cases jo;exact⟨o.n+ys.length,.slice (some ⟨bl,0,none⟩) (o.n+ys.length) cap,by simp[bg.withRowOf],.inr Ω⟩
   ·exact⟨n,u,by simp[bg.withRowOf,e,jo],.inl ⟨rfl,rfl⟩⟩
 have ld:∀g,(look g (cA k ⟨o.n+ys.length,o.el,o.sz,none⟩ st.e)).isSome->g=k\/(g≠k/\(look g st.e).isSome/\(Z.withRowOf k (.slice (some ⟨bl,0,none⟩) (o.n+ys.length) cap) (o.n+ys.length) ((o.n+ys.length)*o.sz)).ow g=Z.ow g):=by
  intro g kR;by_cases e:g=k
  ·exact .inl e
  ·rw[jt,if_neg (lv e)]at kR;exact .inr ⟨e,kR,by simp[bg.withRowOf,e]⟩
 have as8:bl<w.heap.size:=(Array.getElem?_eq_some_iff.1 yC).1;have ahP:∀j u,(us++ns)[j]? =some u->w'.cell? ⟨bl,j,none⟩=some u:=by intro j u ae;have A2:=(eV.1 ae).1;simp only[World.cell?,kS,jN,ho,if_false];rw[List.getElem?_toArray,List.getElem?_append_left A2];exact ae
 refine⟨h.over ay rfl ⟨fun b j bm=>?_,fun j e1 ae=>?_,h.good.inj,fun g o' fa=>?_,fun g fv n n' u e6 b J U ar a6 b0 df=>?_,fun g j n u b J U ar a6 b0=>?_,fun j=>?_,fun b af=>h.good.otr b ?_⟩
  ⟨by rw[<-Bi];exact h.fr.os,by rw[<-Bi];exact h.fr.tape,by rw[<-Bi];exact h.fr.output,by rw[Mm];exact h.fr.size,fun j ae hm=>?_,fun b j bm=>?_,fun b j bm=>?_,h.fr.obj,h.fr.obn,fun m n u hm=>EN (h.fr.row m n u hm) (fun n u=>ay.ow _ n u trivial),h.fr.obr,h.fr.trd,fun k j b af=>⟨(h.fr.trb k j b af).1,by rw[Mm];exact(h.fr.trb k j b af).2⟩,fun bJ j b af=>?_,fun b o bm=>(ay.sh b o (h.fr.keep b o bm).1).trans (h.fr.sh b o bm)⟩ (fun m hm=>?_),?_⟩
 ·rw[Mm];rcases bm with bm|⟨bm,_⟩
  ·exact h.good.alt b j bm
  ·simp only[oV,ea]at bm;omega
 ·obtain⟨b,ct,gm,g1,g2,g3,g4,g5⟩:=h.good.box j e1 ae;have cM:b≠bl:=fun e=>h.good.obx k j o.n _ bl (by simp[ad]) (by simp[ae]) aF rfl (by rw[<-e];exact g1);refine⟨b,ct,gm,g1,g2,fun i bm=>?_,by rw[nT b cM];exact g4,qP ay g5⟩;rcases bm with bm|⟨bm,_⟩
  ·exact g3 i bm
  ·simp only[oV,ea]at bm;exact cM bm.symm
 ·simp only at fa;rw[jt]at fa;by_cases e:k=g
  ·rw[if_pos e]at fa;cases fa;subst e;refine⟨.slice (some ⟨bl,0,none⟩) (o.n+ys.length) cap,us++ns,by simp[bg.withRowOf],⟨by rw[pQ,l8,j6,qp],.inr ⟨bl,cap,_,rfl,Nat.zero_le _,kS,sC,AT,?_,?_⟩⟩,fun b af=>⟨?_,fun j bm=>?_⟩,fun ys aL=>by cases aL⟩
   ·simp only[List.size_toArray,pQ,tl,Array.length_toList];omega
   ·have au:(us++ns).length=(o.n+ys.length)*o.sz:=by rw[pQ,l8,j6,qp]
    simp only[<-au];rw[List.take_append_of_le_length (fc _),je]
   ·simp only[oV,ea]at af;subst af;exact c9
   ·simp only[oV,ea]at af;subst af;rcases bm with bm|⟨_,bm⟩
    ·have:=dh j bm;simp only;rw[qp];omega
    ·exact bm
  ·rw[if_neg e]at fa;obtain⟨v0,fJ,ak,aD,bh,dk⟩:=h.good.own g o' fa;have cM:∀b,v0.ownBlock=some b->b≠bl:=fun b af KI=>e (h.good.oinj k g o.n o'.n _ v0 bl (by simp[ad]) (by simp[fa]) aF ak rfl (by rw[<-KI];exact af));have wL:∀b,v0.ownBlock=some b->∀j,(Z.withRowOf k (.slice (some ⟨bl,0,none⟩) (o.n+ys.length) cap) (o.n+ys.length) ((o.n+ys.length)*o.sz)).A b j->Z.A b j:=fun b af j bm=>by
    rcases bm with bm|⟨bm,_⟩
    ·exact bm
    ·simp only[oV,ea]at bm;exact absurd bm.symm (cM b af)
   refine⟨v0,fJ,by simp[bg.withRowOf,lv e,ak],⟨aD.1,?_⟩,fun b af=>⟨(bh b af).1,fun j bm=>(bh b af).2 j (wL b af j bm)⟩,s6 ay wL dk⟩;rcases aD.2 with aD|⟨bb,F9,mR,f1,f2,f3,f4⟩
   ·exact .inl aD
   ·exact .inr ⟨bb,F9,mR,f1,f2,by rw[nT bb (cM bb (by rw[f1];rfl))];exact f3,f4⟩
 ·rcases ld g J with rfl|⟨iA,gC,jH⟩<;>rcases ld fv U with rfl|⟨m1,m2,m3⟩
  ·rfl
  ·exfalso;simp only[bg.withRowOf,if_true,ea,jO]at ar;rw[m3]at a6;rw[<-ar.2]at b0;simp only[oV,ea]at b0;subst b0;exact m1 (h.good.oinj fv g n' o.n e6 _ bl m2 (by simp[ad]) a6 aF df rfl)
  ·exfalso;simp only[bg.withRowOf,if_true,ea,jO]at a6;rw[jH]at ar;rw[<-a6.2]at df;simp only[oV,ea]at df;subst df;exact iA (h.good.oinj g fv n o.n u _ bl gC (by simp[ad]) ar aF b0 rfl)
  ·rw[jH]at ar;rw[m3]at a6;exact h.good.oinj g fv n n' u e6 b gC m2 ar a6 b0 df
 ·rcases ld g J with rfl|⟨iA,gC,jH⟩
  ·simp only[bg.withRowOf,if_true,ea,jO]at ar;rw[<-ar.2]at a6;simp only[oV,ea]at a6;subst a6;exact h.good.obx g j o.n _ bl (by simp[ad]) U aF rfl b0
  ·rw[jH]at ar;exact h.good.obx g j n u b gC U ar a6 b0
 ·by_cases e:j=k
  ·subst e;rcases h.good.one j with J|J
   ·exact .inl J
   ·rw[J]at aF;cases aF
  ·rcases h.good.one j with J|J
   ·exact .inl J
   ·exact .inr (by simp[bg.withRowOf,e,J])
 ·rcases af with af|⟨g,n,u,bH,a2,a3⟩
  ·exact .inl af
  ·rcases ld g bH with rfl|⟨iA,gC,jH⟩
   ·simp only[bg.withRowOf,if_true,ea,jO]at a2;rw[<-a2.2]at a3;exact .inr ⟨g,_,_,by simp[ad],aF,a3⟩
   ·exact .inr ⟨g,n,u,gC,by rw[<-jH];exact a2,a3⟩
 ·rw[nT j fun e=>by subst e;exact c9.elim hm (fun g2=>Ω)];exact h.fr.block j ae hm
 ·obtain⟨aS,be⟩:=h.fr.keep b j bm;exact⟨.inl aS,(ay.A b j aS).2.trans be⟩
 ·rcases bm with bm|⟨bm,_⟩
  ·exact h.fr.fresh b j bm
  ·simp only[oV,ea]at bm;subst bm;exact .inr c9
 ·obtain⟨t1,t2⟩:=h.fr.trn bJ j b af;have cM:bJ≠k:=fun e=>by subst e;rw[t2]at aF;cases aF
  exact⟨t1,by simp[bg.withRowOf,cM,t2]⟩
 ·obtain⟨aS,be,b8⟩:=h.new m hm;refine⟨aS,?_,b8⟩;have:m≠k:=fun e=>by subst e;rw[be]at aF;cases aF
  simp[bg.withRowOf,this,be]
 ·simp only[bd];refine⟨⟨some ⟨bl,0,none⟩,cap,by simp[jB],by simp;omega,⟨AT,by simpa using ev⟩,.inr ⟨bl,0,us++ns,rfl,MZ _ 0 fun j u ae=>?_,EH (B7 ay aw) (B7 ay AV)⟩⟩,fun e=>(by cases e),fun g e=>?_,fun _ _ e=>(by cases e),fun _ e=>(by cases e)⟩
  ·have A2:=(eV.1 ae).1;rw[Nat.zero_add];refine⟨.inr ⟨rfl,?_⟩,ahP j u ae⟩;rw[pQ,l8,j6]at A2;rw[qp];exact A2
  ·cases e;exact⟨o.n+ys.length,.slice (some ⟨bl,0,none⟩) (o.n+ys.length) cap,by simp[bg.withRowOf],by simp[jB],fun _=>rfl⟩
theorem IS{P:cI}{w:World}{t ty e:gu}{i:TypeInfo}(aJ:P.underlying t=some (.slice e))(hi:P.info? e=some i)(b:Option Addr)(n cap:Nat)(ax:n<=cap)(x:Option Addr)(c:Nat):
  (Builtin.append_ #[t,t] ty #[.slice b n cap,.slice x 0 c]).run P w= .ok (.slice b n cap) w:=by
 cases b<;>cases x<;>simp[Builtin.append_,run_underlying aJ,sizeOf,typeInfo,hi,Builtin.lenOf,ax,Builtin.firstCells,loadCells,loadCellsFrom,storeCells]
inductive eF where
 |v (d:Nat) (i:gk)
 |box (d:Nat) (key:Option Nat) (x:dF)
 |alloc (d:Nat) (key:Option Nat) (zero:aj)
 |store (sz:Nat) (x y:dF)
 |bsl (d:Nat) (sz el:Nat) (xs:List dF)
 |app (d:Nat) (sz el:Nat) (x y:dF)
 |bslm (d:Nat) (key:Option Nat) (sz el:Nat) (xs:List dF)
 |appm (d:Nat) (key:Option Nat) (sz el:Nat) (x y:dF)
 |mkmap (d:Nat) (key:Option Nat)
 |mput (ck:jY) (x k v:dF)
 |range (d:Nat) (key:Option Nat) (x:dF)
 |storeE (sz:Nat) (x y:dF)
 |mks (d:Nat) (key:Option Nat) (sz el:Nat) (z:aj) (x:dF)
def ka(st:bu):Option Nat->aI
 |none=>.loc st.n
 |some m=>.obj m
def qI(st:bu):Option Nat->Prop
 |none=>.loc st.n∉st.o
 |some m=>.obj m∉st.o
def nZ(st:bu):Option Nat->Nat
 |none=>st.n+1
 |some _=>st.n
def n1(st:bu):Option Nat->List aI
 |none=>st.o
 |some m=>.obj m::st.o
theorem xq{st:bu}{key:Option Nat}(h:qI st key):fresh st.n st.o (ka st key):=by cases key<;>simp[ka,fresh,qI]at h⊢ <;>exact h
theorem xr{st:bu}{key:Option Nat}:∀j,fresh (nZ st key) (n1 st key) j->fresh st.n st.o j/\j≠ka st key:=by
 intro j ae;cases key<;>cases j<;>simp[fresh,nZ,n1,ka]at ae⊢
 ·exact⟨⟨Ω,ae.2⟩,Ω⟩
 ·exact ae
 ·exact ae
 ·exact⟨ae.2,ae.1⟩
def tu(sz:Nat):List aj->Prop
 |[]=>True
 |p::b1=>(eT p=true/\(cells p).length=sz)/\tu sz b1
def oK(ck:jY)(k v:aj):List aj->Option (List aj)
 | .hdm clock borns::kvs=>if xf ck k=false then none else match vM ck k v kvs with
  |some (some xj)=>some (.hdm clock borns::xj)
  |some none=>some (.hdm (clock+1) (borns++[clock])::(kvs++[k,v]))
  |none=>none
 |_=>none
def xF(m:aI):List aj->Option (List aj)
 | .hdm clock _::_=>some [.hdi clock [] clock,.gmap m]
 |_=>none
def tv(st:bu)(sz el:Nat)(x y:aj):Option ((Option (aI×List aj))×List aj):=
 match x,y with
 | .slice dZ .nil _,.slice jK _ ys=>if dZ=sz/\jK=sz then some (none,ys)else none
 | .row dZ k n,.slice jK _ ys=>if dZ=sz/\jK=sz then
   match look k st.e with
   |some ⟨n',gm,xM,some xs⟩=>if n'=n/\gm=el/\xM=sz then some (some (k,xs),ys)else none
   |_=>none
  else none
 |_,_=>none
def nr:aj->Nat->List aj->aj
 | .agg e1,f,cs=>.agg (oN e1 f cs)
 |_,_,[q]=>q
 |_,_,_=>.junk
def rM(st:bu)(sz:Nat)(p v:aj):Option (Prop×bu):=
 match p with
 | .rptr dZ k n i f=>match look k st.e with
  |some ⟨n',el,jK,some xs⟩=>if n'=n/\jK=dZ then
    match xs[i]? with
    |some q=>some (eT q=true/\eT v=true/\(cells v).length=sz/\f+sz<=(cells q).length/\0<sz,{st with e:=cA k ⟨n',el,jK,some (xs.set i (nr q f (cells v)))⟩ st.e})
    |none=>none
   else none
  |_=>none
 |_=>none
def mJ(st:bu):eF->Option (Prop×bu)
 | .mks d key sz el z x=>match cv st.t x with
  | .int _ n=>some (qI st key/\0<=n/\n<=lim,
    {t:=put d (.row sz (ka st key) n.toNat) st.t,b:=st.b,e:=cA (ka st key) ⟨n.toNat,el,sz,some (rU n.toNat z)⟩ st.e,n:=nZ st key,o:=n1 st key})
  |_=>none
 | .bslm d key sz el xs=>some (qI st key/\tu sz (xs.map (cv st.t)),
   {t:=put d (.row sz (ka st key) xs.length) st.t,b:=st.b,e:=cA (ka st key) ⟨xs.length,el,sz,some (xs.map (cv st.t))⟩ st.e,n:=nZ st key,o:=n1 st key})
 | .appm d key sz el x y=>match tv st sz el (cv st.t x) (cv st.t y)with
  |some (none,ys)=>some (qI st key/\ys.length<=lim/\ys≠[],
    {t:=put d (.row sz (ka st key) ys.length) st.t,b:=st.b,e:=cA (ka st key) ⟨ys.length,el,sz,some ys⟩ st.e,n:=nZ st key,o:=n1 st key})
  |some (some (k,xs),ys)=>some (xs.length+ys.length<=lim,{st with t:=put d (.row sz k (xs.length+ys.length)) st.t,e:=cA k ⟨xs.length+ys.length,el,sz,some (xs++ys)⟩ st.e})
  |none=>none
 | .mkmap d key=>some (qI st key,{t:=put d (.gmap (ka st key)) st.t,b:=cA (ka st key) [.hdm 0 []] st.b,e:=st.e,n:=nZ st key,o:=n1 st key})
 | .mput ck x k v=>match cv st.t x with
  | .gmap m=>match look m st.b with
   |some cs=>match oK ck (cv st.t k) (cv st.t v) cs with
    |some cs'=>some (True,{st with b:=cA m cs' st.b})
    |none=>none
   |none=>none
  |_=>none
 | .range d key x=>match cv st.t x with
  | .gmap m=>match look m st.b with
   |some cs=>match xF m cs with
    |some cs'=>some (qI st key,{t:=put d (.ptr (ka st key) 0) st.t,b:=cA (ka st key) cs' st.b,e:=st.e,n:=nZ st key,o:=n1 st key})
    |none=>none
   |none=>none
  |_=>none
 | .v d i=>match hG st i with
  |some (c,p)=>some (c,{st with t:=put d p st.t})
  |none=>none
 | .storeE sz x y=>rM st sz (cv st.t x) (cv st.t y)
 | .box d key x=>some (qI st key/\eT (cv st.t x)=true,
   {t:=put d (.ptr (ka st key) 0) st.t,b:=cA (ka st key) (cells (cv st.t x)) st.b,e:=st.e,n:=nZ st key,o:=n1 st key})
 | .alloc d key z=>some (qI st key,{t:=put d (.ptr (ka st key) 0) st.t,b:=cA (ka st key) (cells z) st.b,e:=st.e,n:=nZ st key,o:=n1 st key})
 | .store sz x y=>match cv st.t x with
  | .ptr k off=>match look k st.b with
   |some cs=>some (gr cs=true/\eT (cv st.t y)=true/\(cells (cv st.t y)).length=sz/\off+sz<=cs.length,{st with b:=cA k (oN cs off (cells (cv st.t y))) st.b})
   |none=>none
  |p=>rM st sz p (cv st.t y)
 | .bsl d sz el xs=>some (qI st none/\tu sz (xs.map (cv st.t)),
   {st with t:=put d (.slice sz (.own (.loc st.n)) (xs.map (cv st.t))) st.t,e:=cA (.loc st.n) ⟨xs.length,el,sz,none⟩ st.e,n:=st.n+1})
 | .app d sz el x y=>match cv st.t x,cv st.t y with
  | .slice dZ tag xs,.slice jK _ ys=>if dZ=sz/\jK=sz then
    match tag with
    | .own k=>match look k st.e with
     |some o=>some (o.n=xs.length/\o.el=el/\o.sz=sz/\xs.length+ys.length<=lim,
       {st with t:=put d (.slice sz (.own k) (xs++ys)) st.t,e:=cA k ⟨xs.length+ys.length,el,sz,none⟩ st.e})
     |none=>none
    | .nil=>some (qI st none/\ys.length<=lim,{st with t:=put d (.slice sz (.own (.loc st.n)) ys) st.t,e:=cA (.loc st.n) ⟨ys.length,el,sz,none⟩ st.e,n:=st.n+1})
    |_=>none
   else none
  |_,_=>none
def eS(κ:aI)(n':Nat)(o':List aI)(st:bu):eF->Option (Prop×bu)
 | .mks d _ sz el z x=>match cv st.t x with
  | .int _ n=>some (0<=n/\n<=lim,
    {t:=put d (.row sz κ n.toNat) st.t,b:=st.b,e:=cA κ ⟨n.toNat,el,sz,some (rU n.toNat z)⟩ st.e,n:=n',o:=o'})
  |_=>none
 | .bslm d _ sz el xs=>some (tu sz (xs.map (cv st.t)),
   {t:=put d (.row sz κ xs.length) st.t,b:=st.b,e:=cA κ ⟨xs.length,el,sz,some (xs.map (cv st.t))⟩ st.e,n:=n',o:=o'})
 | .appm d _ sz el x y=>match tv st sz el (cv st.t x) (cv st.t y)with
  |some (none,ys)=>some (ys.length<=lim/\ys≠[],
    {t:=put d (.row sz κ ys.length) st.t,b:=st.b,e:=cA κ ⟨ys.length,el,sz,some ys⟩ st.e,n:=n',o:=o'})
  |some (some (k,xs),ys)=>some (xs.length+ys.length<=lim,{st with t:=put d (.row sz k (xs.length+ys.length)) st.t,e:=cA k ⟨xs.length+ys.length,el,sz,some (xs++ys)⟩ st.e})
  |none=>none
 | .mkmap d _=>some (True,{t:=put d (.gmap κ) st.t,b:=cA κ [.hdm 0 []] st.b,e:=st.e,n:=n',o:=o'})
 | .mput ck x k v=>match cv st.t x with
  | .gmap m=>match look m st.b with
   |some cs=>match oK ck (cv st.t k) (cv st.t v) cs with
    |some cs'=>some (True,{st with b:=cA m cs' st.b})
    |none=>none
   |none=>none
  |_=>none
 | .range d _ x=>match cv st.t x with
  | .gmap m=>match look m st.b with
   |some cs=>match xF m cs with
    |some cs'=>some (True,{t:=put d (.ptr κ 0) st.t,b:=cA κ cs' st.b,e:=st.e,n:=n',o:=o'})
    |none=>none
   |none=>none
  |_=>none
 | .v d i=>match hG st i with
  |some (c,p)=>some (c,{st with t:=put d p st.t})
  |none=>none
 | .storeE sz x y=>rM st sz (cv st.t x) (cv st.t y)
 | .box d _ x=>some (eT (cv st.t x)=true,{t:=put d (.ptr κ 0) st.t,b:=cA κ (cells (cv st.t x)) st.b,e:=st.e,n:=n',o:=o'})
 | .alloc d _ z=>some (True,{t:=put d (.ptr κ 0) st.t,b:=cA κ (cells z) st.b,e:=st.e,n:=n',o:=o'})
 | .store sz x y=>match cv st.t x with
  | .ptr k off=>match look k st.b with
   |some cs=>some (gr cs=true/\eT (cv st.t y)=true/\(cells (cv st.t y)).length=sz/\off+sz<=cs.length,{st with b:=cA k (oN cs off (cells (cv st.t y))) st.b})
   |none=>none
  |p=>rM st sz p (cv st.t y)
 | .bsl d sz el xs=>some (tu sz (xs.map (cv st.t)),
   {st with t:=put d (.slice sz (.own κ) (xs.map (cv st.t))) st.t,e:=cA κ ⟨xs.length,el,sz,none⟩ st.e,n:=n',o:=o'})
 | .app d sz el x y=>match cv st.t x,cv st.t y with
  | .slice dZ tag xs,.slice jK _ ys=>if dZ=sz/\jK=sz then
    match tag with
    | .own k=>match look k st.e with
     |some o=>some (o.n=xs.length/\o.el=el/\o.sz=sz/\xs.length+ys.length<=lim,
       {st with t:=put d (.slice sz (.own k) (xs++ys)) st.t,e:=cA k ⟨xs.length+ys.length,el,sz,none⟩ st.e})
     |none=>none
    | .nil=>some (ys.length<=lim,{st with t:=put d (.slice sz (.own κ) ys) st.t,e:=cA κ ⟨ys.length,el,sz,none⟩ st.e,n:=n',o:=o'})
    |_=>none
   else none
  |_,_=>none
def xx:Nat->List dF->List (Nat×Operand)->Bool
 |_,[],[]=>true
 |i,x::xs,(j,o)::os=>i==j&&eD x o&&xx (i+1) xs os
 |_,_,_=>false
def EP(N:Nat)(bG:List (Nat×dN))(i:eF)(o:Oper):Bool:=
 match i,o.op with
 | .mkmap d _,.makeMap _ none=>o.dst==some d&&decide (d<N)
 | .mput ck x k v,.mapUpdate t gU fB qN=>o.dst==none&&(match eu bG t with|some ⟨_,_,.map nk _,_⟩=>y5 bG ck nk|_=>false)&&eD x gU&&eD k fB&&eD v qN
 | .mput ck x k v,.insert t gU fB qN=>o.dst==none&&(match eu bG t with|some ⟨_,_,.map nk _,_⟩=>y5 bG ck nk|_=>false)&&eD x gU&&eD k fB&&eD v qN
 | .range d _ x,.range t gU=>o.dst==some d&&decide (d<N)&&(match eu bG t with|some ⟨_,_,.map _ _,_⟩=>true|_=>false)&&eD x gU
 | .v d i,op=>o.dst==some d&&decide (d<N)&&Fc bG i op
 | .box d _ x,.box _ o'=>o.dst==some d&&decide (d<N)&&eD x o'
 | .alloc d _ z,.alloc el=>o.dst==some d&&decide (d<N)&&(match eu bG el with|some f=>Cv z f.zero|none=>false)
 | .store sz x y,.store t o' jI=>o.dst==none&&(match eu bG t with|some f=>f.size==sz|none=>false)&&eD x o'&&eD y jI
 | .bsl d sz el xs,.buildSlice t len parts=>o.dst==some d&&decide (d<N)&&(match eu bG t with|some ⟨_,_,.slice gm,_⟩=>el==gm|_=>false)&&(match eu bG el with|some f=>f.size==sz&&decide (0<sz)|none=>false)
   &&len==xs.length&&decide (len*sz<=16777216)&&xx 0 xs parts.toList
 | .app d sz el x y,.call ⟨.builtin .append,⟨[o',jI]⟩,⟨[t,da]⟩⟩=>o.dst==some d&&decide (d<N)&&t==da&&(match eu bG t with|some ⟨_,_,.slice gm,_⟩=>el==gm|_=>false)
   &&(match eu bG el with|some f=>f.size==sz&&decide (0<sz)&&decide (f.bytes<=2048)|none=>false)&&eD x o'&&eD y jI
 | .bslm d _ sz el xs,.buildSlice t len parts=>o.dst==some d&&decide (d<N)&&(match eu bG t with|some ⟨_,_,.slice gm,_⟩=>el==gm|_=>false)&&(match eu bG el with|some f=>f.size==sz&&decide (0<sz)|none=>false)
   &&len==xs.length&&decide (len*sz<=16777216)&&xx 0 xs parts.toList
 | .appm d _ sz el x y,.call ⟨.builtin .append,⟨[o',jI]⟩,⟨[t,da]⟩⟩=>o.dst==some d&&decide (d<N)&&t==da&&(match eu bG t with|some ⟨_,_,.slice gm,_⟩=>el==gm|_=>false)
   &&(match eu bG el with|some f=>f.size==sz&&decide (0<sz)&&decide (f.bytes<=2048)|none=>false)&&eD x o'&&eD y jI
 | .storeE sz x y,.store t o' jI=>o.dst==none&&(match eu bG t with|some f=>f.size==sz|none=>false)&&eD x o'&&eD y jI
 | .mks d _ sz el z x,.makeSlice t o' jI=>o.dst==some d&&decide (d<N)&&(match eu bG t with|some ⟨_,_,.slice gm,_⟩=>el==gm|_=>false)
   &&(match eu bG el with|some f=>f.size==sz&&decide (0<sz)&&decide (f.bytes<=2048)&&Cv z f.zero|none=>false)&&eD x o'&&eD x jI
 |_,_=>false
theorem Zr{w:World}{Z:bg}{C:fu}{st:bu}{a:Act}(aO:c0 C st a w Z){sz:Nat}:
  ∀(xs:List dF) (i:Nat) (os:List (Nat×Operand)) (pre:List aj) (us:Array Value) (bf:List Value),xx i xs os=true->tu sz (xs.map (cv st.t))->us.toList.take (i*sz)=bf->dR w Z sz pre bf->i=pre.length->us.size=(i+xs.length)*sz->
  ∃ct:Array Value,Instr.fill (fun i=>some (i*sz,sz)) us (os.map fun(x:Nat×Operand)=>(x.1,a.eval x.2))=some ct/\dR w Z sz (pre++xs.map (cv st.t)) ct.toList/\ct.size=us.size
 |[],i,[],pre,us,bf,_,_,aF,h,hi,ag=>by refine⟨us,by simp[Instr.fill],?_,rfl⟩;have au:=uo h;have:us.toList.take (i*sz)=us.toList:=hY (by simp at ag⊢;omega);rw[this]at aF;simpa[aF]using h
 |[],_,_::_,_,_,_,ef,_,_,_,_,_=>by simp[xx]at ef
 |_::_,_,[],_,_,_,ef,_,_,_,_,_=>by simp[xx]at ef
 |x::xs,i,(j,o)::os,pre,us,bf,ef,bD,aF,h,hi,ag=>by
  simp only[xx,cy,eb]at ef;obtain⟨⟨rfl,J⟩,U⟩:=ef;simp only[gM,tu]at bD;obtain⟨⟨lE,hlen⟩,bD⟩:=bD;have ab:=eE aO J;have l3:=vX ab lE;have AU:=qk l3;have dA:(a.eval o).cells.size=sz:=by rw[hlen]at AU;simpa using AU
  have hmul:i*sz+sz<=us.size:=by rw[ag,oX,show i+(xs.length+1)=(i+1)+xs.length from by omega,qp,Nat.succ_mul];omega
  have yV:=Lc (w:=w) (Z:=Z) (a.eval o).cells.toList 0 (i*sz) us (by simp[dA];omega);have j8:dR w Z sz (pre++[cv st.t x]) (bf++(a.eval o).cells.toList):=by refine EH h ?_;simp only[dR];exact⟨a.eval o,[],Ψ,⟨ab,dA,B9 l3⟩,rfl⟩
  have qD:bf.length=i*sz:=by rw[<-aF];simp;omega
  obtain⟨ct,g1,g2,g3⟩:=Zr aO xs (i+1) os (pre++[cv st.t x]) (((a.eval o).cells.toList.zipIdx 0).foldl (fun cs (x:Value×Nat)=>cs.setIfInBounds (i*sz+x.2) x.1) us) (bf++(a.eval o).cells.toList) U bD
   (by
    rw[yV];simp only[Nat.add_zero];rw[aF];have:(bf++(a.eval o).cells.toList).length=(i+1)*sz:=by rw[pQ,qD,Nat.succ_mul];simp[dA]
    rw[<-this,List.take_append_of_le_length (fc _),je]) j8 (by simp[hi])
   (by have br:=fh List.length yV;simp only[Array.length_toList,pQ,List.length_take,tl,dA]at br;rw[br,ag,oX,show i+(xs.length+1)=i+1+xs.length from by omega];rw[ag,oX,show i+(xs.length+1)=i+1+xs.length from by omega]at hmul;omega)
  refine⟨ct,?_,by simpa using g2,?_⟩
  ·simp only[gM,Instr.fill];rw[if_neg (by simp[dA];omega),<-g1];congr 1;rw[<-Array.foldl_toList];simp
  ·rw[g3];have br:=fh List.length yV;simp only[Array.length_toList,pQ,List.length_take,tl,dA]at br;rw[br];omega
theorem mM{P:cI}{o:Oper}{a:Act}{w w':World}{v:Value}{K:Act->World->Prop}{Q:Exit->Act->World->Prop}(h:(execOp a.eval o).run P w= .ok (.value v) w')(ad:K (a.put o.dst v) w'):o.wp P a w K Q:=by unfold Oper.wp;rw[h];exact ad
theorem Fl{P:cI}{o:Oper}{a:Act}{w w':World}{K:Act->World->Prop}{Q:Exit->Act->World->Prop}(h:(execOp a.eval o).run P w= .ok .skip w')(ad:K (a.put o.dst undef) w'):o.wp P a w K Q:=by unfold Oper.wp;rw[h];exact ad
theorem Fg{P:cI}{w w':World}{x:Sem Value}{v:Value}(h:x.run P w= .ok v w'):(do pure (Next.value (<-x)):Sem Next).run P w= .ok (.value v) w':=by simp[h]
theorem Zp{P:cI}{bG:List (Nat×dN)}(aJ:fY P bG=true){C:fu}{st:bu}{a:Act}{w:World}{Z:bg}(aO:c0 C st a w Z){t el:Nat}{f g:dN}(aK:eu bG t=some f)(ad:f.kind= .slice el)(a7:eu bG el=some g)
  {xs:List dF} {os:List (Nat×Operand)} (ef:xx 0 xs os=true) (eC:tu g.size (xs.map (cv st.t))) (hlen:xs.length*g.size<=16777216):
  ∃us:Array Value,(Instr.buildSlice t xs.length (os.map fun(x:Nat×Operand)=>(x.1,a.eval x.2)).toArray).run P w= .ok (.slice (some ⟨w.heap.size,0,none⟩) xs.length xs.length) (w.alloc (.cells us el))/\
   dR w Z g.size (xs.map (cv st.t)) us.toList/\us.size=xs.length*g.size:=by
 obtain⟨d,aR,fe⟩:=jx aJ aK;rw[ad]at fe;obtain rfl:=tz fe;obtain⟨_,ag⟩:=wh aJ a7 w;obtain⟨z,yZ,atp,atq⟩:=Pt aJ a7 w;have ax:¬xs.length*g.size>2 ^ 24:=Ω
 let init:Array Value:=if xs.length*g.size=0 then(Array.range (xs.length*g.size)).map ((#[]:Array Value)[· %(#[]:Array Value).size]!)else(Array.range (xs.length*g.size)).map (z.cells[· %z.cells.size]!)
 have Vd:init.size=xs.length*g.size:=by simp only[init];split<;>simp
 obtain⟨ct,g1,g2,g3⟩:=Zr (a:=a) aO xs 0 os [] init [] ef eC Ψ (by simp[dR]) rfl (by rw[Vd];simp);refine⟨ct,?_,by simpa using g2,by rw[g3,Vd]⟩;simp only[init]at g1;by_cases br:xs.length*g.size=0
 ·rw[if_pos br]at g1;rw[br]at g1;have ahs:¬(0:Nat)>2 ^ 24:=by decide
  simp only[Instr.buildSlice,fZ,run_underlying aR,gf,ag,if_false,gL,br,if_true,ahs,g1,newRow,run_newObj];rfl
 ·rw[if_neg br]at g1;simp only[Instr.buildSlice,fZ,run_underlying aR,gf,ag,ax,if_false,gL,br,yZ,g1,newRow,run_newObj];rfl
theorem Eh{P:cI}{w:World}{Z:bg}{ck:jY}{t:gu}(aR:uL P ck t){k v:aj}{hB PX:Value}(ad:bd w Z k hB)(aF:bd w Z v PX):
  ∀(borns:List Nat) (kvs:List aj) (us:List Value) (i:Nat) (r:Option (List aj)),cY w Z kvs us->kvs.length=2*borns.length->vM ck k v kvs=some r->
  match r with
  |none=>iv P w ck t hB (fN borns us) i none
  |some xj=> ∃j u ct e,iv P w ck t hB (fN borns us) i (some (i+j,u))/\cY w Z xj ct/\xj.length=kvs.length/\(fN borns us)[j]? =some e/\e.key=hB/\Instr.sameBits 10000 e.key hB=true/\fN borns ct=(fN borns us).modify j (fun e=>{e with key:=hB,val:=PX})
 |[],[],us,i,r,h,_,hm=>by simp only[vM]at hm;cases hm;simp only[cY]at h;subst h;simpa[fN]using iv.nil P w ck t hB i
 |[],_::_,_,_,_,_,au,_=>by simp at au
 |b::e7,[],_,_,_,_,au,_=>by simp at au
 |b::e7,[_],_,_,_,_,au,_=>by simp at au;omega
 |b::e7,bJ::v'::kvs,us,i,r,h,au,hm=>by
  simp only[cY]at h;obtain⟨iO,PD,rfl,J,jV,td,rfl,U,ar⟩:=h;simp only[vM]at hm;simp only[fN];cases bn:tY ck k bJ with
  |none=>simp[bn]at hm
  |some bb=>
   obtain⟨s1,s2⟩:=Wr aR ad J bn;simp only[bn]at hm;cases bb with
   |true=>simp only[ea]at hm;subst hm;obtain⟨rfl,s3⟩:=s2 rfl;refine⟨0,jV,iO::PX::td,⟨iO,jV,b⟩,iv.hit (e:=⟨iO,jV,b⟩) s1,?_,Ψ,Ψ,rfl,s3,by simp[fN]⟩;simp only[cY];exact⟨_,_,rfl,ad,_,_,rfl,aF,ar⟩
   |false=>
    simp only at hm;have bR:=fun eZ dY=>Eh aR ad aF e7 kvs td (i+1) eZ ar (by simp at au;omega) dY;split at hm
    ·rename_i eZ dY;cases hm;obtain⟨j,u,ct,e,g1,g2,g3,g4,g5,g6,g7⟩:=bR _ dY;refine⟨j+1,u,iO::jV::ct,e,iv.miss (e:=⟨iO,jV,b⟩) s1 (by rw[show i+(j+1)=i+1+j from by omega];exact g1),?_,by simp[g3],by simpa using g4,g5,g6,by simp[fN,g7]⟩;simp only[cY];exact⟨_,_,rfl,J,_,_,rfl,U,g2⟩
    ·rename_i dY;cases hm;exact iv.miss (e:=⟨iO,jV,b⟩) s1 (bR _ dY)
    ·cases hm
theorem KL:∀(borns:List Nat) (us:List Value) (b:Nat) (k v:Value),us.length=2*borns.length->fN (borns++[b]) (us++[k,v])=fN borns us++[⟨k,v,b⟩]
 |[],us,b,k,v,h=>by have:us=[]:=List.eq_nil_of_length_eq_zero (by simpa using h);subst this;simp[fN]
 |b4::e7,[],b,k,v,h=>by simp at h
 |b4::e7,[_],b,k,v,h=>by simp at h;omega
 |b4::e7,bJ::v'::us,b,k,v,h=>by simp only[bW,fN,KL e7 us b k v (by simp at h;omega)]
theorem OT{w:World}{Z:bg}:∀{b1 bB:List aj} {bf us:List Value},cY w Z b1 bf->cY w Z bB us->cY w Z (b1++bB) (bf++us)
 |[],bB,bf,us,h,cn=>by simp only[cY]at h;subst h;simpa using cn
 |p::b1,bB,bf,us,h,cn=>by simp only[cY]at h;obtain⟨u,ct,rfl,J,U⟩:=h;simp only[bW,cY];exact⟨u,_,rfl,J,OT U cn⟩
theorem IG{w:World}{Z:bg}:∀{b1:List aj} {bf:List Value},cY w Z b1 bf->bf.length=b1.length
 |[],bf,h=>by simp only[cY]at h;subst h;rfl
 |p::b1,bf,h=>by simp only[cY]at h;obtain⟨u,ct,rfl,_,U⟩:=h;simp[IG U]
theorem EO{P:cI}{w:World}{r:Nat}{o o':Obj}(af:w.heap[r]? =some o)(ax:∀c e f,o≠ .cells c e f:=by simp):(setObj r o').run P w= .ok () {w with heap:=w.heap.setIfInBounds r o'}:=by simp only[setObj,Sem.run,af]
def eF.makes(st:bu):eF->Bool
 | .box _ _ _| .alloc _ _ _| .bsl _ _ _ _| .bslm _ _ _ _ _| .mkmap _ _| .range _ _ _| .mks _ _ _ _ _ _=>true
 | .appm _ _ _ _ x _=>match cv st.t x with
  | .slice _ .nil _=>true
  |_=>false
 | .app _ _ _ x _=>match cv st.t x with
  | .slice _ .nil _=>true
  |_=>false
 |_=>false
theorem c0.forgetRow{C:fu}{st:bu}{a:Act}{w:World}{Z:bg}(aO:c0 C st a w Z){k:aI}{ow:gg}(ad:look k st.e=some ow):c0 C {st with e:=cA k ⟨ow.n,ow.el,ow.sz,none⟩ st.e} a w Z:=by
 have fE:∀g,(look g (cA k ⟨ow.n,ow.el,ow.sz,none⟩ st.e)).isSome->(look g st.e).isSome:=fun g a7=>by
  rw[jt]at a7;split at a7
  ·rename_i e;subst e;simp[ad]
  ·exact a7
 refine⟨⟨aO.good.alt,aO.good.box,aO.good.inj,fun g o a7=>?_,fun g fv n n' v v' bl bH a2=>aO.good.oinj g fv n n' v v' bl (fE g bH) (fE fv a2),fun g j n v bl bH=>aO.good.obx g j n v bl (fE g bH),aO.good.one,fun bl af=>aO.good.otr bl (af.imp id (fun⟨g,n,v,bH,a2⟩=>⟨g,n,v,fE g bH,a2⟩))⟩,aO.fr,aO.defers,aO.size,aO.slot,aO.new⟩;simp only at a7;rw[jt]at a7;split at a7
 ·rename_i e;subst e;cases a7;obtain⟨v,us,ba,bo,b3,_⟩:=aO.good.own k ow ad;exact⟨v,us,ba,bo,b3,fun xs ab=>by cases ab⟩
 ·exact aO.good.own g o a7
theorem X5{w:World}{base el sz n:Nat}{v:Value}{us:List Value}(h:w.ownsRow base el sz v n us)(ax:0<n):∃b cap,v= .slice (some ⟨b,0,none⟩) n cap:=by
 rcases h.2 with⟨ak,aD⟩|⟨bb,cap,cur,f1,_⟩
 ·omega
 ·exact⟨_,_,f1⟩
theorem IC{w:World}{Z:bg}{sz:Nat}:∀{xs:List aj} {us:List Value} {i:Nat} {q gK:aj} {e6:Value},dR w Z sz xs us->xs[i]? =some q->bd w Z gK e6->e6.cells.size=sz->(∀c∈e6.cells.toList,c.oneCell'=true)->dR w Z sz (xs.set i gK) (us.take (i*sz)++e6.cells.toList++us.drop (i*sz+sz))
 |[],_,_,_,_,_,_,bn,_,_,_=>by simp at bn
 |x::xs,us,0,q,gK,e6,h,bn,aO,ag,ay=>by
  simp only[dR]at h;obtain⟨u,ct,rfl,⟨J,U,ar⟩,b0⟩:=h;have au:u.cells.toList.length=sz:=by simpa using U
  simp only[List.set_cons_zero,dR];refine⟨e6,ct,?_,⟨aO,ag,ay⟩,b0⟩;simp[<-au]
 |x::xs,us,i+1,q,gK,e6,h,bn,aO,ag,ay=>by
  simp only[dR]at h;obtain⟨u,ct,rfl,⟨J,U,ar⟩,b0⟩:=h;have au:u.cells.toList.length=sz:=by simpa using U
  have bR:=IC b0 (by simpa using bn) aO ag ay;simp only[List.set_cons_succ,dR];refine⟨u,_,?_,⟨J,U,ar⟩,bR⟩;have e:(i+1)*sz+sz=u.cells.toList.length+(i*sz+sz):=by rw[au,Nat.succ_mul];omega
  rw[ZW _ _ _ _ au,e,<-List.drop_drop];simp
theorem aoW{w:World}{Z:bg}{q:aj}{v:Value}(bn:bd w Z q v)(ag:eT q=true){cs:List aj}{us:List Value}(aw:dd w Z cs us){f:Nat}(aK:f+us.length<=v.cells.size)(cM:us≠[]):
  ∃v',bd w Z (nr q f cs) v'/\v'.cells.toList=v.cells.toList.take f++us++v.cells.toList.drop (f+us.length)/\v'.cells.size=v.cells.size/\∀c∈v'.cells.toList,c.oneCell'=true:=by
 have hlen:=qk aw;have k8:=vX bn ag;by_cases bD:∃e1,q= .agg e1
 ·obtain⟨e1,rfl⟩:=bD;simp only[bd]at bn;obtain⟨bf,rfl,lh⟩:=bn;simp only[pP]at aK⊢;have kS:dd w Z (oN e1 f cs) (bf.toList.take f++us++bf.toList.drop (f+us.length)):=by unfold oN;rw[hlen];exact zB (zB (EJ f lh) aw) (B8 _ lh)
  refine⟨.agg (bf.toList.take f++us++bf.toList.drop (f+us.length)).toArray,by simp only[nr,bd];exact⟨_,rfl,by simpa using kS⟩,by simp[pP],?_,fun c hT=>?_⟩
  ·simp[pP];omega
  ·exact B9 kS c (by simpa[pP]using hT)
 ·have nL:∀cs,q≠ .agg cs:=fun cs e=>bD ⟨cs,e⟩;obtain⟨J,U⟩:=OU bn ag nL;rw[U]at aK⊢;match us,cM,aw with
  |u::ct,_,aw=>
   simp at aK;obtain⟨rfl,rfl⟩:f=0/\ct=[]:=⟨Ω,List.length_eq_zero_iff.1 Ω⟩;match cs,aw,hlen with
   |[c],aw,_=>
    simp only[dd]at aw;obtain⟨xT,fJ,ak,⟨LL,U0⟩,_⟩:=aw;cases ak;have hu:u.cells= #[u]:=by cases u<;>first|rfl|cases U0
    have Ba:nr q 0 [c]=c:=by cases q<;>first|rfl|exact absurd rfl (nL _)
    rw[Ba];refine⟨u,LL,by simp[hu],by simp[hu],fun c hT=>?_⟩;rw[hu]at hT;simp at hT;subst hT;exact U0
theorem apD{α:Type}(A us:List α)(a f sz N:Nat)(J:f+us.length<=sz)(U:a+sz<=N)(ar:N<=A.length):
  ((A.take (a+f)++us++A.drop (a+f+us.length)).toArray.toList).take N=(A.take N).take a++((((A.take N).drop a).take sz).take f++us++(((A.take N).drop a).take sz).drop (f+us.length))++(A.take N).drop (a+sz):=by
 have ak:(A.take N).take a++(((A.take N).drop a).take sz).take f=A.take (a+f):=by rw[List.take_take (i:=f),Nat.min_eq_left (show f<=sz by omega),<-List.take_add,List.take_take,Nat.min_eq_left Ω]
 have aD:(((A.take N).drop a).take sz).drop (f+us.length)++(A.take N).drop (a+sz)=(A.take N).drop (a+f+us.length):=by
  have au:f+us.length<=(((A.take N).drop a).take sz).length:=by simp;omega
  have fp:(A.take N).drop (a+sz)=((A.take N).drop a).drop sz:=by rw[List.drop_drop]
  rw[fp,<-List.drop_append_of_le_length au,List.take_append_drop,List.drop_drop];congr 1;omega
 have bh:(A.take N).drop (a+f+us.length)=(A.drop (a+f+us.length)).take (N-(a+f+us.length)):=by rw[List.drop_take]
 have au:(A.take (a+f)++us).length=a+f+us.length:=by simp;omega
 simp only[List.append_assoc]at*;rw[aD,bh,<-List.append_assoc (ku a _),ak];have pg:N=(A.take (a+f)++us).length+(N-(a+f+us.length)):=by rw[au];omega
 rw[<-List.append_assoc,<-List.append_assoc];conv=>lhs;rw[pg,List.take_length_add_append]
theorem c0.storeRow{P:cI}{C:fu}{st:bu}{a:Act}{w:World}{Z:bg}(h:c0 C st a w Z){k:aI}{n el sz:Nat}{xs:List aj}(ad:look k st.e=some ⟨n,el,sz,some xs⟩){i f:Nat}{u:Value}(ab:bd w Z (.rptr sz k n i f) u){q:aj}(bn:xs[i]? =some q)(ag:eT q=true)
  {cs:List aj} {us:List Value} (aw:dd w Z cs us) (aK:f+us.length<=(cells q).length) (cM:us≠[]):
  ∃bl off mR,u= .pointer (some ⟨bl,off,none⟩)/\(storeCells ⟨bl,off,none⟩ us).run P w= .ok () (w.setRow bl mR)/\∃bt,c0 C {st with e:=cA k ⟨n,el,sz,some (xs.set i (nr q f cs))⟩ st.e} a (w.setRow bl mR) bt:=by
 simp only[bd]at ab;obtain⟨_,hi,n',e6,J,U,ar⟩:=ab;obtain⟨v,fJ,ba,bo,b3,c9⟩:=h.good.own k _ ad;rw[J]at ba;simp only[ea,jO]at ba;obtain⟨rfl,rfl⟩:=ba;obtain⟨bl,af,rfl⟩:=ar rfl;obtain⟨dh,oL,vS⟩:=c9 xs rfl;simp only at dh oL;obtain⟨v,dC,eH,ln⟩:=IA i oL bn;have AU:=qk (vX dC ag);have aiN:(cells q).length=sz:=by rw[<-AU];simpa using eH
 have Va:f+us.length<=sz:=by rw[<-aiN];exact aK
 have hmul:i*sz+sz<=n'*sz:=by have:=Nat.mul_le_mul_right sz (show i+1<=n' from hi);rwa[Nat.succ_mul]at this
 rcases bo.2 with⟨ak,aD⟩|⟨g,cap,cur,rfl,wN,LX,L8,ahR,dA,VN⟩
 ·rw[ak]at af;simp[oV]at af
 simp only[oV,ea]at af;subst af;simp only at VN dA L8 LX;have AT:n'*sz<=cur.size:=by rw[dA];exact Nat.mul_le_mul_right sz L8
 have cF:=run_storeCells_at P g (i*sz+f) el us 0 cur w LX Ω (B9 aw);simp only[Nat.add_zero]at cF;refine⟨g,i*sz+f,_,rfl,cF,?_⟩;generalize yC:(cur.toList.take (i*sz+f)++us++cur.toList.drop (i*sz+f+us.length)).toArray=mR;obtain⟨v',cX,dI,jv,vP⟩:=aoW dC ag aw (f:=f) (by rw[eH];exact Va) cM;have mZ:=IC oL bn cX (by rw[jv,eH]) vP;have hlen:fJ.length=n'*sz:=bo.1;have aiA:mR.toList.take (n'*sz)=fJ.take (i*sz)++v'.cells.toList++fJ.drop (i*sz+sz):=by rw[<-yC,dI,ln,<-VN];exact apD cur.toList us (i*sz) f sz (n'*sz) Va hmul (by simpa using AT)
 have ahT:mR.size=cap*sz:=by rw[<-yC,<-dA];simp;omega
 have atg:(xs.set i (nr q f cs)).length=n':=by simp[dh]
 obtain⟨ano,_,_⟩:=h.setRowM (w':=w.setRow g mR) ad rfl J (bl:=g) rfl (v':= .slice (some ⟨g,0,none⟩) n' cap) rfl (xs':=xs.set i (nr q f cs)) (us:=fJ.take (i*sz)++v'.cells.toList++fJ.drop (i*sz+sz)) (.inl ⟨by simp[dh],rfl⟩) rfl rfl rfl (fun j ae=>setRow_other w g j mR ae) (setRow_size w g mR)
  ⟨by rw[uo mZ],.inr ⟨g,cap,mR,by simp[dh],Nat.zero_le _,setRow_heap w g cur mR el _ LX,by simpa[dh]using L8,ahR,ahT,by simpa[dh]using aiA⟩⟩ mZ
 exact⟨_,by simpa[dh]using ano⟩
theorem akm(z:Array Value)(n:Nat)(h:0<z.size):(madeCells z ((n+1)*z.size)).toList=z.toList++(madeCells z (n*z.size)).toList:=by
 apply List.ext_getElem?;intro j;rw[List.getElem?_append];have he:(n+1)*z.size=n*z.size+z.size:=by rw[qp,Nat.one_mul]
 simp only[madeCells,uG,Array.length_toList,Array.getElem?_map];by_cases ae:j<z.size
 ·rw[if_pos ae,Array.getElem?_range,if_pos Ω];simp[Nat.mod_eq_of_lt ae,ae]
 ·rw[if_neg ae,Array.getElem?_range,Array.getElem?_range];by_cases ad:j<n*z.size+z.size
  ·rw[if_pos Ω,if_pos Ω];simp only[o0];rw[<-Nat.mod_eq_sub_mod Ω]
  ·rw[if_neg Ω,if_neg Ω]
theorem W8{w:World}{Z:bg}{p:aj}{z:Value}(aO:bd w Z p z)(h:0<z.cells.size)(ay:∀c∈z.cells.toList,c.oneCell'=true):∀n,dR w Z z.cells.size (rU n p) (madeCells z.cells (n*z.cells.size)).toList
 |0=>by simp[dR,madeCells]
 |n+1=>by rw[akm _ _ h];simp only[List.replicate_succ,dR];exact⟨z,_,rfl,⟨aO,rfl,ay⟩,W8 aO h ay n⟩
theorem kd{P:cI}{bG:List (Nat×dN)}(aJ:fY P bG=true){C:fu}{st st':bu}{a:Act}{w:World}{Z:bg}(aO:c0 C st a w Z){i:eF}{o:Oper}(ay:EP C.N bG i o=true)
  {κ:aI} {n':Nat} {o₁:List aI} (vn:i.makes st=true->fresh st.n st.o κ) (cU:i.makes st=true->∀j,fresh n' o₁ j->fresh st.n st.o j/\j≠κ) {c:Prop} (he:eS κ n' o₁ st i=some (c,st')) (aw:c) {K:Act->World->Prop} {Q:Exit->Act->World->Prop} (c5:∀bs w' bt,c0 C st' bs w' bt->K bs w'):o.wp P a w K Q:=by
 obtain⟨dst,op,type,pos,after,guard⟩:=o;unfold EP at ay;dsimp only at ay;split at ay
 ·rename_i d key t;simp only[cy,eb,eW]at ay;obtain⟨rfl,U⟩:=ay;simp only[eS]at he;cases he;obtain⟨g1,g2⟩:=aO.newBox (aO.new _ (vn rfl)) (cU rfl) (cs:=[.hdm 0 []]) (us:= #[]) 0 (by simp only[jJ];exact⟨by simp[cY],⟨rfl,Ψ,Ψ⟩⟩);refine mM (v:= .map (some w.heap.size)) (w':=w.alloc (.map #[] 0)) ?_ (c5 _ _ _ (g1.put (d:=some d) (by simpa[jQ]using U) (p:= .gmap κ) ?_))
  ·simp only[execOp,Instr.makeMap,Option.map_none,fZ,run_newObj,gf,gL];rfl
  ·simp[bd,bg.withBox]
 ·rename_i ck x k v t gU fB qN;simp only[cy,eb]at ay;obtain⟨⟨⟨⟨rfl,J⟩,U⟩,ar⟩,a6⟩:=ay;have rx:=eE aO U;have vZ:=eE aO ar;have zH:=eE aO a6;split at J
  ·rename_i sz ly nk p4 z aK;obtain⟨cQ,hu,fe⟩:=jx aJ aK;have tK:cQ= .map nk p4:=by cases cQ<;>simp[kA]at fe;obtain⟨rfl,rfl⟩:=fe;rfl
   subst tK;have my:=MR aJ J;simp only[eS]at he;split at he
   ·rename_i m ab;rw[ab]at rx;simp only[bd]at rx;obtain⟨bl,bV,b7⟩:=rx;split at he
    ·rename_i cs dA;split at he
     ·rename_i cs' hm;cases he;obtain⟨iS,us,el,ba,bo,b3,c9,dh⟩:=aO.good.box m cs dA;rw[bV]at ba;cases ba;unfold oK at hm;split at hm
      ·rename_i clock borns kvs;split at hm
       ·cases hm
       rename_i wT;simp only[kc]at c9;simp only[jJ]at dh;have hz:=v8 (P:=P) c9;have wO:=OY (P:=P) (w:=w) my false vZ (by simpa using wT);have bE:bl<w.heap.size:=(Array.getElem?_eq_some_iff.1 c9).1;have dX:∀(o':Obj) (ct:Array Value) (e1:List aj),(Instr.mapUpdate t (a.eval gU) (a.eval fB) (a.eval qN)).run P w= .ok () {w with heap:=w.heap.setIfInBounds bl o'}->kc e1 ct el=o'->jJ w Z e1 ct.toList->some e1=some cs'->
         (⟨none,.mapUpdate t gU fB qN,type,pos,after,guard⟩:Oper).wp P a w K Q:=by
        intro o' ct e1 jr DG mZ jm;cases jm;refine Fl (w':={w with heap:=w.heap.setIfInBounds bl o'}) ?_ (c5 _ _ _ (aO.setBox (w':={w with heap:=w.heap.setIfInBounds bl o'}) dA bV (us:=ct) (el:=el) rfl rfl rfl (fun j ae=>?_) Ψ ?_ mZ).1)
        ·simp only[execOp,jr,fZ,gf,gL]
        ·exact Array.getElem?_setIfInBounds_ne (lv ae)
        ·rw[DG];simp[bE]
       split at hm
       ·rename_i xj vt;obtain⟨j,u,ct,e,f1,f2,f3,f4,f5,f6,f7⟩:=Eh my vZ zH borns kvs us.toList 0 _ dh.1 dh.2.len vt;refine dX (.map (fN borns ct).toArray clock) ct.toArray (.hdm clock borns::xj) ?_ (by simp[kc]) (by simp only[jJ];exact⟨by simpa using f2,⟨by rw[f3];exact dh.2.len,dh.2.inc,dh.2.lt⟩⟩) hm;have Mp:(Instr.keyThatStays (((fN borns us.toList).toArray[j]?.map (·.key)).getD (a.eval fB)) (a.eval fB)).run P w= .ok (a.eval fB) w:=by
         have:((fN borns us.toList).toArray[j]?.map (·.key)).getD (a.eval fB)=e.key:=by simp[f4]
         rw[this];simp[Instr.keyThatStays,f6]
        simp only[Nat.zero_add]at f1;simp only[Instr.mapUpdate,fZ,run_underlying hu,gf,b7,hz,wO,f1.run my,gL,Mp,EO c9];rw[f7];simp
       ·rename_i vt;have f1:=Eh my vZ zH borns kvs us.toList 0 _ dh.1 dh.2.len vt;simp only at f1;have l8:us.toList.length=2*borns.length:=by rw[IG dh.1,dh.2.len]
        refine dX (.map ((fN borns us.toList).toArray.push ⟨a.eval fB,a.eval qN,clock⟩) (clock+1)) (us.toList++[a.eval fB,a.eval qN]).toArray (.hdm (clock+1) (borns++[clock])::(kvs++[cv st.t k,cv st.t v])) ?_ (by simp only[kc,KL borns us.toList clock _ _ l8];simp) ?_ hm
        ·simp only[Instr.mapUpdate,fZ,run_underlying hu,gf,b7,hz,wO,f1.run my,gL,EO c9]
        ·simp only[jJ];refine⟨OT dh.1 (by simp only[cY];exact⟨_,_,rfl,vZ,_,_,rfl,zH,rfl⟩),⟨by simp[dh.2.len];omega,?_,?_⟩⟩
         ·rw[List.pairwise_append];exact⟨dh.2.inc,Ψ,fun x ab y aL=>by simp at aL;subst aL;exact dh.2.lt x ab⟩
         ·intro b af;rcases kt.1 af with af|af
          ·have:=dh.2.lt b af;omega
          ·simp at af;omega
       ·cases hm
      ·cases hm
     ·cases he
    ·cases he
   ·cases he
  ·cases J
 ·rename_i ck x k v t gU fB qN;simp only[cy,eb]at ay;obtain⟨⟨⟨⟨rfl,J⟩,U⟩,ar⟩,a6⟩:=ay;have rx:=eE aO U;have vZ:=eE aO ar;have zH:=eE aO a6;split at J
  ·rename_i sz ly nk p4 z aK;obtain⟨cQ,hu,fe⟩:=jx aJ aK;have tK:cQ= .map nk p4:=by cases cQ<;>simp[kA]at fe;obtain⟨rfl,rfl⟩:=fe;rfl
   subst tK;have my:=MR aJ J;simp only[eS]at he;split at he
   ·rename_i m ab;rw[ab]at rx;simp only[bd]at rx;obtain⟨bl,bV,b7⟩:=rx;split at he
    ·rename_i cs dA;split at he
     ·rename_i cs' hm;cases he;obtain⟨iS,us,el,ba,bo,b3,c9,dh⟩:=aO.good.box m cs dA;rw[bV]at ba;cases ba;unfold oK at hm;split at hm
      ·rename_i clock borns kvs;split at hm
       ·cases hm
       rename_i wT;simp only[kc]at c9;simp only[jJ]at dh;have hz:=v8 (P:=P) c9;have wO:=OY (P:=P) (w:=w) my false vZ (by simpa using wT);have bE:bl<w.heap.size:=(Array.getElem?_eq_some_iff.1 c9).1;have dX:∀(o':Obj) (ct:Array Value) (e1:List aj),(Instr.mapUpdate t (a.eval gU) (a.eval fB) (a.eval qN)).run P w= .ok () {w with heap:=w.heap.setIfInBounds bl o'}->kc e1 ct el=o'->jJ w Z e1 ct.toList->some e1=some cs'->
         (⟨none,.mapUpdate t gU fB qN,type,pos,after,guard⟩:Oper).wp P a w K Q:=by
        intro o' ct e1 jr DG mZ jm;cases jm;refine Fl (w':={w with heap:=w.heap.setIfInBounds bl o'}) ?_ (c5 _ _ _ (aO.setBox (w':={w with heap:=w.heap.setIfInBounds bl o'}) dA bV (us:=ct) (el:=el) rfl rfl rfl (fun j ae=>?_) Ψ ?_ mZ).1)
        ·simp only[execOp,jr,fZ,gf,gL]
        ·exact Array.getElem?_setIfInBounds_ne (lv ae)
        ·rw[DG];simp[bE]
       split at hm
       ·rename_i xj vt;obtain⟨j,u,ct,e,f1,f2,f3,f4,f5,f6,f7⟩:=Eh my vZ zH borns kvs us.toList 0 _ dh.1 dh.2.len vt;refine dX (.map (fN borns ct).toArray clock) ct.toArray (.hdm clock borns::xj) ?_ (by simp[kc]) (by simp only[jJ];exact⟨by simpa using f2,⟨by rw[f3];exact dh.2.len,dh.2.inc,dh.2.lt⟩⟩) hm;have Mp:(Instr.keyThatStays (((fN borns us.toList).toArray[j]?.map (·.key)).getD (a.eval fB)) (a.eval fB)).run P w= .ok (a.eval fB) w:=by
         have:((fN borns us.toList).toArray[j]?.map (·.key)).getD (a.eval fB)=e.key:=by simp[f4]
         rw[this];simp[Instr.keyThatStays,f6]
        simp only[Nat.zero_add]at f1;simp only[Instr.mapUpdate,fZ,run_underlying hu,gf,b7,hz,wO,f1.run my,gL,Mp,EO c9];rw[f7];simp
       ·rename_i vt;have f1:=Eh my vZ zH borns kvs us.toList 0 _ dh.1 dh.2.len vt;simp only at f1;have l8:us.toList.length=2*borns.length:=by rw[IG dh.1,dh.2.len]
        refine dX (.map ((fN borns us.toList).toArray.push ⟨a.eval fB,a.eval qN,clock⟩) (clock+1)) (us.toList++[a.eval fB,a.eval qN]).toArray (.hdm (clock+1) (borns++[clock])::(kvs++[cv st.t k,cv st.t v])) ?_ (by simp only[kc,KL borns us.toList clock _ _ l8];simp) ?_ hm
        ·simp only[Instr.mapUpdate,fZ,run_underlying hu,gf,b7,hz,wO,f1.run my,gL,EO c9]
        ·simp only[jJ];refine⟨OT dh.1 (by simp only[cY];exact⟨_,_,rfl,vZ,_,_,rfl,zH,rfl⟩),⟨by simp[dh.2.len];omega,?_,?_⟩⟩
         ·rw[List.pairwise_append];exact⟨dh.2.inc,Ψ,fun x ab y aL=>by simp at aL;subst aL;exact dh.2.lt x ab⟩
         ·intro b af;rcases kt.1 af with af|af
          ·have:=dh.2.lt b af;omega
          ·simp at af;omega
       ·cases hm
      ·cases hm
     ·cases he
    ·cases he
   ·cases he
  ·cases J
 ·rename_i d key x t gU;simp only[cy,eb,eW]at ay;obtain⟨⟨⟨rfl,U⟩,J⟩,ar⟩:=ay;have rx:=eE aO ar;split at J
  ·rename_i sz ly nk p4 z aK;obtain⟨cQ,hu,fe⟩:=jx aJ aK;have tK:cQ= .map nk p4:=by cases cQ<;>simp[kA]at fe;obtain⟨rfl,rfl⟩:=fe;rfl
   subst tK;simp only[eS]at he;split at he
   ·rename_i m ab;rw[ab]at rx;have ao1:=rx;simp only[bd]at rx;obtain⟨bl,bV,b7⟩:=rx;split at he
    ·rename_i cs dA;split at he
     ·rename_i cs' hm;cases he;obtain⟨iS,us,el,ba,bo,b3,c9,dh⟩:=aO.good.box m cs dA;rw[bV]at ba;cases ba;unfold xF at hm;split at hm
      ·rename_i clock borns kvs;cases hm;simp only[kc]at c9;have hz:=v8 (P:=P) c9;obtain⟨g1,g2⟩:=aO.newBox (aO.new _ (vn rfl)) (cU rfl) (cs:=[.hdi clock [] clock,.gmap m]) (us:= #[a.eval gU]) 0 (by simp only[jJ,cY];exact⟨_,_,rfl,ao1,rfl⟩);have DG:kc [.hdi clock [] clock,.gmap m] #[a.eval gU] 0= .mapIter (some bl) clock #[] clock:=by simp[kc,b7]
       rw[DG]at g1 g2;refine mM (v:= .pointer (some ⟨w.heap.size,0,none⟩)) (w':=w.alloc (.mapIter (some bl) clock #[] clock)) ?_ (c5 _ _ _ (g1.put (d:=some d) (by simpa[jQ]using U) (p:= .ptr κ 0) g2))
       ·simp only[execOp];refine Fg ?_;simp only[Instr.range,fZ,run_underlying hu,gf,b7,hz,gL,run_newObj];rfl
      ·cases hm
     ·cases he
    ·cases he
   ·cases he
  ·cases J
 ·rename_i d av8;simp only[cy,eb,eW]at ay;obtain⟨⟨J,U⟩,ar⟩:=ay;subst J;simp only[eS]at he;split at he
  ·rename_i cw p aF;cases he;obtain⟨v,g1,g2⟩:=aqh (o:=⟨some d,op,type,pos,after,guard⟩) aJ aO ar aF aw;refine mM g1 (c5 _ _ Z ?_);exact aO.put (d:=some d) (by simpa[jQ]using U) g2
  ·cases he
 ·rename_i d key x el o';simp only[cy,eb,eW]at ay;obtain⟨⟨J,U⟩,ar⟩:=ay;subst J;simp only[eS]at he;cases he;have ab:=eE aO ar;have l3:=vX ab aw;obtain⟨g1,g2⟩:=aO.newBox (aO.new _ (vn rfl)) (cU rfl) el (by rw[vR (Ca l3)];exact l3);rw[vQ (Ca l3)]at g1 g2;refine mM (v:= .pointer (some ⟨w.heap.size,0,none⟩)) (w':=w.alloc (.cells (a.eval o').cells el)) ?_ (c5 _ _ _ (g1.put (d:=some d) (by simpa[jQ]using U) (p:= .ptr κ 0) ?_))
  ·simp only[execOp,Instr.box,newVar,newRow,fZ,run_newObj,gf,gL];rfl
  ·simpa only[bd]using g2
 ·rename_i d key z el;simp only[cy,eb,eW]at ay;obtain⟨⟨J,U⟩,ar⟩:=ay;subst J;simp only[eS]at he;cases he;split at ar
  ·rename_i f aK;have bz:=P5 ar;obtain⟨b5,lr,z2,z3⟩:=Pt aJ aK w;rw[<-bz]at z2;obtain⟨_,l3⟩:=P4 w Z z2;obtain⟨g1,g2⟩:=aO.newBox (aO.new _ (vn rfl)) (cU rfl) el (by rw[vR (Ca l3)];exact l3);rw[vQ (Ca l3)]at g1 g2;refine mM (v:= .pointer (some ⟨w.heap.size,0,none⟩)) (w':=w.alloc (.cells b5.cells el)) ?_ (c5 _ _ _ (g1.put (d:=some d) (by simpa[jQ]using U) (p:= .ptr κ 0) ?_))
   ·simp only[execOp,Instr.alloc,newVar,newRow,fZ,lr,run_newObj,gf,gL];rfl
   ·simpa only[bd]using g2
  ·cases ar
 ·rename_i sz x y t o' jI;simp only[cy,eb]at ay;obtain⟨⟨⟨J,U⟩,ar⟩,a6⟩:=ay;subst J;split at U
  ·rename_i f aK;simp only[eb]at U;simp only[eS]at he;split at he
   ·rename_i k off ab;split at he
    ·rename_i cs dA;cases he;obtain⟨iw,bM,cp,dc⟩:=aw;have rx:=eE aO ar;rw[ab]at rx;simp only[bd]at rx;obtain⟨bl,bV,b7⟩:=rx;have mm:=eE aO a6;have vW:=vX mm bM;have v7:=qk vW;obtain⟨iS,us,el,ba,bo,b3,c9,dh⟩:=aO.good.box k cs dA;rw[bV]at ba;cases ba;rw[vQ iw]at c9;rw[vR iw]at dh;have av:=qk dh;obtain⟨_,eC⟩:=wh aJ aK w;have vz:(a.eval jI).cells.size=sz:=by rw[cp]at v7;simpa using v7
     have cF:=run_storeCells_at (P:=P) bl off el (a.eval jI).cells.toList 0 us w c9 (by simp at av⊢;omega) (B9 vW);simp only[Nat.add_zero]at cF;refine Fl (w':=w.setRow bl (us.toList.take off++(a.eval jI).cells.toList++us.toList.drop (off+(a.eval jI).cells.toList.length)).toArray) ?_ (c5 _ _ _ (aO.storeBox dA bV iw ?_))
     ·simp only[execOp,Instr.storeAt,b7,Instr.sureAddr,storeVar,fZ,gL,gf,eC,vz,U,ne_eq,not_true_eq_false,if_false,cF]
     ·simp only[oN];rw[v7];exact zB (zB (EJ off dh) vW) (B8 _ dh)
    ·cases he
   ·rename_i ab;generalize Me:cv st.t x=px at he;unfold rM at he;split at he
    ·rename_i dZ k n i tE;split at he
     ·rename_i n' el jK xs ad;split at he
      ·rename_i sA;obtain⟨rfl,rfl⟩:=sA;split at he
       ·rename_i q bn;cases he;obtain⟨iw,bM,cp,dc,h2⟩:=aw;have rx:=eE aO ar;rw[Me]at rx;have mm:=eE aO a6;have vW:=vX mm bM;have v7:=qk vW;obtain⟨_,eC⟩:=wh aJ aK w;have vz:(a.eval jI).cells.size=sz:=by rw[cp]at v7;simpa using v7
        obtain⟨bl,off,mR,DJ,cF,bt,qB⟩:=aO.storeRow (P:=P) ad rx bn iw vW (by simpa[vz]using dc) (fun e=>by have:=fh List.length e;simp[vz]at this;omega);refine Fl (w':=w.setRow bl mR) ?_ (c5 _ _ _ qB);simp only[execOp,Instr.storeAt,DJ,Instr.sureAddr,storeVar,fZ,gL,gf,eC,vz,U,ne_eq,not_true_eq_false,if_false,cF]
       ·cases he
      ·cases he
     ·cases he
    ·cases he
  ·cases U
 ·rename_i d sz el xs t len parts;simp only[cy,eb,eW]at ay;obtain⟨⟨⟨⟨⟨⟨J,U⟩,ar⟩,a6⟩,b0⟩,df⟩,eB⟩:=ay;subst J;subst b0;split at ar
  ·rename_i gm aK;simp only[eb]at ar;subst ar;split at a6
   ·rename_i g a7;simp only[cy,eb,eW]at a6;obtain⟨rfl,fG⟩:=a6;simp only[eS]at he;cases he;obtain⟨us,g1,g2,g3⟩:=Zp aJ aO aK rfl a7 eB aw df;have l5:(w.alloc (.cells us el)).ownsRow w.heap.size el g.size (.slice (some ⟨w.heap.size,0,none⟩) xs.length xs.length) (xs.map (cv st.t)).length us.toList:=by
     refine⟨by simp[g3],.inr ⟨w.heap.size,xs.length,us,Ψ,fc _,heap_alloc_new w _,Ψ,?_,g3,?_⟩⟩
     ·simp only[maxLen];have:xs.length<=xs.length*g.size:=Nat.le_mul_of_pos_right _ fG;omega
     ·rw[hY];simp[g3]
    obtain⟨dC,eH⟩:=aO.newRow (k:=κ) (xs:=xs.map (cv st.t)) (.inl (aO.new _ (vn rfl))) (World.grownBy_alloc w _ none) l5 g2
     (by have:xs.length<=xs.length*g.size:=Nat.le_mul_of_pos_right _ fG;simp only[lim,oh];omega) (cU rfl)
    simp only[oh]at dC eH;refine mM (v:= .slice (some ⟨w.heap.size,0,none⟩) xs.length xs.length) (w':=w.alloc (.cells us el)) ?_ (c5 _ _ _ (dC.put (d:=some d) (by simpa[jQ]using U) (p:= .slice g.size (.own κ) (xs.map (cv st.t))) eH));have bF:(parts.map fun(x:Nat×Operand)=>(x.1,a.eval x.2))=(parts.toList.map fun(x:Nat×Operand)=>(x.1,a.eval x.2)).toArray:=by apply Array.ext';simp
    simp only[execOp];refine Fg ?_;rw[<-g1];congr 2
   ·cases a6
  ·cases ar
 ·rename_i d sz el x y o' jI t da;simp only[cy,eb,eW]at ay;obtain⟨⟨⟨⟨⟨⟨J,U⟩,ar⟩,a6⟩,b0⟩,df⟩,eB⟩:=ay;subst J;subst ar;split at a6
  ·rename_i gm aK;simp only[eb]at a6;subst a6;split at b0
   ·rename_i g a7;simp only[cy,eb,eW]at b0;obtain⟨⟨rfl,fG⟩,qa⟩:=b0;have rx:=eE aO df;have mm:=eE aO eB;have mV:∀v' w',(Builtin.append_ #[t,t] type #[a.eval o',a.eval jI]).run P w= .ok v' w'->(execOp a.eval ⟨some d,.call ⟨.builtin .append,⟨[o',jI]⟩,⟨[t,t]⟩⟩,type,pos,after,guard⟩).run P w= .ok (.value v') w':=by intro v' w' jr;simp only[execOp,resolve,invoke,builtin,fZ,gL,gf,List.map_toArray,gM,mN];rw[jr];rfl
    obtain⟨fI,cd,z,ak,aD,bh,dk,hy,h8,r3,r4⟩:=(wi aJ a7).ex;obtain⟨e1,jm,fe⟩:=jx aJ aK;obtain rfl:=tz fe;simp only[eS]at he;split at he
    ·rename_i dZ tag xs jK lp ys ab aL;split at he
     ·rename_i fq;obtain⟨rfl,fq⟩:=fq;subst fq;rw[ab]at rx;rw[aL]at mm;simp only[bd]at rx mm;obtain⟨⟨uW,p0,te,cx1,⟨Tp,Tq⟩,cx4⟩,rxn,rxo,rxt⟩:=rx;obtain⟨⟨ou,lX,vy,cy1,⟨Tr,Ts⟩,cy4⟩,_⟩:=mm;split at he
      ·rename_i k;split at he
       ·rename_i ow ad;cases he;obtain⟨bM,cp,dc,h2⟩:=aw;subst cp;obtain⟨n0,xT,dC,eH,ln⟩:=rxo k rfl;obtain⟨v0,fJ,ba,bo,b3,_⟩:=aO.good.own k ow ad;rw[dC]at ba;simp only[ea,jO]at ba;obtain⟨rfl,rfl⟩:=ba;have na:a.eval o'=xT:=ln bM.symm;by_cases jC:ys=[]
        ·subst jC;rw[vy,te]at mV;have jr:=IS (P:=P) (w:=w) (ty:=type) jm ak uW xs.length p0 cx1 ou lX;refine mM (mV _ _ (by simpa using jr)) (c5 _ _ Z ?_);have cF:{st with t:=put d (.slice ow.sz (.own k) (xs++[])) st.t,e:=cA k ⟨xs.length+([]:List aj).length,ow.el,ow.sz,none⟩ st.e}=({st with e:=cA k ⟨ow.n,ow.el,ow.sz,none⟩ st.e,t:=put d (.slice ow.sz (.own k) xs) st.t}:bu):=by simp[bM]
         rw[<-dc,cF];have mY:=aO.forgetRow ad;refine mY.put (d:=some d) (by simpa[jQ]using U) (p:= .slice ow.sz (.own k) xs) ?_;simp only[bd];rw[<-dc]at cx4;exact⟨⟨uW,p0,rfl,cx1,⟨Tp,Tq⟩,cx4⟩,fun e=>(by cases e),(fun g e=>by cases e;exact⟨_,_,dC,eH,fun e=>by rw[<-te];exact ln e⟩),fun _ _ e=>(by cases e),fun _ e=>(by cases e)⟩
        ·have hyp:0<ys.length:=by cases ys<;>simp at jC⊢
         rcases cy4 with cy4|⟨ly,n2,hF,rfl,ze,mS⟩
         ·exact absurd cy4 jC
         ·have j6:=uo mS;have sy:∀j u,hF[j]? =some u->w.cell? ((⟨ly,n2,none⟩:Addr).add j)=some u:=fun j u ae=>by rw[pW];exact(vH ze ae).2
          have ss:(xs.length+ys.length)*fI.bytes<=140737488355328:=by
           have lZ:fI.bytes<=2048:=by rw[dk];exact qa
           have nP:(xs.length+ys.length)*fI.bytes<=(xs.length+ys.length)*2048:=Nat.mul_le_mul_left _ lZ;simp only[lim]at h2;omega
          have lC:xs.length+ys.length<=maxLen:=by simp only[lim]at h2;simp only[maxLen];omega
          rw[vy]at mV;have w6:fJ.length=ow.n*ow.sz:=bo.1;have w9:z.cells.size=fI.size:=by rw[r4,bh]
          have Dv:(∀cur,e8->cur=(0:Nat))->(∃v' w',(Builtin.append_ #[t,t] type #[a.eval o',.slice (some ⟨ly,n2,none⟩) ys.length lX]).run P w= .ok v' w'/\w'.ownsRow w.heap.size ow.el fI.size v' (xs.length+ys.length) (fJ++hF)/\w.grownBy w' none/\dR w Z fI.size xs fJ)->
            (⟨some d,.call ⟨.builtin .append,⟨[o',jI]⟩,⟨[t,t]⟩⟩,type,pos,after,guard⟩:Oper).wp P a w K Q:=by
           intro _ cZ;obtain⟨v',w',f1,f2,f3,f4⟩:=cZ;have GL:dR w Z fI.size (xs++ys) (fJ++hF):=EH f4 (by rw[bh];exact mS);obtain⟨cX,dI⟩:=aO.newRow (k:=k) (xs:=xs++ys) (.inr ⟨ow,ad,by rw[bM];simp;omega⟩) f3 (by simpa using f2) GL (by simpa using h2) (n':=st.n) (o':=st.o)
            (fun j ae=>⟨ae,fun e=>by subst e;have:=(aO.new _ ae).2.1;rw[dC]at this;cases this⟩)
           refine mM (mV _ _ f1) (c5 _ _ ((Z.withOwn k (xs++ys).length v').withRowOf k v' (xs++ys).length ((xs++ys).length*fI.size)) ?_);have:=cX.put (d:=some d) (by simpa[jQ]using U) dI;simpa[bh,e4]using this
          rcases bo.2 with⟨n3,zu⟩|⟨bl,cap,cur,n3,zu,BW,Oa,Ob,Oc,Ic⟩
          ·
           have Bj:xs=[]:=List.eq_nil_of_length_eq_zero Ω;have Ms:fJ=[]:=List.eq_nil_of_length_eq_zero (by rw[w6,zu];simp);subst Bj;subst Ms;refine Dv (fun _ h=>h.elim) ?_;obtain⟨v',w',f1,f2,f3,_⟩:=run_append_own (P:=P) w w.heap.size t type ow.el fI z fI.size fI.bytes jm ak h8 rfl rfl w9 (by rw[bh];exact fG) (.slice none 0 0) 0 [] (World.ownsRow_nil w _ _ _)
            ⟨ly,n2,none⟩ ys.length lX hF (by rw[j6,bh]) sy (zA mS) (by simpa using lC) (by simpa using ss) (fc _)
           refine⟨v',w',by rw[na,n3];exact f1,by simpa using f2,by simpa[oV]using f3,by simp[dR]⟩
          ·have ain:mf w Z.A bl 0 fJ/\dR w Z fI.size xs fJ/\True:=by
            rw[na,n3]at te;rcases cx4 with cx4|⟨bb,auX,PE,f1,f2,f3⟩
            ·subst cx4;have:fJ=[]:=List.eq_nil_of_length_eq_zero (by rw[w6,bM];simp);subst this;exact⟨trivial,by simp[dR],trivial⟩
            ·subst f1;injection te with vx1 vx2 vx3;injection vx1 with vx1;injection vx1 with vx1 vx4;subst vx1;subst vx4;have heq:PE=fJ:=by
              apply List.ext_getElem?;intro j;have l8:PE.length=fJ.length:=by rw[uo f3,w6,bM,dc]
              by_cases ae:j<PE.length
              ·have J:=(vH f2 (b6 ae)).2;rw[Nat.zero_add]at J;have U:=bo.cells (g:=bl) (by rw[n3];rfl) j fJ[j] (b6 Ω);rw[pW,Nat.zero_add,J]at U;rw[b6 ae,b6 Ω];exact U
              ·rw[qZ Ω,qZ Ω]
             subst heq;exact⟨f2,by rw[bh];exact f3,trivial⟩
           obtain⟨yM,nR,_⟩:=ain;by_cases sC:xs.length+ys.length<=cap
           ·have atb:cur.size=cap*ow.sz:=Oc;have hmul:(xs.length+ys.length)*ow.sz<=cap*ow.sz:=Nat.mul_le_mul_right _ sC;rw[qp]at hmul;have f1:=run_append_room (P:=P) w t type ow.el fI jm ak bl xs.length cap cur BW ⟨ly,n2,none⟩ ys.length lX hF (by rw[j6,bh]) sy (zA mS) sC (by rw[j6,bh,<-dc];omega);obtain⟨cX,dI⟩:=aO.inPlace ad (bl:=bl) (cap:=cap) (cur:=cur) (by rw[dC,<-n3]) BW Ob Oc (xs:=xs) (ys:=ys) (us:=fJ) (ns:=hF) bM.symm Ic (by rw[dc,<-bh];exact nR) (by rw[dc];exact mS) hyp (by rw[bM];exact sC) h2;refine mM (v:= .slice (some ⟨bl,0,none⟩) (ow.n+ys.length) cap) (w':=w.setRow bl (fJ++hF++cur.toList.drop (ow.n*ow.sz+hF.length)).toArray) (mV _ _ ?_)
             (c5 _ _ (Z.withRowOf k (.slice (some ⟨bl,0,none⟩) (ow.n+ys.length) cap) (ow.n+ys.length) ((ow.n+ys.length)*ow.sz)) ?_)
            ·rw[na,n3,bM,f1,<-Ic,bM,dc,bh]
            ·have:=cX.put (d:=some d) (by simpa[jQ]using U) dI;simpa[bM,dc,e4]using this
           ·refine Dv (fun _ h=>h.elim) ?_;obtain⟨v',w',f1,f2,f3⟩:=run_append_arg_grows (P:=P) w t type ow.el fI z fI.size fI.bytes jm ak h8 rfl rfl w9 (by rw[bh];exact fG) ⟨bl,0,none⟩ xs.length cap fJ (by rw[w6,bM,dc,bh])
             (fun j u ae=>by rw[pW];exact(vH yM ae).2) ⟨ly,n2,none⟩ ys.length lX hF (by rw[j6,bh]) sy Ω lC ss
            exact⟨v',w',by rw[na,n3,bM];exact f1,f2,f3,nR⟩
       ·cases he
      ·cases he;have GZ:=rxn rfl;have Bj:xs=[]:=by rw[GZ]at te;injection te with _ aD;exact List.eq_nil_of_length_eq_zero aD.symm
       subst Bj;have yR:(eF.app d g.size el x y).makes st=true:=by simp only[eF.makes,ab]
       have w9:z.cells.size=fI.size:=by rw[r4,bh]
       rw[vy,GZ]at mV;have dX:∀(v':Value) (w':World) (hF:List Value),(Builtin.append_ #[t,t] type #[.slice none 0 0,.slice ou ys.length lX]).run P w= .ok v' w'->w'.ownsRow w.heap.size el g.size v' ys.length hF->w.grownBy w' none->dR w Z g.size ys hF->
         (⟨some d,.call ⟨.builtin .append,⟨[o',jI]⟩,⟨[t,t]⟩⟩,type,pos,after,guard⟩:Oper).wp P a w K Q:=by
        intro v' w' hF f1 f2 f3 f4;obtain⟨cX,dI⟩:=aO.newRow (k:=κ) (xs:=ys) (.inl (aO.new _ (vn yR))) f3 f2 f4 aw (cU yR);exact mM (mV _ _ f1) (c5 _ _ _ (cX.put (d:=some d) (by simpa[jQ]using U) dI))
       by_cases jC:ys=[]
       ·subst jC;exact dX _ w [] (IS jm ak none 0 0 (fc _) ou lX) (World.ownsRow_nil w _ _ _) (arO w _) (by simp[dR])
       ·rcases cy4 with cy4|⟨ly,n2,hF,rfl,ze,mS⟩
        ·exact absurd cy4 jC
        ·have j6:=uo mS;have sy:∀j u,hF[j]? =some u->w.cell? ((⟨ly,n2,none⟩:Addr).add j)=some u:=fun j u ae=>by rw[pW];exact(vH ze ae).2
         have ss:ys.length*fI.bytes<=140737488355328:=by
          have J:fI.bytes<=2048:=by rw[dk];exact qa
          have U:ys.length*fI.bytes<=ys.length*2048:=Nat.mul_le_mul_left _ J;simp only[lim]at aw;omega
         have lC:ys.length<=maxLen:=by simp only[lim]at aw;simp only[maxLen];omega
         obtain⟨v',w',f1,f2,f3,_⟩:=run_append_own (P:=P) w w.heap.size t type el fI z fI.size fI.bytes jm ak h8 rfl rfl w9 (by rw[bh];exact fG) (.slice none 0 0) 0 [] (World.ownsRow_nil w _ _ _)
          ⟨ly,n2,none⟩ ys.length lX hF (by rw[j6,bh]) sy (zA mS) (by simpa using lC) (by simpa using ss) (fc _)
         exact dX v' w' hF f1 (by rw[<-bh];simpa using f2) (by simpa[oV]using f3) mS
      ·cases he
     ·cases he
    ·cases he
   ·cases b0
  ·cases a6
 ·rename_i d key sz el xs t len parts;simp only[cy,eb,eW]at ay;obtain⟨⟨⟨⟨⟨⟨J,U⟩,ar⟩,a6⟩,b0⟩,df⟩,eB⟩:=ay;subst J;subst b0;split at ar
  ·rename_i gm aK;simp only[eb]at ar;subst ar;split at a6
   ·rename_i g a7;simp only[cy,eb,eW]at a6;obtain⟨rfl,fG⟩:=a6;simp only[eS]at he;cases he;obtain⟨us,g1,g2,g3⟩:=Zp aJ aO aK rfl a7 eB aw df;have l5:(w.alloc (.cells us el)).ownsRow w.heap.size el g.size (.slice (some ⟨w.heap.size,0,none⟩) xs.length xs.length) (xs.map (cv st.t)).length us.toList:=by
     refine⟨by simp[g3],.inr ⟨w.heap.size,xs.length,us,Ψ,fc _,heap_alloc_new w _,Ψ,?_,g3,?_⟩⟩
     ·simp only[maxLen];have:xs.length<=xs.length*g.size:=Nat.le_mul_of_pos_right _ fG;omega
     ·rw[hY];simp[g3]
    obtain⟨dC,eH⟩:=aO.newRowM (k:=κ) (xs:=xs.map (cv st.t)) (.inl (aO.new _ (vn rfl))) (World.grownBy_alloc w _ none) l5 g2
     (by have:xs.length<=xs.length*g.size:=Nat.le_mul_of_pos_right _ fG;simp only[lim,oh];omega) (cU rfl)
    simp only[oh]at dC eH;refine mM (v:= .slice (some ⟨w.heap.size,0,none⟩) xs.length xs.length) (w':=w.alloc (.cells us el)) ?_ (c5 _ _ _ (dC.put (d:=some d) (by simpa[jQ]using U) (p:= .row g.size κ xs.length) (eH ⟨_,_,rfl⟩)));have bF:(parts.map fun(x:Nat×Operand)=>(x.1,a.eval x.2))=(parts.toList.map fun(x:Nat×Operand)=>(x.1,a.eval x.2)).toArray:=by apply Array.ext';simp
    simp only[execOp];refine Fg ?_;rw[<-g1];congr 2
   ·cases a6
  ·cases ar
 ·rename_i d key sz el x y o' jI t da;simp only[cy,eb,eW]at ay;obtain⟨⟨⟨⟨⟨⟨J,U⟩,ar⟩,a6⟩,b0⟩,df⟩,eB⟩:=ay;subst J;subst ar;split at a6
  ·rename_i gm aK;simp only[eb]at a6;subst a6;split at b0
   ·rename_i g a7;simp only[cy,eb,eW]at b0;obtain⟨⟨rfl,fG⟩,qa⟩:=b0;have rx:=eE aO df;have mm:=eE aO eB;have mV:∀v' w',(Builtin.append_ #[t,t] type #[a.eval o',a.eval jI]).run P w= .ok v' w'->(execOp a.eval ⟨some d,.call ⟨.builtin .append,⟨[o',jI]⟩,⟨[t,t]⟩⟩,type,pos,after,guard⟩).run P w= .ok (.value v') w':=by intro v' w' jr;simp only[execOp,resolve,invoke,builtin,fZ,gL,gf,List.map_toArray,gM,mN];rw[jr];rfl
    obtain⟨fI,cd,z,ak,aD,bh,dk,hy,h8,r3,r4⟩:=(wi aJ a7).ex;obtain⟨e1,jm,fe⟩:=jx aJ aK;obtain rfl:=tz fe;have w9:z.cells.size=fI.size:=by rw[r4,bh]
    simp only[eS]at he;split at he
    ·
     rename_i ys aF;cases he;unfold tv at aF;split at aF
     ·rename_i dZ xs jK lp arG ab aL;split at aF
      ·rename_i fq;obtain⟨rfl,fq⟩:=fq;subst fq;cases aF;rw[ab]at rx;rw[aL]at mm;simp only[bd]at rx mm;obtain⟨⟨uW,p0,te,cx1,⟨Tp,Tq⟩,cx4⟩,rxn,rxo,rxt⟩:=rx;obtain⟨⟨ou,lX,vy,cy1,⟨Tr,Ts⟩,cy4⟩,_⟩:=mm;have GZ:=rxn trivial;have yR:(eF.appm d key g.size el x y).makes st=true:=by simp only[eF.makes,ab]
       rw[vy,GZ]at mV;have dX:∀(v':Value) (w':World) (hF:List Value),(Builtin.append_ #[t,t] type #[.slice none 0 0,.slice ou ys.length lX]).run P w= .ok v' w'->w'.ownsRow w.heap.size el g.size v' ys.length hF->w.grownBy w' none->dR w Z g.size ys hF->
         (⟨some d,.call ⟨.builtin .append,⟨[o',jI]⟩,⟨[t,t]⟩⟩,type,pos,after,guard⟩:Oper).wp P a w K Q:=by
        intro v' w' hF f1 f2 f3 f4;obtain⟨cX,dI⟩:=aO.newRowM (k:=κ) (xs:=ys) (.inl (aO.new _ (vn yR))) f3 f2 f4 aw.1 (cU yR);exact mM (mV _ _ f1) (c5 _ _ _ (cX.put (d:=some d) (by simpa[jQ]using U) (dI (X5 f2 (by cases ys<;>simp at aw⊢)))))
       by_cases jC:ys=[]
       ·subst jC;exact dX _ w [] (IS jm ak none 0 0 (fc _) ou lX) (World.ownsRow_nil w _ _ _) (arO w _) (by simp[dR])
       ·rcases cy4 with cy4|⟨ly,n2,hF,rfl,ze,mS⟩
        ·exact absurd cy4 jC
        ·have j6:=uo mS;have sy:∀j u,hF[j]? =some u->w.cell? ((⟨ly,n2,none⟩:Addr).add j)=some u:=fun j u ae=>by rw[pW];exact(vH ze ae).2
         have ss:ys.length*fI.bytes<=140737488355328:=by
          have J:fI.bytes<=2048:=by rw[dk];exact qa
          have U:ys.length*fI.bytes<=ys.length*2048:=Nat.mul_le_mul_left _ J;simp only[lim]at aw;omega
         have lC:ys.length<=maxLen:=by simp only[lim]at aw;simp only[maxLen];omega
         obtain⟨v',w',f1,f2,f3,_⟩:=run_append_own (P:=P) w w.heap.size t type el fI z fI.size fI.bytes jm ak h8 rfl rfl w9 (by rw[bh];exact fG) (.slice none 0 0) 0 [] (World.ownsRow_nil w _ _ _)
          ⟨ly,n2,none⟩ ys.length lX hF (by rw[j6,bh]) sy (zA mS) (by simpa using lC) (by simpa using ss) (fc _)
         exact dX v' w' hF f1 (by rw[<-bh];simpa using f2) (by simpa[oV]using f3) mS
      ·cases aF
     ·split at aF
      ·split at aF
       ·split at aF<;>cases aF
       ·cases aF
      ·cases aF
     ·cases aF
    ·
     rename_i k xs ys aF;cases he;unfold tv at aF;split at aF
     ·split at aF<;>cases aF
     ·rename_i dZ bJ n jK lp arG ab aL;split at aF
      ·rename_i fq;obtain⟨rfl,fq⟩:=fq;subst fq;split at aF
       ·rename_i n' gm xM xs' ad;split at aF
        ·rename_i vk;obtain⟨rfl,rfl,rfl⟩:=vk;cases aF;rw[ab]at rx;rw[aL]at mm;simp only[bd]at rx mm;obtain⟨⟨bx,p0,te⟩,rxl,n0,xT,dC,eH,ln⟩:=rx;obtain⟨⟨ou,lX,vy,cy1,⟨Tr,Ts⟩,cy4⟩,_⟩:=mm;obtain⟨v0,fJ,ba,bo,b3,c9⟩:=aO.good.own k _ ad;rw[dC]at ba;simp only[ea,jO]at ba bo;obtain⟨rfl,rfl⟩:=ba;have na:a.eval o'=xT:=ln rfl;obtain⟨dh,oL,vS⟩:=c9 xs rfl;simp only at dh oL;have w6:fJ.length=xs.length*g.size:=by rw[dh];exact bo.1
         have jB:xs.length=n0:=dh;by_cases jC:ys=[]
         ·subst jC;rw[vy,te]at mV;have l3:n0<=p0:=by
           rcases bo.2 with⟨n3,zu⟩|⟨bl,cap,cur,n3,zu,BW,Oa,_⟩
           ·rw[zu];exact Nat.zero_le _
           ·rw[<-na,te]at n3;injection n3 with _ _ e;rw[e];exact Oa
          have jr:=IS (P:=P) (w:=w) (ty:=type) jm ak (some ⟨bx,0,none⟩) n0 p0 l3 ou lX;refine mM (mV _ _ (by simpa using jr)) (c5 _ _ Z ?_);have fE:∀fv,look fv (cA k ⟨n0,gm,g.size,some xs⟩ st.e)=look fv st.e:=fun fv=>by
           rw[jt];split
           ·rename_i e;subst e;rw[ad]
           ·rfl
          have mY:c0 C {st with e:=cA k ⟨n0,gm,g.size,some xs⟩ st.e} a w Z:=
           ⟨⟨aO.good.alt,aO.good.box,aO.good.inj,fun g o a7=>aO.good.own g o (by rw[<-fE g];exact a7),fun g fv n n' v v' bl bH a2=>aO.good.oinj g fv n n' v v' bl (by rw[<-fE g];exact bH) (by rw[<-fE fv];exact a2),
           fun g j n v bl bH=>aO.good.obx g j n v bl (by rw[<-fE g];exact bH),aO.good.one,fun bl af=>aO.good.otr bl (af.imp id (fun⟨g,n,v,bH,a2⟩=>⟨g,n,v,by rw[<-fE g];exact bH,a2⟩))⟩,aO.fr,aO.defers,aO.size,aO.slot,aO.new⟩
          have ar:=mY.put (d:=some d) (by simpa[jQ]using U) (p:= .row g.size k n0) (v:= .slice (some ⟨bx,0,none⟩) n0 p0) (by simp only[bd];exact⟨⟨_,_,rfl⟩,rxl,_,_,dC,fc _,fun _=>by rw[<-te];exact na⟩)
          simpa[jB,e4]using ar
         ·have hyp:0<ys.length:=by cases ys<;>simp at jC⊢
          rcases cy4 with cy4|⟨ly,n2,hF,rfl,ze,mS⟩
          ·exact absurd cy4 jC
          ·have j6:=uo mS;have sy:∀j u,hF[j]? =some u->w.cell? ((⟨ly,n2,none⟩:Addr).add j)=some u:=fun j u ae=>by rw[pW];exact(vH ze ae).2
           have ss:(xs.length+ys.length)*fI.bytes<=140737488355328:=by
            have lZ:fI.bytes<=2048:=by rw[dk];exact qa
            have nP:(xs.length+ys.length)*fI.bytes<=(xs.length+ys.length)*2048:=Nat.mul_le_mul_left _ lZ;simp only[lim]at aw;omega
           have lC:xs.length+ys.length<=maxLen:=by simp only[lim]at aw;simp only[maxLen];omega
           have GL:dR w Z g.size (xs++ys) (fJ++hF):=EH oL mS;rw[vy,na]at mV;have Dv:(∃v' w',(Builtin.append_ #[t,t] type #[xT,.slice (some ⟨ly,n2,none⟩) ys.length lX]).run P w= .ok v' w'/\w'.ownsRow w.heap.size gm fI.size v' (xs.length+ys.length) (fJ++hF)/\w.grownBy w' none)->
             (⟨some d,.call ⟨.builtin .append,⟨[o',jI]⟩,⟨[t,t]⟩⟩,type,pos,after,guard⟩:Oper).wp P a w K Q:=by
            intro cZ;obtain⟨v',w',f1,f2,f3⟩:=cZ;obtain⟨cX,dI⟩:=aO.newRowM (k:=k) (xs:=xs++ys) (el:=gm) (sz:=g.size) (.inr ⟨_,ad,by simp;omega⟩) f3 (by rw[<-bh];simpa using f2) GL (by simpa using aw) (n':=st.n) (o':=st.o)
             (fun j ae=>⟨ae,fun e=>by subst e;have:=(aO.new _ ae).2.1;rw[dC]at this;cases this⟩)
            refine mM (mV _ _ f1) (c5 _ _ (Z.withOwn k (xs++ys).length v') ?_);have:=cX.put (d:=some d) (by simpa[jQ]using U) (dI (by simpa using X5 f2 Ω));simpa[e4]using this
           rcases bo.2 with⟨n3,zu⟩|⟨bl,cap,cur,n3,zu,BW,Oa,Ob,Oc,Ic⟩
           ·
            have Bj:xs=[]:=List.eq_nil_of_length_eq_zero Ω;have Ms:fJ=[]:=List.eq_nil_of_length_eq_zero (by rw[w6,Bj];simp);subst Bj;subst Ms;refine Dv ?_;obtain⟨v',w',f1,f2,f3,_⟩:=run_append_own (P:=P) w w.heap.size t type gm fI z fI.size fI.bytes jm ak h8 rfl rfl w9 (by rw[bh];exact fG) (.slice none 0 0) 0 [] (World.ownsRow_nil w _ _ _)
             ⟨ly,n2,none⟩ ys.length lX hF (by rw[j6,bh]) sy (zA mS) (by simpa using lC) (by simpa using ss) (fc _)
            exact⟨v',w',by rw[n3];exact f1,by simpa using f2,by simpa[oV]using f3⟩
           ·have pw:xT.ownBlock=some bl:=by rw[n3];rfl
            by_cases sC:xs.length+ys.length<=cap
            ·have hmul:(xs.length+ys.length)*g.size<=cap*g.size:=Nat.mul_le_mul_right _ sC;rw[qp]at hmul;have f1:=run_append_room (P:=P) w t type gm fI jm ak bl xs.length cap cur BW ⟨ly,n2,none⟩ ys.length lX hF (by rw[j6,bh]) sy (zA mS) sC (by rw[j6,bh];omega);generalize VP:(cur.toList.take (xs.length*fI.size)++hF++cur.toList.drop (xs.length*fI.size+hF.length)).toArray=ug at f1;have kS:(w.setRow bl ug).heap[bl]? =some (.cells ug gm (0,0)):=setRow_heap w bl cur ug gm _ BW;have au:(fJ++hF).length=(xs++ys).length*g.size:=by rw[pQ,w6,j6,pQ,qp]
             have b0:cur.toList.take (xs.length*fI.size)=fJ:=by rw[jB,bh];exact Ic
             have kU:ug.size=cap*g.size:=by rw[<-VP];simp only[List.size_toArray,pQ,List.length_take,tl,Array.length_toList];rw[bh];omega
             have lg:ug.toList.take ((xs++ys).length*g.size)=fJ++hF:=by rw[<-VP,b0];simp only[<-au];rw[List.take_append_of_le_length (fc _),je]
             obtain⟨cX,_,dI⟩:=aO.setRowM (w':=w.setRow bl ug) ad rfl dC pw (v':= .slice (some ⟨bl,0,none⟩) (xs.length+ys.length) cap) rfl (xs':=xs++ys) (us:=fJ++hF) (.inr d7) rfl rfl rfl (fun j ae=>setRow_other w bl j ug ae) (setRow_size w bl ug)
              ⟨au,.inr ⟨bl,cap,ug,Ψ,Nat.zero_le _,kS,by simpa using sC,Ob,kU,lg⟩⟩ GL
             replace dI:=dI (by simpa using aw);refine mM (v:= .slice (some ⟨bl,0,none⟩) (xs.length+ys.length) cap) (w':=w.setRow bl ug) (mV _ _ ?_) (c5 _ _ (Z.withOwn k (xs++ys).length (.slice (some ⟨bl,0,none⟩) (xs.length+ys.length) cap)) ?_)
             ·rw[n3,<-jB];exact f1
             ·have:=cX.put (d:=some d) (by simpa[jQ]using U) dI;simpa[e4]using this
            ·refine Dv ?_;obtain⟨v',w',f1,f2,f3⟩:=run_append_arg_grows (P:=P) w t type gm fI z fI.size fI.bytes jm ak h8 rfl rfl w9 (by rw[bh];exact fG) ⟨bl,0,none⟩ xs.length cap fJ (by rw[w6,bh])
              (fun j u ae=>by have:=bo.cells pw j u ae;exact this) ⟨ly,n2,none⟩ ys.length lX hF (by rw[j6,bh]) sy Ω lC ss
             exact⟨v',w',by rw[n3,<-jB];exact f1,f2,f3⟩
        ·cases aF
       ·cases aF
      ·cases aF
     ·cases aF
    ·cases he
   ·cases b0
  ·cases a6
 ·rename_i sz x y t o' jI;simp only[cy,eb]at ay;obtain⟨⟨⟨J,U⟩,ar⟩,a6⟩:=ay;subst J;split at U
  ·rename_i f aK;simp only[eb]at U;simp only[eS]at he;generalize Me:cv st.t x=px at he;unfold rM at he;split at he
   ·rename_i dZ k n i tE;split at he
    ·rename_i n' el jK xs ad;split at he
     ·rename_i sA;obtain⟨rfl,rfl⟩:=sA;split at he
      ·rename_i q bn;cases he;obtain⟨iw,bM,cp,dc,h2⟩:=aw;have rx:=eE aO ar;rw[Me]at rx;have mm:=eE aO a6;have vW:=vX mm bM;have v7:=qk vW;obtain⟨_,eC⟩:=wh aJ aK w;have vz:(a.eval jI).cells.size=sz:=by rw[cp]at v7;simpa using v7
       obtain⟨bl,off,mR,DJ,cF,bt,qB⟩:=aO.storeRow (P:=P) ad rx bn iw vW (by simpa[vz]using dc) (fun e=>by have:=fh List.length e;simp[vz]at this;omega);refine Fl (w':=w.setRow bl mR) ?_ (c5 _ _ _ qB);simp only[execOp,Instr.storeAt,DJ,Instr.sureAddr,storeVar,fZ,gL,gf,eC,vz,U,ne_eq,not_true_eq_false,if_false,cF]
      ·cases he
     ·cases he
    ·cases he
   ·cases he
  ·cases U
 ·rename_i d key sz el z x t o' jI;simp only[cy,eb,eW]at ay;obtain⟨⟨⟨⟨⟨J,U⟩,ar⟩,a6⟩,b0⟩,df⟩:=ay;subst J;split at ar
  ·rename_i gm aK;simp only[eb]at ar;subst ar;split at a6
   ·rename_i g a7;simp only[cy,eb,eW]at a6;obtain⟨⟨⟨rfl,fG⟩,qa⟩,bz⟩:=a6;obtain rfl:=P5 bz;have rx:=eE aO b0;have mm:=eE aO df;simp only[eS]at he;split at he
    ·rename_i eY n ab;cases he;obtain⟨aiw,j6⟩:=aw;obtain⟨m,rfl⟩:=Int.eq_ofNat_of_zero_le aiw;rw[ab]at rx mm;simp only[bd]at rx mm;obtain⟨fI,cd,b5,ak,aD,bh,dk,hy,h8,r3,r4⟩:=(wi aJ a7).ex;obtain⟨e1,jm,fe⟩:=jx aJ aK;obtain rfl:=tz fe;have lC:m<=lim:=by simp only[lim]at j6⊢;omega
     have ss:fI.bytes*m<=281474976710656:=by have J:fI.bytes*m<=2048*m:=Nat.mul_le_mul_right _ Ω;simp only[lim]at lC;omega
     obtain⟨aiT,ahU⟩:=P4 w Z r3;obtain⟨w',g1,g2,g3⟩:=run_make_full (P:=P) w w.heap.size t el fI b5 fI.size jm ak h8 rfl eY eY m ss (by simp only[maxLen];simp only[lim]at lC;omega) (fc _);have l5:w'.ownsRow w.heap.size el g.size (.slice (some ⟨w.heap.size,0,none⟩) m m) (rU m g.zero).length (madeCells b5.cells (m*b5.cells.size)).toList:=by rw[bh,<-r4]at g2;rw[List.length_replicate,<-r4];exact g2
     obtain⟨dC,eH⟩:=aO.newRowM (k:=κ) (xs:=rU m g.zero) (.inl (aO.new _ (vn rfl))) g3 l5 (by rw[<-r4];exact W8 aiT Ω (B9 ahU) m) (by simpa using lC) (cU rfl);simp only[List.length_replicate]at dC eH;simp only[Int.toNat_natCast]at c5;refine mM (v:= .slice (some ⟨w.heap.size,0,none⟩) m m) (w':=w') ?_ (c5 _ _ _ (dC.put (d:=some d) (by simpa[jQ]using U) (p:= .row g.size κ m) (eH ⟨_,_,rfl⟩)));simp only[execOp];refine Fg ?_;rw[rx,mm];exact g1
    ·cases he
   ·cases a6
  ·cases ar
 ·cases ay
theorem ao3{P:cI}{bG:List (Nat×dN)}(aJ:fY P bG=true){C:fu}{st st':bu}{a:Act}{w:World}{Z:bg}(aO:c0 C st a w Z){i:eF}{o:Oper}(ay:EP C.N bG i o=true)
  {c:Prop} (he:mJ st i=some (c,st')) (aw:c) {K:Act->World->Prop} {Q:Exit->Act->World->Prop} (c5:∀bs w' bt,c0 C st' bs w' bt->K bs w'):o.wp P a w K Q:=by
 have pq:qI st none->fresh st.n st.o (.loc st.n):=fun h=>xq (key:=none) h;have fF:∀j,fresh (st.n+1) st.o j->fresh st.n st.o j/\j≠ .loc st.n:=xr (key:=none);cases i with
 |v d i=>exact kd (κ:= .loc 0) (n':=0) (o₁:=[]) aJ aO ay (fun h=>by simp[eF.makes]at h) (fun h=>by simp[eF.makes]at h) (by simpa only[mJ,eS]using he) aw c5
 |box d key x=>simp only[mJ]at he;cases he;exact kd (κ:=ka st key) (n':=nZ st key) (o₁:=n1 st key) aJ aO ay (fun _=>xq aw.1) (fun _=>xr) (by simp only[eS]) aw.2 c5
 |alloc d key z=>simp only[mJ]at he;cases he;exact kd (κ:=ka st key) (n':=nZ st key) (o₁:=n1 st key) aJ aO ay (fun _=>xq aw) (fun _=>xr) (by simp only[eS]) trivial c5
 |mks d key sz el z x=>
  simp only[mJ]at he;split at he
  ·rename_i eY n ab;cases he;exact kd (κ:=ka st key) (n':=nZ st key) (o₁:=n1 st key) aJ aO ay (fun _=>xq aw.1) (fun _=>xr) (by simp only[eS,ab]) aw.2 c5
  ·cases he
 |storeE sz x y=>exact kd (κ:= .loc 0) (n':=0) (o₁:=[]) aJ aO ay (fun h=>by simp[eF.makes]at h) (fun h=>by simp[eF.makes]at h) (by simpa only[mJ,eS]using he) aw c5
 |store sz x y=>exact kd (κ:= .loc 0) (n':=0) (o₁:=[]) aJ aO ay (fun h=>by simp[eF.makes]at h) (fun h=>by simp[eF.makes]at h) (by simpa only[mJ,eS]using he) aw c5
 |bsl d sz el xs=>simp only[mJ]at he;cases he;exact kd (κ:= .loc st.n) (n':=st.n+1) (o₁:=st.o) aJ aO ay (fun _=>pq aw.1) (fun _=>fF) (by simp only[eS]) aw.2 c5
 |bslm d key sz el xs=>simp only[mJ]at he;cases he;exact kd (κ:=ka st key) (n':=nZ st key) (o₁:=n1 st key) aJ aO ay (fun _=>xq aw.1) (fun _=>xr) (by simp only[eS]) aw.2 c5
 |appm d key sz el x y=>
  simp only[mJ]at he;split at he
  ·rename_i ys aF;cases he;exact kd (κ:=ka st key) (n':=nZ st key) (o₁:=n1 st key) aJ aO ay (fun _=>xq aw.1) (fun _=>xr) (by simp only[eS,aF]) aw.2 c5
  ·rename_i k xs ys aF;cases he;refine kd (κ:= .loc 0) (n':=0) (o₁:=[]) aJ aO ay (fun h=>?_) (fun h=>?_) (by simp only[eS,aF]) aw c5;all_goals
    exfalso
    simp only[eF.makes]at h
    split at h
    ·rename_i ab
     unfold tv at aF
     rw[ab]at aF
     split at aF
     ·split at aF<;>cases aF
     ·rename_i J _;cases J
     ·cases aF
    ·cases h
  ·cases he
 |mkmap d key=>simp only[mJ]at he;cases he;exact kd (κ:=ka st key) (n':=nZ st key) (o₁:=n1 st key) aJ aO ay (fun _=>xq aw) (fun _=>xr) (by simp only[eS]) trivial c5
 |mput ck x k v=>exact kd (κ:= .loc 0) (n':=0) (o₁:=[]) aJ aO ay (fun h=>by simp[eF.makes]at h) (fun h=>by simp[eF.makes]at h) (by simpa only[mJ,eS]using he) aw c5
 |range d key x=>
  simp only[mJ]at he;split at he
  ·rename_i m ab;split at he
   ·rename_i cs dA;split at he
    ·rename_i cs' hm;cases he;exact kd (κ:=ka st key) (n':=nZ st key) (o₁:=n1 st key) aJ aO ay (fun _=>xq aw) (fun _=>xr) (by simp only[eS,ab,dA,hm]) trivial c5
    ·cases he
   ·cases he
  ·cases he
 |app d sz el x y=>
  simp only[mJ]at he;split at he
  ·rename_i dZ tag xs jK lp ys ab aL;split at he
   ·rename_i fq;split at he
    ·rename_i k;split at he
     ·rename_i ow ad;cases he;refine kd (κ:= .loc 0) (n':=0) (o₁:=[]) aJ aO ay (fun h=>by simp[eF.makes,ab]at h) (fun h=>by simp[eF.makes,ab]at h) ?_ aw c5;simp only[eS,ab,aL,fq,and_self,if_true,ad]
     ·cases he
    ·cases he;refine kd (κ:= .loc st.n) (n':=st.n+1) (o₁:=st.o) aJ aO ay (fun _=>pq aw.1) (fun _=>fF) ?_ aw.2 c5;simp only[eS,ab,aL,fq,and_self,if_true]
    ·cases he
   ·cases he
  ·cases he
structure cL where
 b:List (aI×List aj)
 e:List (aI×gg)
def fM(Z:bg)(s:cL)(bl:Nat):Prop:=(∃k,(look k s.b).isSome/\Z.bx k=some bl)\/(∃g n v,(look g s.e).isSome/\Z.ow g=some (n,v)/\v.ownBlock=some bl)
def p5(Z:bg)(s:cL):Prop:= ∀k,(look k s.b=none->Z.bx k=none)/\(look k s.e=none->Z.ow k=none)/\∀j b,¬Z.tr k j b
def c2(s:cL):List aI:=s.b.map (·.1)++s.e.map (·.1)
def ju(s:cL):Prop:=(∀m,look (.loc m) s.b=none)/\(∀m,look (.loc m) s.e=none)
def x0(P:cI)(f:FuncId)(bf:Array Value)(w:World)(R:Ending->World->Prop):Prop:=((∃fn,P.funcs[f]? =some fn/\fn.body.isSome=true/\(fn.name== "runtime.NumGoroutine")=false)/\Calls P f bf w R)\/ ∃v w',(callFunc f bf).run P w= .ok (.value v) w'/\R (.returned v) w'
def bI(P:cI)(f:FuncId)(args:List aj)(s:cL)(Q:aj->cL->Prop):Prop:=
 ∀(w:World) (Z:bg) (bf:Array Value),Good (fM Z s) w Z s.b s.e->p5 Z s->cY w Z args bf.toList->
  x0 P f bf w fun e w'=> ∃v r ah bt,e= .returned v/\Q r ah/\bd w' bt r v/\Good (fun bl=>fM Z s bl\/w.heap.size<=bl) w' bt ah.b ah.e/\p5 bt ah/\ju ah/\q1 ⟨w,Z,fM Z s,0,c2 s⟩ w' bt
def Gl(κ:Option Nat)(Z:bg)(s:cL):Prop:= ∀k,(look k s.b=none->Z.bx k=none)/\(look k s.e=none->Z.ow k=none)/\∀j b,Z.tr k j b->∃m,κ=some m/\k= .loc m
theorem p5.k{Z:bg}{s:cL}(h:p5 Z s):Gl none Z s:=fun k=>⟨(h k).1,(h k).2.1,fun j b af=>absurd af ((h k).2.2 j b)⟩
def Jz(P:cI)(f:FuncId)(κ:Nat)(args:List aj)(s:cL)(Q:aj->cL->Prop):Prop:=
 ∀(w:World) (Z:bg) (bf:Array Value),Good (fM Z s) w Z s.b s.e->p5 Z s->cY w Z args bf.toList->
  x0 P f bf w fun e w'=> ∃v r ah bt,e= .returned v/\Q r ah/\bd w' bt r v/\Good (fun bl=>fM Z s bl\/w.heap.size<=bl) w' bt ah.b ah.e/\Gl (some κ) bt ah/\ju ah/\q1 ⟨w,Z,fM Z s,0,c2 s⟩ w' bt
def bC(P:cI)(f:FuncId)(args:List aj)(r:aj):Prop:=bI P f args ⟨[],[]⟩ fun eZ ah=>eZ=r/\ah=⟨[],[]⟩
theorem uc{α:Type}{k:aI}{x:α}:∀{l:List (aI×α)},look k l=some x->(k,x)∈l
 |[],h=>by simp[look]at h
 |(i,y)::r,h=>by
  simp only[look]at h;split at h
  ·rename_i e;subst e;cases h;simp
  ·exact oY _ (uc h)
theorem uh{s:cL}{k:aI}(h:(look k s.b).isSome\/(look k s.e).isSome):k∈c2 s:=by
 unfold c2;rcases h with h|h<;>obtain⟨x,ab⟩:=fL.1 h<;>have:=uc ab
 ·exact List.mem_append_left _ (iu.2 ⟨_,this,rfl⟩)
 ·exact List.mem_append_right _ (iu.2 ⟨_,this,rfl⟩)
section
open Classical
noncomputable def bg.cut(Z:bg)(S:aI->Prop):bg:={A:=Z.A,bx:=fun k=>if S k then Z.bx k else none,ow:=fun k=>if S k then Z.ow k else none,tr:=fun k j b=>S k/\Z.tr k j b}
theorem bg.cut_bx{Z:bg}{S:aI->Prop}{k:aI}(h:S k):(Z.cut S).bx k=Z.bx k:=by simp[bg.cut,h]
theorem bg.cut_ow{Z:bg}{S:aI->Prop}{k:aI}(h:S k):(Z.cut S).ow k=Z.ow k:=by simp[bg.cut,h]
theorem bg.cut_no{Z:bg}{S:aI->Prop}{k:aI}(h:¬S k):(Z.cut S).bx k=none/\(Z.cut S).ow k=none/\∀j b,¬(Z.cut S).tr k j b:=by simp[bg.cut,h]
theorem bg.cut_some{Z:bg}{S:aI->Prop}{k:aI}{b:Nat}(h:(Z.cut S).bx k=some b):S k/\Z.bx k=some b:=by
 by_cases ag:S k
 ·exact⟨ag,by rw[bg.cut_bx ag]at h;exact h⟩
 ·rw[(bg.cut_no ag).1]at h;cases h
theorem bg.cut_someO{Z:bg}{S:aI->Prop}{k:aI}{b:Nat×Value}(h:(Z.cut S).ow k=some b):S k/\Z.ow k=some b:=by
 by_cases ag:S k
 ·exact⟨ag,by rw[bg.cut_ow ag]at h;exact h⟩
 ·rw[(bg.cut_no ag).2.1]at h;cases h
theorem pU.cut(S:aI->Prop)(w:World)(Z:bg):pU S w Z w (Z.cut S):=⟨fun _ _ h=>⟨h,rfl⟩,fun k b ad h=>by rw[bg.cut_bx ad];exact h,fun g n u a7 h=>⟨n,u,by rw[bg.cut_ow a7];exact h,.inl ⟨rfl,rfl⟩⟩,fun _ _ _=>rfl,fun _ _ _ ad h=>⟨ad,h⟩⟩
end
def hc(S:aI->Prop)(b4 b:List (aI×List aj)):Prop:= ∀k cs,look k b4=some cs->look k b=some cs/\S k/\aC S cs
def pH(S:aI->Prop)(fj e:List (aI×gg)):Prop:= ∀k o,look k fj=some o->look k e=some o/\S k/\dt S o
theorem Good.cut{pr EA:Nat->Prop}{w:World}{Z:bg}{b b4:List (aI×List aj)}{e fj:List (aI×gg)}(h:Good pr w Z b e){S:aI->Prop}(af:hc S b4 b)(he:pH S fj e)
  (VA:∀bl,pr bl->(∃k,(look k b4).isSome/\(Z.cut S).bx k=some bl)\/(∃g n v,(look g fj).isSome/\(Z.cut S).ow g=some (n,v)/\v.ownBlock=some bl)->EA bl):Good EA w (Z.cut S) b4 fj:=by
 have GK:∀k,(look k b4).isSome->(look k b).isSome/\S k:=fun k ad=>by obtain⟨cs,dA⟩:=fL.1 ad;have:=af k cs dA;exact⟨by simp[this.1],this.2.1⟩
 have GM:∀k,(look k fj).isSome->(look k e).isSome/\S k:=fun k ad=>by obtain⟨cs,dA⟩:=fL.1 ad;have:=he k cs dA;exact⟨by simp[this.1],this.2.1⟩
 refine⟨h.alt,fun k cs ad=>?_,fun k bJ bl J U ar a6=>?_,fun g o a7=>?_,fun g fv n n' v v' bl J U ar a6 b0 df=>?_,fun g k n v bl J U ar a6 b0=>?_,fun k=>?_,fun bl aJ k j ae=>?_⟩
 ·obtain⟨g1,g2,g3⟩:=af k cs ad;obtain⟨bl,us,el,f1,f2,f3,f4,f5⟩:=h.box k cs g1;have gp:(Z.cut S).bx k=some bl:=by rw[bg.cut_bx g2];exact f1
  exact⟨bl,us,el,gp,VA bl f2 (.inl ⟨k,by simp[ad],gp⟩),f3,f4,Y8 (pU.cut S w Z) g3 f5⟩
 ·obtain⟨bH,a2⟩:=GK k J;obtain⟨bV,b7⟩:=GK bJ U;exact h.inj k bJ bl bH bV (bg.cut_some ar).2 (bg.cut_some a6).2
 ·obtain⟨g1,g2,g3⟩:=he g o a7;obtain⟨v,us,f1,f2,f3,f4⟩:=h.own g o g1;have DH:(Z.cut S).ow g=some (o.n,v):=by rw[bg.cut_ow g2];exact f1
  exact⟨v,us,DH,f2,fun bl fw=>⟨VA bl (f3 bl fw).1 (.inr ⟨g,o.n,v,by simp[a7],DH,fw⟩),(f3 bl fw).2⟩,
   fun xs ab=>⟨(f4 xs ab).1,IB (pU.cut S w Z) _ _ _ (g3 xs ab) (f4 xs ab).2.1,(f4 xs ab).2.2⟩⟩
 ·obtain⟨bH,a2⟩:=GM g J;obtain⟨bV,b7⟩:=GM fv U;exact h.oinj g fv n n' v v' bl bH bV (bg.cut_someO ar).2 (bg.cut_someO a6).2 b0 df
 ·obtain⟨bH,a2⟩:=GM g J;obtain⟨bV,b7⟩:=GK k U;exact h.obx g k n v bl bH bV (bg.cut_someO ar).2 a6 (bg.cut_some b0).2
 ·by_cases ag:S k
  ·rw[bg.cut_bx ag,bg.cut_ow ag];exact h.one k
  ·exact .inl (bg.cut_no ag).1
 ·refine h.otr bl ?_ k j ae.2;rcases aJ with⟨bJ,bH,a2⟩|⟨g,n,v,bH,a2,a3⟩
  ·exact .inl ⟨bJ,(GK bJ bH).1,(bg.cut_some a2).2⟩
  ·exact .inr ⟨g,n,v,(GM g bH).1,(bg.cut_someO a2).2,a3⟩
structure jj (ob:List aI) (st st':bu):Prop where
 t:∀x∈st'.t,get x.1 st.t=x.2/\aB (fun k=> ¬fresh st'.n st'.o k) x.2
 b:hc (fun k=> ¬fresh st'.n st'.o k) st'.b st.b
 e:pH (fun k=> ¬fresh st'.n st'.o k) st'.e st.e
 o:∀m∈ob,m∈st'.o
theorem UB:∀(i:Nat) (l:List (Nat×aj)),get i l= .junk\/(i,get i l)∈l
 |_,[]=>.inl rfl
 |i,(j,p)::r=>by
  by_cases h:j=i
  ·subst h;right;simp[get]
  ·rcases UB i r with J|J
   ·left;simp[get,h,J]
   ·right;simp[get,h];right;exact J
theorem c0.weaker{C:fu}{st st':bu}{a:Act}{w:World}{Z:bg}(h:c0 C st a w Z)(hw:jj C.ob st st'):c0 C st' a w (Z.cut fun k=> ¬fresh st'.n st'.o k):=by
 refine⟨h.good.cut hw.b hw.e (fun bl bF _=>bF),⟨h.fr.os,h.fr.tape,h.fr.output,h.fr.size,h.fr.block,h.fr.keep,h.fr.fresh,fun n b af=>?_,h.fr.obn,fun m n u hm=>?_,h.fr.obr,fun k j bJ dT b J U=>h.fr.trd k j bJ dT b J.2 U.2,fun k j b af=>h.fr.trb k j b af.2,fun k j b af=>?_,h.fr.sh⟩,h.defers,h.size,fun i=>?_,fun k ad=>bg.cut_no (fun ax=>ax ad)⟩
 ·rw[bg.cut_bx (fun cZ=>cZ.2 (hw.o _ (h.fr.obn n b af)))];exact h.fr.obj n b af
 ·rw[bg.cut_ow (fun cZ=>cZ.2 (hw.o _ (h.fr.obr m n u hm)))];exact h.fr.row m n u hm
 ·rw[bg.cut_bx af.1,bg.cut_ow af.1];exact h.fr.trn k j b af.2
 ·rcases UB i st'.t with ae|hm
  ·rw[ae];simp[bd]
  ·obtain⟨J,U⟩:=hw.t _ hm;simp only at J;have:=h.slot i;rw[J]at this;exact vY (pU.cut _ w Z) _ _ U this
mutual
def dz:aj->aj
 | .slice sz _ xs=>.slice sz .no (c6 xs)
 | .agg cs=>.agg (c6 cs)
 | .tuple bf=>.tuple (c6 bf)
 | .eptr x=>.eptr (dz x)
 | .iface t x=>.iface t (dz x)
 | .func f di=>.func f (c6 di)
 |p=>p
def c6:List aj->List aj
 |[]=>[]
 |x::xs=>dz x::c6 xs
end
theorem we:∀xs,(c6 xs).length=xs.length
 |[]=>rfl
 |x::xs=>by simp[c6,we xs]
mutual
theorem Lh{t:Bool}{w:World}{A:Nat->Nat->Prop}:∀(p:aj) (F:Nat->Prop) (v:Value),gw t w A F p v->gw t w A F (dz p) v
 | .int _ _,_,_,h=>by simpa only[dz]using h
 | .bool _,_,_,h=>by simpa only[dz]using h
 | .str _,_,_,h=>by simpa only[dz]using h
 | .slice sz tag xs,F,v,h=>by
  simp only[gw,dz]at h⊢;obtain⟨a,cap,J,U,ar,a6⟩:=h;refine⟨a,cap,by rw[we];exact J,by rw[we];exact U,by rw[we];exact ar,?_⟩;rcases a6 with rfl|⟨b,off,us,G,ak,aD,bh,dk,hy,h8⟩
  ·exact .inl rfl
  ·exact .inr ⟨b,off,us,G,ak,aD,bh,dk,hy,Ul sz xs G us h8⟩
 | .agg cs,F,v,h=>by simp only[gw,dz]at h⊢;obtain⟨us,J,U⟩:=h;exact⟨us,J,Um cs F _ U⟩
 | .junk,_,_,h=>by simp[gw]at h
 | .ptr _ _,_,_,h=>by simp[gw]at h
 | .eptr _,_,_,h=>by simp[gw]at h
 | .iface _ _,_,_,h=>by simp[gw]at h
 | .nilp,_,_,h=>by simp[gw]at h
 | .tuple _,_,_,h=>by simp[gw]at h
 | .func _ _,_,_,h=>by simp[gw]at h
 | .gmap _,_,_,h=>by simp[gw]at h
 | .row _ _ _,_,_,h=>by simp[gw]at h
 | .rptr _ _ _ _ _,_,_,h=>by simp[gw]at h
 | .hdm _ _,_,_,h=>by simp[gw]at h
 | .hdi _ _ _,_,_,h=>by simp[gw]at h
 | .cst _,_,_,h=>by simp[gw]at h
theorem Um{t:Bool}{w:World}{A:Nat->Nat->Prop}:∀(cs:List aj) (F:Nat->Prop) (us:List Value),ve t w A F cs us->ve t w A F (c6 cs) us
 |[],_,_,h=>by simpa only[c6]using h
 |c::cs,F,us,h=>by simp only[ve,c6]at h⊢;obtain⟨u,ct,iD,iP,J,U,⟨b0,df⟩,eB⟩:=h;exact⟨u,ct,iD,iP,J,U,⟨Lh c iD u b0,df⟩,Um cs iP ct eB⟩
theorem Ul{t:Bool}{w:World}{A:Nat->Nat->Prop}(sz:Nat):∀(cs:List aj) (F:Nat->Prop) (us:List Value),vd t w A F sz cs us->vd t w A F sz (c6 cs) us
 |[],_,_,h=>by simpa only[c6]using h
 |c::cs,F,us,h=>by simp only[vd,c6]at h⊢;obtain⟨u,ct,iD,iP,J,U,⟨b0,df⟩,eB⟩:=h;exact⟨u,ct,iD,iP,J,U,⟨Lh c iD u b0,df⟩,Ul sz cs iP ct eB⟩
end
theorem Uk{t:Bool}{w:World}{A:Nat->Nat->Prop}{F:Nat->Prop}{sz:Nat}{tag:z7}(lp:z7){xs:List aj}(v:Value)(h:gw t w A F (.slice sz tag xs) v):gw t w A F (.slice sz lp (c6 xs)) v:=by have:=Lh _ F v h;simp only[dz,gw]at this⊢;exact this
mutual
theorem zE{w:World}{Z:bg}:∀(p:aj) (v:Value),bd w Z p v->bd w Z (dz p) v
 | .junk,_,h=>by simpa only[dz]using h
 | .int k n,_,h=>by simpa only[dz]using h
 | .bool b,_,h=>by simpa only[dz]using h
 | .str s,_,h=>by simpa only[dz]using h
 | .slice sz tag xs,v,h=>by
  simp only[bd,dz]at h⊢;obtain⟨⟨a,cap,J,U,ar,a6⟩,b0,df⟩:=h;refine⟨⟨a,cap,by rw[we];exact J,by rw[we];exact U,by rw[we];exact ar,?_⟩,fun e=>(by cases e),fun g e=>(by cases e),fun _ _ e=>(by cases e),fun _ e=>(by cases e)⟩;rcases a6 with rfl|⟨b,off,us,a6,df,eB⟩
  ·exact .inl rfl
  ·exact .inr ⟨b,off,us,a6,df,Zb sz xs us eB⟩
 | .agg cs,v,h=>by simp only[bd,dz]at h⊢;obtain⟨us,J,U⟩:=h;exact⟨us,J,Zf cs _ U⟩
 | .ptr key off,v,h=>by simpa only[dz]using h
 | .iface t x,v,h=>by simp only[bd,dz]at h⊢;obtain⟨u,J,U⟩:=h;exact⟨u,J,zE x u U⟩
 | .eptr x,v,h=>by simp only[bd,dz]at h⊢;obtain⟨b,off,u,J,U,ar⟩:=h;exact⟨b,off,u,J,zE x u U,ar⟩
 | .nilp,_,h=>by simpa only[dz]using h
 | .tuple bf,v,h=>by simp only[bd,dz]at h⊢;obtain⟨us,J,U⟩:=h;exact⟨us,J,IJ bf _ U⟩
 | .func f di,v,h=>by simp only[bd,dz]at h⊢;obtain⟨us,J,U⟩:=h;exact⟨us,J,IJ di _ U⟩
 | .gmap key,v,h=>by simpa only[dz]using h
 | .row _ _ _,v,h=>by simpa only[dz]using h
 | .rptr _ _ _ _ _,v,h=>by simpa only[dz]using h
 | .cst _,v,h=>by simpa only[dz]using h
theorem Zf{w:World}{Z:bg}:∀(cs:List aj) (us:List Value),dd w Z cs us->dd w Z (c6 cs) us
 |[],_,h=>by simpa only[c6]using h
 |c::cs,us,h=>by simp only[dd,c6]at h⊢;obtain⟨u,ct,J,U,ar⟩:=h;exact⟨u,ct,J,⟨zE c u U.1,U.2⟩,Zf cs ct ar⟩
theorem IJ{w:World}{Z:bg}:∀(cs:List aj) (us:List Value),cY w Z cs us->cY w Z (c6 cs) us
 |[],_,h=>by simpa only[c6]using h
 |c::cs,us,h=>by simp only[cY,c6]at h⊢;obtain⟨u,ct,J,U,ar⟩:=h;exact⟨u,ct,J,zE c u U,IJ cs ct ar⟩
theorem Zb{w:World}{Z:bg}(sz:Nat):∀(xs:List aj) (us:List Value),dR w Z sz xs us->dR w Z sz (c6 xs) us
 |[],_,h=>by simpa only[c6]using h
 |x::xs,us,h=>by simp only[dR,c6]at h⊢;obtain⟨u,ct,J,⟨U,ar,a6⟩,b0⟩:=h;exact⟨u,ct,J,⟨zE x u U,ar,a6⟩,Zb sz xs ct b0⟩
end
def inObs(s:cL)(k:aI):Prop:=(look k s.b).isSome=true\/(look k s.e).isSome=true
def cl{α β:Type}(s:List (aI×β)):List (aI×α)->List (aI×α)
 |[]=>[]
 |(k,x)::r=>match look k s with
  |some _=>cl s r
  |none=>(k,x)::cl s r
theorem vK{α β:Type}(s:List (aI×β))(k:aI):∀l:List (aI×α),look k (cl s l)=if(look k s).isSome then none else look k l
 |[]=>by simp[cl,look]
 |(i,x)::r=>by
  simp only[cl];by_cases e:i=k
  ·subst e;cases h:look i s with
   |some y=>simp[vK s i r,h]
   |none=>simp[look]
  ·cases h:look i s with
   |some y=>simp[vK s k r,look,e]
   |none=>simp[look,e,vK s k r]
theorem zc{α:Type}(k:aI):∀l a1:List (aI×α),look k (l++a1)=match look k l with|some x=>some x|none=>look k a1
 |[],a1=>by simp[look]
 |(i,x)::r,a1=>by
  by_cases e:i=k
  ·simp[look,e]
  ·simp[look,e,zc k r a1]
def after(st:bu)(s ah:cL)(d:Option Nat)(r:aj):bu:={t:=e4 d r st.t,b:=cl s.b st.b++ah.b,e:=cl s.e st.e++ah.e,n:=st.n,o:=st.o++c2 ah}
section
open Classical
noncomputable def bg.join(Z bt:bg)(s ah:cL):bg:={A:=bt.A,bx:=fun k=>if(look k s.b).isSome\/(look k ah.b).isSome then bt.bx k else Z.bx k,ow:=fun k=>if(look k s.e).isSome\/(look k ah.e).isSome then bt.ow k else Z.ow k,tr:=fun k j b=>Z.tr k j b\/bt.tr k j b}
end
theorem c0.callK{C:fu}{st:bu}{a:Act}{w w':World}{Z bt:bg}(h:c0 C st a w Z){s ah:cL}(af:hc (inObs s) s.b st.b)(he:pH (inObs s) s.e st.e)(vv:ju s)
  (a7:Good (fun bl=>fM (Z.cut (inObs s)) s bl\/w.heap.size<=bl) w' bt ah.b ah.e) {κ:Option Nat} (ab:Gl κ bt ah) (ajj:∀m,κ=some m->Z.bx (.loc m)=none/\Z.ow (.loc m)=none/\∀j b,¬Z.tr (.loc m) j b) {n':Nat} {o':List aI} (cU:∀k,fresh n' o' k->fresh st.n (st.o++c2 ah) k/\∀m,κ=some m->k≠ .loc m) (tQ:ju ah) (aK:q1 ⟨w,Z.cut (inObs s),fM (Z.cut (inObs s)) s,0,c2 s⟩ w' bt)
  (L7:∀m,(look (.obj m) ah.b).isSome->(look (.obj m) s.b).isSome\/ .obj m∉st.o) (cM:∀m,(look (.obj m) ah.e).isSome->(look (.obj m) s.e).isSome\/ .obj m∉st.o) (d:Option Nat) (aR:jQ C.N d=true) {r:aj} {v:Value} (aO:bd w' bt r v):
  c0 C {after st s ah d r with n:=n',o:=o'} (a.put d v) w' (Z.join bt s ah):=by
 have rn:∀k,(look k s.b).isSome->(look k st.b).isSome:=fun k ad=>by obtain⟨cs,dA⟩:=fL.1 ad;simp[(af k cs dA).1]
 have l6:∀k,(look k s.e).isSome->(look k st.e).isSome:=fun k ad=>by obtain⟨cs,dA⟩:=fL.1 ad;simp[(he k cs dA).1]
 have aiB:∀k,(look k ah.b).isSome->¬(look k s.b).isSome->Z.bx k=none:=fun k ad ax=>by
  cases k with
  |loc m=>rw[tQ.1 m]at ad;cases ad
  |obj m=>exact(h.new (.obj m) ⟨trivial,(L7 m ad).resolve_left ax⟩).1
 have aiC:∀k,(look k ah.e).isSome->¬(look k s.e).isSome->Z.ow k=none:=fun k ad ax=>by
  cases k with
  |loc m=>rw[tQ.2 m]at ad;cases ad
  |obj m=>exact(h.new (.obj m) ⟨trivial,(cM m ad).resolve_left ax⟩).2.1
 have ajM:∀k,(look k s.b).isSome->(Z.join bt s ah).bx k=bt.bx k:=fun k ad=>by simp[bg.join,ad]
 have Wb:∀k,(look k ah.b).isSome->(Z.join bt s ah).bx k=bt.bx k:=fun k ad=>by simp[bg.join,ad]
 have Wc:∀k,Z.bx k≠none->¬(look k s.b).isSome->(Z.join bt s ah).bx k=Z.bx k:=fun k J U=>by have ar:¬(look k ah.b).isSome:=fun ar=>J (aiB k ar U);simp[bg.join,U,ar]
 have ajN:∀k,(look k s.e).isSome->(Z.join bt s ah).ow k=bt.ow k:=fun k ad=>by simp[bg.join,ad]
 have MI:∀k,(look k ah.e).isSome->(Z.join bt s ah).ow k=bt.ow k:=fun k ad=>by simp[bg.join,ad]
 have MJ:∀k,Z.ow k≠none->¬(look k s.e).isSome->(Z.join bt s ah).ow k=Z.ow k:=fun k J U=>by have ar:¬(look k ah.e).isSome:=fun ar=>J (aiC k ar U);simp[bg.join,U,ar]
 have aa2:∀k b,bt.bx k=some b->(look k ah.b).isSome:=fun k b ad=>by
  cases au:look k ah.b with
  |some _=>rfl
  |none=>rw[(ab k).1 au]at ad;cases ad
 have aa3:∀k b,bt.ow k=some b->(look k ah.e).isSome:=fun k b ad=>by
  cases au:look k ah.e with
  |some _=>rfl
  |none=>rw[(ab k).2.1 au]at ad;cases ad
 have ay:lU w Z w' (Z.join bt s ah):=by
  refine⟨fun b o bm=>aK.keep b o bm,fun k b _ ad=>?_,fun g n u _ a7=>?_,fun b o bm=>aK.sh b o bm,fun _ _ _ _ h=>.inl h⟩
  ·by_cases ag:(look k s.b).isSome
   ·rw[ajM k ag];cases k with
    |loc m=>rw[vv.1 m]at ag;cases ag
    |obj m=>exact aK.obj m b (by rw[bg.cut_bx (.inl ag)];exact ad)
   ·rw[Wc k (by rw[ad];simp) ag];exact ad
  ·by_cases ag:(look g s.e).isSome
   ·rw[ajN g ag];cases g with
    |loc m=>rw[vv.2 m]at ag;cases ag
    |obj m=>exact aK.row m n u (by rw[bg.cut_ow (.inr ag)];exact a7)
   ·rw[MJ g (by rw[a7];simp) ag];exact⟨n,u,a7,.inl ⟨rfl,rfl⟩⟩
 have ia:lU w' bt w' (Z.join bt s ah):=⟨fun b o bm=>⟨bm,rfl⟩,fun k b _ ad=>by rw[Wb k (aa2 k b ad)];exact ad,fun g n u _ ad=>⟨n,u,by rw[MI g (aa3 g _ ad)];exact ad,.inl ⟨rfl,rfl⟩⟩,fun _ _ _=>rfl,fun _ _ _ _ h=>.inr h⟩
 have ri:∀bl,fM (Z.cut (inObs s)) s bl->C.pr bl/\bl<w.heap.size:=by
  intro bl fw;rcases fw with⟨k,J,U⟩|⟨g,n,u,J,U,ar⟩
  ·have a6:=(bg.cut_some U).2;obtain⟨cs,dA⟩:=fL.1 (rn k J);obtain⟨iS,us,el,g1,g2,_⟩:=h.good.box k cs dA;rw[a6]at g1;cases g1;exact⟨g2,h.good.boxLt dA a6⟩
  ·have a6:=(bg.cut_someO U).2;obtain⟨o,G0⟩:=fL.1 (l6 g J);obtain⟨v',us,g1,g2,g3,_⟩:=h.good.own g o G0;rw[a6]at g1;cases g1;exact⟨(g3 bl ar).1,h.good.ownLt G0 a6 ar⟩
 have VB:∀bl,fM (Z.cut (inObs s)) s bl\/w.heap.size<=bl->C.pr bl:=fun bl fw=>by
  rcases fw with fw|fw
  ·exact(ri bl fw).1
  ·exact .inr (kJ h.fr.size fw)
 have aiY:∀k cs bl,look k st.b=some cs->¬(look k s.b).isSome->Z.bx k=some bl->¬fM (Z.cut (inObs s)) s bl:=by
  intro k cs bl J U ar a6;rcases a6 with⟨bJ,bH,a2⟩|⟨g,n,u,bH,a2,a3⟩
  ·have:=h.good.inj k bJ bl (by simp[J]) (rn bJ bH) ar (bg.cut_some a2).2;subst this;exact U bH
  ·exact h.good.obx g k n u bl (l6 g bH) (by simp[J]) (bg.cut_someO a2).2 a3 ar
 have aiZ:∀g o n u bl,look g st.e=some o->¬(look g s.e).isSome->Z.ow g=some (n,u)->u.ownBlock=some bl->¬fM (Z.cut (inObs s)) s bl:=by
  intro g o n u bl J U ar a6 b0;rcases b0 with⟨bJ,bH,a2⟩|⟨fv,n',e6,bH,a2,a3⟩
  ·exact h.good.obx g bJ n u bl (by simp[J]) (rn bJ bH) ar a6 (bg.cut_some a2).2
  ·have:=h.good.oinj g fv n n' u e6 bl (by simp[J]) (l6 fv bH) ar (bg.cut_someO a2).2 a6 a3;subst this;exact U bH
 have S9:∀k cs,look k (cl s.b st.b++ah.b)=some cs->(¬(look k s.b).isSome/\look k st.b=some cs)\/look k ah.b=some cs:=by
  intro k cs ad;rw[zc,vK]at ad;by_cases ag:(look k s.b).isSome
  ·simp only[ag,if_true]at ad;exact .inr ad
  ·simp only[ag]at ad;cases au:look k st.b with
   |some x=>simp[au]at ad;subst ad;exact .inl ⟨ag,rfl⟩
   |none=>simp[au]at ad;exact .inr ad
 have Ta:∀k cs,look k (cl s.e st.e++ah.e)=some cs->(¬(look k s.e).isSome/\look k st.e=some cs)\/look k ah.e=some cs:=by
  intro k cs ad;rw[zc,vK]at ad;by_cases ag:(look k s.e).isSome
  ·simp only[ag,if_true]at ad;exact .inr ad
  ·simp only[ag]at ad;cases au:look k st.e with
   |some x=>simp[au]at ad;subst ad;exact .inl ⟨ag,rfl⟩
   |none=>simp[au]at ad;exact .inr ad
 have Ce:∀bl,fM (Z.cut (inObs s)) s bl\/w.heap.size<=bl->∀iS,iS<w.heap.size->¬fM (Z.cut (inObs s)) s iS->bl≠iS:=by
  intro bl J iS U ar e;subst e;rcases J with J|J
  ·exact ar J
  ·omega
 have MP:∀bl,bl<w.heap.size->¬fM (Z.cut (inObs s)) s bl->w'.heap[bl]? =w.heap[bl]?:=fun bl J U=>aK.block bl J U;have isB:∀k bl,(look k (cl s.b st.b++ah.b)).isSome->(Z.join bt s ah).bx k=some bl->(¬(look k s.b).isSome/\(look k st.b).isSome/\Z.bx k=some bl)\/((look k ah.b).isSome/\bt.bx k=some bl):=by
  intro k bl ad gp;obtain⟨cs,dA⟩:=fL.1 ad;rcases S9 k cs dA with⟨J,U⟩|J
  ·obtain⟨iS,us,el,g1,_⟩:=h.good.box k cs U;rw[Wc k (by rw[g1];simp) J]at gp;exact .inl ⟨J,by simp[U],gp⟩
  ·rw[Wb k (by simp[J])]at gp;exact .inr ⟨by simp[J],gp⟩
 have Hi:∀k x,(look k (cl s.e st.e++ah.e)).isSome->(Z.join bt s ah).ow k=some x->(¬(look k s.e).isSome/\(look k st.e).isSome/\Z.ow k=some x)\/((look k ah.e).isSome/\bt.ow k=some x):=by
  intro k x ad gp;obtain⟨cs,dA⟩:=fL.1 ad;rcases Ta k cs dA with⟨J,U⟩|J
  ·obtain⟨v',us,g1,_⟩:=h.good.own k cs U;rw[MJ k (by rw[g1];simp) J]at gp;exact .inl ⟨J,by simp[U],gp⟩
  ·rw[MI k (by simp[J])]at gp;exact .inr ⟨by simp[J],gp⟩
 have CM:∀k bl,¬(look k s.b).isSome->(look k st.b).isSome->Z.bx k=some bl->bl<w.heap.size/\¬fM (Z.cut (inObs s)) s bl:=by intro k bl J U ar;obtain⟨cs,dA⟩:=fL.1 U;exact⟨h.good.boxLt dA ar,aiY k cs bl dA J ar⟩
 have zG:∀k n u bl,¬(look k s.e).isSome->(look k st.e).isSome->Z.ow k=some (n,u)->u.ownBlock=some bl->bl<w.heap.size/\¬fM (Z.cut (inObs s)) s bl:=by intro k n u bl J U ar a6;obtain⟨cs,dA⟩:=fL.1 U;exact⟨h.good.ownLt dA ar a6,aiZ k cs n u bl dA J ar a6⟩
 have FL:∀k bl,(look k ah.b).isSome->bt.bx k=some bl->fM (Z.cut (inObs s)) s bl\/w.heap.size<=bl:=by intro k bl J U;obtain⟨cs,dA⟩:=fL.1 J;obtain⟨iS,us,el,g1,g2,_⟩:=a7.box k cs dA;rw[U]at g1;cases g1;exact g2
 have IQ:∀k n u bl,(look k ah.e).isSome->bt.ow k=some (n,u)->u.ownBlock=some bl->fM (Z.cut (inObs s)) s bl\/w.heap.size<=bl:=by intro k n u bl J U ar;obtain⟨cs,dA⟩:=fL.1 J;obtain⟨v',us,g1,g2,g3,_⟩:=a7.own k cs dA;rw[U]at g1;cases g1;exact(g3 bl ar).1
 have bm:∀bl o,bt.A bl o->bl<w.heap.size->¬fM (Z.cut (inObs s)) s bl->Z.A bl o:=by
  intro bl o J U ar;rcases aK.fresh bl o J with a6|a6|a6
  ·exact a6
  ·exact absurd a6 ar
  ·simp only at a6;omega
 have qB:c0 C {t:=st.t,b:=cl s.b st.b++ah.b,e:=cl s.e st.e++ah.e,n:=n',o:=o'} a w' (Z.join bt s ah):=by
  refine h.over ay rfl ⟨a7.alt,fun k cs ad=>?_,fun k bJ bl J U ar a6=>?_,fun g o fa=>?_,fun g fv n n' u e6 bl J U ar a6 b0 df=>?_,fun g k n u bl J U ar a6 b0=>?_,fun k=>?_,fun bl aJ k j l7=>?_⟩
   ⟨aK.os.trans h.fr.os,aK.tape.trans h.fr.tape,aK.output.trans h.fr.output,kJ h.fr.size aK.size,fun k ad hm=>?_,fun b o sk=>?_,fun b o sk=>?_,fun n b ax=>ay.bx _ _ trivial (h.fr.obj n b ax),h.fr.obn,
    fun m n u hm=>EN (h.fr.row m n u hm) (fun n u=>ay.ow _ n u trivial),h.fr.obr,fun k j bJ dT b J U=>?_,fun k j b af=>?_,fun k j b af=>?_,fun b o bm=>(ay.sh b o (h.fr.keep b o bm).1).trans (h.fr.sh b o bm)⟩ (fun k ad=>?_)
  ·rcases S9 k cs ad with⟨J,U⟩|J
   ·obtain⟨bl,us,el,g1,g2,g3,g4,g5⟩:=h.good.box k cs U;obtain⟨bV,b7⟩:=CM k bl J (by simp[U]) g1;exact⟨bl,us,el,ay.bx _ _ trivial g1,g2,fun o sk=>g3 o (bm bl o sk bV b7),by rw[MP bl bV b7];exact g4,qP ay g5⟩
   ·obtain⟨bl,us,el,g1,g2,g3,g4,g5⟩:=a7.box k cs J;exact⟨bl,us,el,ia.bx _ _ trivial g1,VB bl g2,g3,g4,qP ia g5⟩
  ·rcases isB k bl J ar with⟨bH,a2,a3⟩|⟨bH,a2⟩<;>rcases isB bJ bl U a6 with⟨bV,b7,fV⟩|⟨bV,b7⟩
   ·exact h.good.inj k bJ bl a2 b7 a3 fV
   ·obtain⟨bM,cp⟩:=CM k bl bH a2 a3;exact absurd rfl (Ce bl (FL bJ bl bV b7) bl bM cp)
   ·obtain⟨bM,cp⟩:=CM bJ bl bV b7 fV;exact absurd rfl (Ce bl (FL k bl bH a2) bl bM cp)
   ·exact a7.inj k bJ bl bH bV a2 b7
  ·rcases Ta g o fa with⟨J,U⟩|J
   ·obtain⟨u,us,g1,g2,g3,g4⟩:=h.good.own g o U;refine⟨u,us,by rw[MJ g (by rw[g1];simp) J];exact g1,⟨g2.1,?_⟩,fun bl fw=>?_,s6 ay (fun bl fw j sk=>?_) g4⟩
    ·rcases g2.2 with aD|⟨bb,cap,cur,f1,f2,f3,f4⟩
     ·exact .inl aD
     ·obtain⟨bV,b7⟩:=zG g _ u bb J (by simp[U]) g1 (by rw[f1];rfl);exact .inr ⟨bb,cap,cur,f1,f2,by rw[MP bb bV b7];exact f3,f4⟩
    ·obtain⟨bV,b7⟩:=zG g _ u bl J (by simp[U]) g1 fw;exact⟨(g3 bl fw).1,fun j sk=>(g3 bl fw).2 j (bm bl j sk bV b7)⟩
    ·obtain⟨bV,b7⟩:=zG g _ u bl J (by simp[U]) g1 fw;exact bm bl j sk bV b7
   ·obtain⟨u,us,g1,g2,g3,g4⟩:=a7.own g o J;exact⟨u,us,by rw[MI g (by simp[J])];exact g1,g2,fun bl fw=>⟨VB bl (g3 bl fw).1,(g3 bl fw).2⟩,s6 ia (fun _ _ _ h=>h) g4⟩
  ·rcases Hi g _ J ar with⟨bH,a2,a3⟩|⟨bH,a2⟩<;>rcases Hi fv _ U a6 with⟨bV,b7,fV⟩|⟨bV,b7⟩
   ·exact h.good.oinj g fv n n' u e6 bl a2 b7 a3 fV b0 df
   ·obtain⟨bM,cp⟩:=zG g n u bl bH a2 a3 b0;exact absurd rfl (Ce bl (IQ fv n' e6 bl bV b7 df) bl bM cp)
   ·obtain⟨bM,cp⟩:=zG fv n' e6 bl bV b7 fV df;exact absurd rfl (Ce bl (IQ g n u bl bH a2 b0) bl bM cp)
   ·exact a7.oinj g fv n n' u e6 bl bH bV a2 b7 b0 df
  ·rcases Hi g _ J ar with⟨bH,a2,a3⟩|⟨bH,a2⟩<;>rcases isB k bl U b0 with⟨bV,b7,fV⟩|⟨bV,b7⟩
   ·exact h.good.obx g k n u bl a2 b7 a3 a6 fV
   ·obtain⟨bM,cp⟩:=zG g n u bl bH a2 a3 a6;exact absurd rfl (Ce bl (FL k bl bV b7) bl bM cp)
   ·obtain⟨bM,cp⟩:=CM k bl bV b7 fV;exact absurd rfl (Ce bl (IQ g n u bl bH a2 a6) bl bM cp)
   ·exact a7.obx g k n u bl bH bV a2 a6 b7
  ·
   cases gp:(Z.join bt s ah).bx k with
   |none=>exact .inl rfl
   |some bl=>
    right;cases DH:(Z.join bt s ah).ow k with
    |none=>rfl
    |some x=>
     exfalso;have ak:(Z.bx k=some bl/\¬(look k s.b).isSome/\¬(look k ah.b).isSome)\/bt.bx k=some bl:=by
      by_cases ag:(look k s.b).isSome\/(look k ah.b).isSome
      ·right;simpa[bg.join,ag]using gp
      ·left;simp only[not_or]at ag;exact⟨by simpa[bg.join,ag.1,ag.2]using gp,ag.1,ag.2⟩
     have aD:(Z.ow k=some x/\¬(look k s.e).isSome/\¬(look k ah.e).isSome)\/bt.ow k=some x:=by
      by_cases ag:(look k s.e).isSome\/(look k ah.e).isSome
      ·right;simpa[bg.join,ag]using DH
      ·left;simp only[not_or]at ag;exact⟨by simpa[bg.join,ag.1,ag.2]using DH,ag.1,ag.2⟩
     rcases ak with⟨bH,a2,a3⟩|bH<;>rcases aD with⟨bV,b7,fV⟩|bV
     ·rcases h.good.one k with cZ|cZ
      ·rw[cZ]at bH;cases bH
      ·rw[cZ]at bV;cases bV
     ·have vr:=aa3 k x bV;have fq:(look k s.e).isSome:=by
       cases k with
       |loc m=>rw[tQ.2 m]at vr;cases vr
       |obj m=>
        rcases cM m vr with cZ|cZ
        ·exact cZ
        ·rw[(h.new (.obj m) ⟨trivial,cZ⟩).1]at bH;cases bH
      obtain⟨o,G0⟩:=fL.1 (l6 k fq);obtain⟨v',us,g1,_⟩:=h.good.own k o G0;rcases h.good.one k with cZ|cZ
      ·rw[cZ]at bH;cases bH
      ·rw[cZ]at g1;cases g1
     ·have yJ:=aa2 k bl bH;have fq:(look k s.b).isSome:=by
       cases k with
       |loc m=>rw[tQ.1 m]at yJ;cases yJ
       |obj m=>
        rcases L7 m yJ with cZ|cZ
        ·exact cZ
        ·rw[(h.new (.obj m) ⟨trivial,cZ⟩).2.1]at bV;cases bV
      obtain⟨cs,dA⟩:=fL.1 (rn k fq);obtain⟨iS,us,el,g1,_⟩:=h.good.box k cs dA;rcases h.good.one k with cZ|cZ
      ·rw[cZ]at g1;cases g1
      ·rw[cZ]at bV;cases bV
     ·rcases a7.one k with cZ|cZ
      ·rw[cZ]at bH;cases bH
      ·rw[cZ]at bV;cases bV
  ·have Vq:∀k j,bt.tr k j bl->w.heap.size<=bl:=fun k j cZ=>by
    rcases(aK.trb k j bl cZ).1 with a2|a2
    ·obtain⟨m,_,hm⟩:=(ab k).2.2 j bl cZ;rw[hm]at a2;cases a2
    ·exact a2
   have hold:fM (Z.cut (inObs s)) s bl->¬Z.tr k j bl:=by
    rintro(⟨bJ,bH,a2⟩|⟨g,n,u,bH,a2,a3⟩) cZ
    ·exact h.good.otr bl (.inl ⟨bJ,rn bJ bH,(bg.cut_some a2).2⟩) k j cZ
    ·exact h.good.otr bl (.inr ⟨g,n,u,l6 g bH,(bg.cut_someO a2).2,a3⟩) k j cZ
   have kS:fM (Z.cut (inObs s)) s bl\/w.heap.size<=bl->¬Z.tr k j bl:=by
    rintro(J|J) cZ
    ·exact hold J cZ
    ·have:=(h.fr.trb k j bl cZ).2;omega
   rcases aJ with⟨bJ,bH,a2⟩|⟨g,n,u,bH,a2,a3⟩
   ·rcases isB bJ bl bH a2 with⟨bV,b7,fV⟩|⟨bV,b7⟩
    ·rcases l7 with l7|l7
     ·exact h.good.otr bl (.inl ⟨bJ,b7,fV⟩) k j l7
     ·have:=(CM bJ bl bV b7 fV).1;have:=Vq k j l7;omega
    ·rcases l7 with l7|l7
     ·exact kS (FL bJ bl bV b7) l7
     ·exact a7.otr bl (.inl ⟨bJ,bV,b7⟩) k j l7
   ·rcases Hi g _ bH a2 with⟨bV,b7,fV⟩|⟨bV,b7⟩
    ·rcases l7 with l7|l7
     ·exact h.good.otr bl (.inr ⟨g,n,u,b7,fV,a3⟩) k j l7
     ·have:=(zG g n u bl bV b7 fV a3).1;have:=Vq k j l7;omega
    ·rcases l7 with l7|l7
     ·exact kS (IQ g n u bl bV b7 a3) l7
     ·exact a7.otr bl (.inr ⟨g,n,u,bV,b7,a3⟩) k j l7
  ·have bE:k<w.heap.size:=Nat.lt_of_lt_of_le ad h.fr.size;rw[MP k bE fun fw=>by
    rcases(ri k fw).1 with J|J
    ·exact hm J
    ·omega]
   exact h.fr.block k ad hm
  ·obtain⟨aS,be⟩:=h.fr.keep b o sk;obtain⟨b8,eg⟩:=aK.keep b o aS;exact⟨b8,eg.trans be⟩
  ·rcases aK.fresh b o sk with a6|a6|a6
   ·exact h.fr.fresh b o a6
   ·exact .inr (ri b a6).1
   ·exact .inr (.inr (kJ h.fr.size a6))
  ·rcases J with J|J<;>rcases U with U|U
   ·exact h.fr.trd k j bJ dT b J U
   ·have bH:=(h.fr.trb k j b J).2;have a2:=(aK.trb bJ dT b U).1;rcases a2 with a2|a2
    ·obtain⟨m,_,hm⟩:=(ab bJ).2.2 dT b U;rw[hm]at a2;cases a2
    ·simp only at a2;omega
   ·have bH:=(h.fr.trb bJ dT b U).2;have a2:=(aK.trb k j b J).1;rcases a2 with a2|a2
    ·obtain⟨m,_,hm⟩:=(ab k).2.2 j b J;rw[hm]at a2;cases a2
    ·simp only at a2;omega
   ·exact aK.trd k j bJ dT b J U
  ·rcases af with af|af
   ·exact⟨(h.fr.trb k j b af).1,Nat.lt_of_lt_of_le (h.fr.trb k j b af).2 aK.size⟩
   ·refine⟨.inr ?_,(aK.trb k j b af).2⟩;rcases(aK.trb k j b af).1 with a2|a2
    ·obtain⟨m,_,hm⟩:=(ab k).2.2 j b af;rw[hm]at a2;cases a2
    ·exact kJ h.fr.size a2
  ·have key:Z.bx k=none/\Z.ow k=none/\¬(look k ah.b).isSome/\¬(look k ah.e).isSome:=by
    rcases af with af|af
    ·obtain⟨t1,t2⟩:=h.fr.trn k j b af;refine⟨t1,t2,fun cZ=>?_,fun cZ=>?_⟩
     ·cases k with
      |loc m=>rw[tQ.1 m]at cZ;cases cZ
      |obj m=>
       rcases L7 m cZ with b0|b0
       ·obtain⟨cs,dA⟩:=fL.1 (rn _ b0);obtain⟨iS,us,el,g1,_⟩:=h.good.box _ cs dA;rw[t1]at g1;cases g1
       ·exact(h.new (.obj m) ⟨trivial,b0⟩).2.2 j b af
     ·cases k with
      |loc m=>rw[tQ.2 m]at cZ;cases cZ
      |obj m=>
       rcases cM m cZ with b0|b0
       ·obtain⟨cs,dA⟩:=fL.1 (l6 _ b0);obtain⟨iS,us,g1,_⟩:=h.good.own _ cs dA;rw[t2]at g1;cases g1
       ·exact(h.new (.obj m) ⟨trivial,b0⟩).2.2 j b af
    ·obtain⟨m,hm,rfl⟩:=(ab k).2.2 j b af;obtain⟨t1,t2,_⟩:=ajj m hm;exact⟨t1,t2,by simp[tQ.1 m],by simp[tQ.2 m]⟩
   obtain⟨t1,t2,t3,t4⟩:=key;have t5:¬(look k s.b).isSome:=fun cZ=>by obtain⟨cs,dA⟩:=fL.1 (rn _ cZ);obtain⟨iS,us,el,g1,_⟩:=h.good.box _ cs dA;rw[t1]at g1;cases g1
   have t6:¬(look k s.e).isSome:=fun cZ=>by obtain⟨cs,dA⟩:=fL.1 (l6 _ cZ);obtain⟨iS,us,g1,_⟩:=h.good.own _ cs dA;rw[t2]at g1;cases g1
   exact⟨by simp[bg.join,t3,t5,t1],by simp[bg.join,t4,t6,t2]⟩
  ·
   simp only at ad;obtain⟨ad,aik⟩:=cU k ad;have Vv:(∀j b,¬Z.tr k j b)->∀j b,¬(Z.join bt s ah).tr k j b:=fun J j b af=>by
    rcases af with af|af
    ·exact J j b af
    ·obtain⟨m,hm,e⟩:=(ab k).2.2 j b af;exact aik m hm e
   cases k with
   |loc m=>obtain⟨iA,gC,jH⟩:=h.new (.loc m) (Lg (fc _) (fun _ h=>List.mem_append_left _ h) ad);exact⟨by simp[bg.join,vv.1 m,tQ.1 m,iA],by simp[bg.join,vv.2 m,tQ.2 m,gC],Vv jH⟩
   |obj m=>
    simp only[fresh,kt,not_or,true_and]at ad;obtain⟨iA,gC,jH⟩:=h.new (.obj m) ⟨trivial,ad.1⟩;have ba:¬(look (.obj m) ah.b).isSome:=fun cZ=>ad.2 (uh (.inl cZ));have bo:¬(look (.obj m) ah.e).isSome:=fun cZ=>ad.2 (uh (.inr cZ));have b3:¬(look (.obj m) s.b).isSome:=fun cZ=>by obtain⟨cs,dA⟩:=fL.1 (rn _ cZ);obtain⟨iS,us,el,g1,_⟩:=h.good.box _ cs dA;rw[iA]at g1;cases g1
    have c9:¬(look (.obj m) s.e).isSome:=fun cZ=>by obtain⟨cs,dA⟩:=fL.1 (l6 _ cZ);obtain⟨v',us,g1,_⟩:=h.good.own _ cs dA;rw[gC]at g1;cases g1
    exact⟨by simp[bg.join,ba,b3,iA],by simp[bg.join,bo,c9,gC],Vv jH⟩
 exact qB.put aR (zD ia aO)
inductive ey where
 |s (i:eF)
 |call (d:Option Nat) (f:dF) (xs:List dF)
 |next (d:Nat) (x:dF)
structure de where
 g:Option (Nat×Bool)
 i:ey
def eF.dst:eF->Option Nat
 | .v d _| .box d _ _| .alloc d _ _| .bsl d _ _ _| .app d _ _ _ _| .bslm d _ _ _ _| .appm d _ _ _ _ _| .mkmap d _| .range d _ _| .mks d _ _ _ _ _=>some d
 | .store _ _ _| .mput _ _ _ _| .storeE _ _ _=>none
def ey.dst:ey->Option Nat
 | .s i=>i.dst
 | .call d _ _=>d
 | .next d _=>some d
def cV(P:cI)(n:Nat)(args:List aj)(st:bu)(d:Option Nat)(K:bu->Prop):Prop:=
 (∃s Q,hc (inObs s) s.b st.b/\pH (inObs s) s.e st.e/\ju s/\aC (inObs s) args/\bI P n args s Q/\
  ∀r ah,Q r ah->((∀m,(look (.obj m) ah.b).isSome->(look (.obj m) s.b).isSome\/ .obj m∉st.o)/\(∀m,(look (.obj m) ah.e).isSome->(look (.obj m) s.e).isSome\/ .obj m∉st.o))/\K (after st s ah d r))\/
 (∃s Q,hc (inObs s) s.b st.b/\pH (inObs s) s.e st.e/\ju s/\aC (inObs s) args/\ .loc st.n∉st.o/\Jz P n st.n args s Q/\
  ∀r ah,Q r ah->((∀m,(look (.obj m) ah.b).isSome->(look (.obj m) s.b).isSome\/ .obj m∉st.o)/\(∀m,(look (.obj m) ah.e).isSome->(look (.obj m) s.e).isSome\/ .obj m∉st.o))/\K {after st s ah d r with n:=st.n+1})
def NC(st:bu)(d:Nat)(eY mk:aI)(since:Nat)(seen:List Nat)(last clock:Nat)(borns:List Nat)(kvs:List aj)(K:bu->Prop):Prop:=
 (since=clock/\last=clock)/\((∀b∈borns,b∈seen)->K {st with t:=put d (.tuple [.bool false]) st.t})/\
 (∀b k v,nm b borns kvs=some (.tuple [k,v])->b∉seen->K {st with t:=put d (.tuple [.bool true,k,v]) st.t,b:=cA eY [.hdi since (seen++[b]) last,.gmap mk] st.b})
def r9(st:bu)(d:Nat)(v:aj)(K:bu->Prop):Prop:=
 match v with
 | .ptr eY 0=>match look eY st.b with
  |some [.hdi since seen last,.gmap mk]=>match look mk st.b with
   |some (.hdm clock borns::kvs)=>NC st d eY mk since seen last clock borns kvs K
   |_=>e8
  |_=>e8
 |_=>e8
def u4(P:cI)(st:bu)(K:bu->Prop):ey->Prop
 | .next d x=>r9 st d (cv st.t x) K
 | .s i=>match mJ st i with
  |some (c,st')=>c/\K st'
  |none=>e8
 | .call d f xs=>match cv st.t f with
  | .func n di=>cV P n (c6 (xs.map (cv st.t)++di)) st d K
  |_=>e8
def ix(P:cI):List de->bu->(bu->Prop)->Prop
 |[],st,K=>K st
 |⟨none,i⟩::r,st,K=>u4 P st (fun st'=>ix P r st' K) i
 |⟨some (s,want),i⟩::r,st,K=>match get s st.t with
  | .bool b=>(b=want->u4 P {st with t:=put s (.bool want) st.t} (fun st'=>ix P r st' K) i)/\(b= !want->ix P r {st with t:=e4 i.dst (.tuple []) (put s (.bool !want) st.t)} K)
  | .tuple []=>ix P r {st with t:=e4 i.dst (.tuple []) st.t} K
  |_=>e8
def vT(N:Nat)(bG:List (Nat×dN))(i:ey)(o:Oper):Bool:=
 match i with
 | .s i=>EP N bG i o
 | .next d x=>match o.op with
  | .next it false=>o.dst==some d&&decide (d<N)&&eD x it
  |_=>false
 | .call d f xs=>match o.op with
  | .call ⟨.value sb,args,_⟩=>o.dst==d&&jQ N d&&eD f sb&&zr xs args.toList
  |_=>false
def C9(N:Nat)(bG:List (Nat×dN))(ops:List Oper)(g:de)(o:Oper):Bool:=
 (match g.g,o.guard with
  |none,none=>true
  |some (s,b),some (j,b4)=>b==b4&&((ops[j]?).bind (·.dst))==some s&&decide (s<N)&&o.dst==g.i.dst&&jQ N g.i.dst
  |_,_=>false)&&vT N bG g.i o
def kO(N:Nat)(bG:List (Nat×dN))(ops:List Oper):List de->List Oper->Bool
 |[],[]=>true
 |g::gs,o::os=>C9 N bG ops g o&&kO N bG ops gs os
 |_,_=>false
theorem Zg{w:World}{Z:bg}:∀{b1 bB:List aj} {bf us:List Value},cY w Z b1 bf->cY w Z bB us->cY w Z (b1++bB) (bf++us)
 |[],bB,bf,us,h,cn=>by simp only[cY]at h;subst h;simpa using cn
 |p::b1,bB,bf,us,h,cn=>by simp only[cY]at h;obtain⟨u,ct,rfl,J,U⟩:=h;simp only[bW,cY];exact⟨u,_,rfl,J,Zg U cn⟩
theorem x0.mono{P:cI}{f:FuncId}{bf:Array Value}{w:World}{R Qj:Ending->World->Prop}(h:x0 P f bf w R)(aU:∀e w',R e w'->Qj e w'):x0 P f bf w Qj:=by
 rcases h with⟨J,U⟩|⟨v,w',J,U⟩
 ·exact .inl ⟨J,U.mono aU⟩
 ·exact .inr ⟨v,w',J,aU _ _ U⟩
theorem S7{P:cI}{C:fu}{st:bu}{a:Act}{w:World}{Z:bg}(aO:c0 C st a w Z){o:Oper}{sb:Operand}{args:Array Operand}{eP:Array gu}(nS:o.op= .call ⟨.value sb,args,eP⟩){d:Option Nat}(aR:o.dst=d)(yF:jQ C.N d=true)
  {n:Nat} {di:List aj} (aK:bd w Z (.func n di) (a.eval sb)) {b1:List aj} (vh:cY w Z b1 (args.toList.map a.eval)) {K:bu->Prop}
  (aw:∃(s:cL) (o2:aj->cL->Prop) (κ:Option Nat) (n':Nat) (o':cL->List aI),hc (inObs s) s.b st.b/\pH (inObs s) s.e st.e/\ju s/\aC (inObs s) (c6 (b1++di))/\(∀(w:World) (Z:bg) (bf:Array Value),Good (fM Z s) w Z s.b s.e->p5 Z s->cY w Z (c6 (b1++di)) bf.toList->
   x0 P n bf w fun e w'=> ∃v r ah bt,e= .returned v/\o2 r ah/\bd w' bt r v/\Good (fun bl=>fM Z s bl\/w.heap.size<=bl) w' bt ah.b ah.e/\Gl κ bt ah/\ju ah/\q1 ⟨w,Z,fM Z s,0,c2 s⟩ w' bt)/\
   (∀m,κ=some m->fresh st.n st.o (.loc m))/\(∀k r ah,o2 r ah->fresh n' (o' ah) k->fresh st.n (st.o++c2 ah) k/\∀m,κ=some m->k≠ .loc m)/\
   ∀r ah,o2 r ah->((∀m,(look (.obj m) ah.b).isSome->(look (.obj m) s.b).isSome\/ .obj m∉st.o)/\(∀m,(look (.obj m) ah.e).isSome->(look (.obj m) s.e).isSome\/ .obj m∉st.o))/\K {after st s ah d r with n:=n',o:=o' ah})
  {rV:Act->World->Prop} {Q:Exit->Act->World->Prop} (c5:∀st' bs w' bt,K st'->c0 C st' bs w' bt->rV bs w'):o.wp P a w rV Q:=by
 obtain⟨s,o2,κ,n',o',bM,cp,dc,h2,kM,Tt,Tn,pZ⟩:=aw;simp only[bd]at aK;obtain⟨us,aF,hu⟩:=aK;have mZ:cY w (Z.cut (inObs s)) (c6 (b1++di)) ((args.map a.eval)++us).toList:=by refine zC (pU.cut _ w Z) _ _ h2 (IJ _ _ ?_);simpa using Zg vh hu
 have su:Good (fM (Z.cut (inObs s)) s) w (Z.cut (inObs s)) s.b s.e:=aO.good.cut bM cp (fun bl _ h=>h);have hex:p5 (Z.cut (inObs s)) s:=by
  intro k;refine⟨?_,?_,?_⟩;rotate_left 2
  ·rintro j b ⟨ag,af⟩;obtain⟨t1,t2⟩:=aO.fr.trn k j b af;rcases ag with ag|ag<;>obtain⟨x,ab⟩:=fL.1 ag
   ·obtain⟨bl,ct,el,ak,_⟩:=aO.good.box k x (bM k x ab).1;rw[t1]at ak;cases ak
   ·obtain⟨v',ct,ak,_⟩:=aO.good.own k x (cp k x ab).1;rw[t2]at ak;cases ak
  ·intro au;by_cases ag:inObs s k
   ·rw[bg.cut_bx ag];rcases ag with ag|ag
    ·rw[au]at ag;cases ag
    ·obtain⟨x,ab⟩:=fL.1 ag;obtain⟨v',ct,ak,_⟩:=aO.good.own k x (cp k x ab).1;rcases aO.good.one k with J|J
     ·exact J
     ·rw[J]at ak;cases ak
   ·exact(bg.cut_no ag).1
  ·intro au;by_cases ag:inObs s k
   ·rw[bg.cut_ow ag];rcases ag with ag|ag
    ·obtain⟨x,ab⟩:=fL.1 ag;obtain⟨bl,ct,el,ak,_⟩:=aO.good.box k x (bM k x ab).1;rcases aO.good.one k with J|J
     ·rw[J]at ak;cases ak
     ·exact J
    ·rw[au]at ag;cases ag
   ·exact(bg.cut_no ag).2.1
 rcases kM w (Z.cut (inObs s)) ((args.map a.eval)++us) su hex mZ with⟨⟨fn,g1,g2,g3⟩,kM⟩|⟨v,w',kM,bF⟩
 ·obtain⟨code,ahS⟩:=fL.1 g2;have jr:(execOp a.eval o).run P w= .ok (.enter n ((args.map a.eval)++us)) w:=by obtain⟨dst,op,ty,pos,Qr,wK⟩:=o;simp only at nS;subst nS;simp only[execOp,resolve,aF,Deferred.ofValue,fZ,gL,gf,invoke,callFunc,run_program,g1,g3,ahS];simp
  unfold Oper.wp;rw[jr];simp only[Oper.upon];refine kM.mono fun e w' bF=>?_;obtain⟨v,r,ah,bt,rfl,bn,ba,bo,b3,c9,dh⟩:=bF;obtain⟨⟨iA,gC⟩,ad⟩:=pZ r ah bn;rw[aR];exact c5 _ _ _ _ ad (aO.callK bM cp dc bo b3 (fun m hm=>aO.new _ (Tt m hm)) (n':=n') (o':=o' ah) (fun k ad=>Tn k r ah bn ad) c9 dh iA gC d yF ba)
 ·have jr:(execOp a.eval o).run P w= .ok (.value v) w':=by obtain⟨dst,op,ty,pos,Qr,wK⟩:=o;simp only at nS;subst nS;simp only[execOp,resolve,aF,Deferred.ofValue,fZ,gL,gf,invoke];simpa using kM
  obtain⟨v2,r,ah,bt,DT,bn,ba,bo,b3,c9,dh⟩:=bF;cases DT;obtain⟨⟨iA,gC⟩,ad⟩:=pZ r ah bn;refine mM jr ?_;rw[aR];exact c5 _ _ _ _ ad (aO.callK bM cp dc bo b3 (fun m hm=>aO.new _ (Tt m hm)) (n':=n') (o':=o' ah) (fun k ad=>Tn k r ah bn ad) c9 dh iA gC d yF ba)
theorem S6{P:cI}{C:fu}{st:bu}{a:Act}{w:World}{Z:bg}(aO:c0 C st a w Z){o:Oper}{sb:Operand}{args:Array Operand}{eP:Array gu}(nS:o.op= .call ⟨.value sb,args,eP⟩){d:Option Nat}(aR:o.dst=d)(yF:jQ C.N d=true)
  {n:Nat} {di:List aj} (aK:bd w Z (.func n di) (a.eval sb)) {b1:List aj} (vh:cY w Z b1 (args.toList.map a.eval)) {K:bu->Prop} (aw:cV P n (c6 (b1++di)) st d K)
  {rV:Act->World->Prop} {Q:Exit->Act->World->Prop} (c5:∀st' bs w' bt,K st'->c0 C st' bs w' bt->rV bs w'):o.wp P a w rV Q:=by
 refine S7 aO nS aR yF aK vh (K:=K) ?_ c5;rcases aw with⟨s,o2,bM,cp,dc,h2,kM,pZ⟩|⟨s,o2,bM,cp,dc,h2,iw,kM,pZ⟩
 ·refine⟨s,o2,none,st.n,fun ah=>st.o++c2 ah,bM,cp,dc,h2,fun w Z bf J U ar=>(kM w Z bf J U ar).mono fun e w' bF=>?_,fun m hm=>(by cases hm),fun k _ ah _ ad=>⟨ad,fun m hm=>by cases hm⟩,pZ⟩;obtain⟨v,r,ah,bt,g1,g2,g3,g4,g5,g6⟩:=bF;exact⟨v,r,ah,bt,g1,g2,g3,g4,g5.k,g6⟩
 ·refine⟨s,o2,some st.n,st.n+1,fun ah=>st.o++c2 ah,bM,cp,dc,h2,kM,fun m hm=>(by cases hm;exact⟨fc _,iw⟩),fun k _ ah _ ad=>⟨Lg (Nat.le_succ _) (fun _ h=>h) ad,fun m hm=>?_⟩,pZ⟩;cases hm;rintro rfl;have:=ad.1;simp only at this;omega
theorem c0.drawn{C:fu}{st:bu}{a:Act}{w:World}{Z:bg}(aO:c0 C st a w Z)(n:Nat):c0 C st a {w with drawn:=n} Z:=by
 have lf:lU w Z {w with drawn:=n} Z:=⟨fun _ _ h=>⟨h,rfl⟩,fun _ _ _ h=>h,fun _ n u _ h=>⟨n,u,h,.inl ⟨rfl,rfl⟩⟩,fun _ _ _=>rfl,fun _ _ _ _ h=>h⟩;refine aO.over lf rfl ⟨aO.good.alt,fun k cs ad=>?_,aO.good.inj,fun g o a7=>?_,aO.good.oinj,aO.good.obx,aO.good.one,aO.good.otr⟩ ⟨aO.fr.os,aO.fr.tape,aO.fr.output,aO.fr.size,aO.fr.block,aO.fr.keep,aO.fr.fresh,aO.fr.obj,aO.fr.obn,aO.fr.row,aO.fr.obr,aO.fr.trd,aO.fr.trb,aO.fr.trn,aO.fr.sh⟩ aO.new
 ·obtain⟨bl,us,el,J,U,ar,a6,b0⟩:=aO.good.box k cs ad;exact⟨bl,us,el,J,U,ar,a6,qP lf b0⟩
 ·obtain⟨v,us,J,U,ar,a6⟩:=aO.good.own g o a7;exact⟨v,us,J,U,ar,s6 lf (fun _ _ _ h=>h) a6⟩
theorem agk{α:Type}{l:List α}{p:α->Bool}(h:∀x∈l,p x=false):l.filter p=[]:=by rw[List.filter_eq_nil_iff];intro x ab;simp[h x ab]
theorem agj{α:Type}{l:List α}{p:α->Bool}(h:∀x∈l,p x=true):l.filter p=l:=List.filter_eq_self.2 h
def HT(r m since clock:Nat)(seen:Array Nat)(S8:Array (Option MapEntry)):Sem Value:=do
 match S8[<-choose (.mapNext S8.size)]? with
 |some (some e)=>
  setObj r (.mapIter (some m) since (seen.push e.born) clock)
  pure (.tuple #[.bool true,e.key,e.val])
 |some none=>pure (.tuple #[.bool false])
 |none=>stuck "Next: no such candidate"
theorem Zs{P:cI}{w:World}(r m since clock:Nat)(seen:Array Nat)(l:List (Option MapEntry))(au:l≠[]):∃n x,x∈l/\(HT r m since clock seen l.toArray).run P w=
  (match x with|some e=>(do setObj r (.mapIter (some m) since (seen.push e.born) clock);pure (.tuple #[.bool true,e.key,e.val]):Sem Value)|none=>pure (.tuple #[.bool false])).run P {w with drawn:=n}:=by
 have fG:0<l.length:=List.length_pos_iff.2 au;unfold HT;have key:∀i,i<l.length->∀w',((do match(l.toArray[i]?:Option (Option MapEntry))with
   |some (some e)=>setObj r (.mapIter (some m) since (seen.push e.born) clock);pure (.tuple #[.bool true,e.key,e.val])
   |some none=>pure (.tuple #[.bool false])
   |none=>stuck "Next: no such candidate" :Sem Value)).run P w'=((match l[i]! with|some e=>(do setObj r (.mapIter (some m) since (seen.push e.born) clock);pure (.tuple #[.bool true,e.key,e.val]):Sem Value)|none=>pure (.tuple #[.bool false]))).run P w':=by
  intro i hi w';have J:l.toArray[i]? =some l[i]!:=by simp[hi]
  rw[J];cases l[i]!<;>rfl
 by_cases aK:(Question.mapNext l.length).forced=true
 ·refine⟨w.drawn,l[0]!,by simp[fG],?_⟩;rw[<-key 0 fG];have aw:(choose (.mapNext l.length):Sem Nat).run P w= .ok 0 w:=by simp[aK]
  simp only[List.size_toArray,fZ,aw,gf]
 ·refine⟨w.drawn+1,l[(w.tape w.drawn (.mapNext l.length))%l.length]!,by simp[Nat.mod_lt _ fG],?_⟩;rw[<-key _ (Nat.mod_lt _ fG)];have aw:(choose (.mapNext l.length):Sem Nat).run P w= .ok ((w.tape w.drawn (.mapNext l.length))%l.length) {w with drawn:=w.drawn+1}:=by simp[aK,Question.cut]
  simp only[List.size_toArray,fZ,aw,gf]
theorem ao0{P:cI}{w:World}{bl mb:Nat}{seen:List Nat}{es:List MapEntry}{clock:Nat}{ty:gu}(J:w.heap[bl]? =some (.mapIter (some mb) clock seen.toArray clock))(U:w.heap[mb]? =some (.map es.toArray clock))(bE:∀e∈es,e.born<clock):
  ∃n,((∀e∈es,e.born∈seen)/\(Instr.next (.pointer (some ⟨bl,0,none⟩)) false ty).run P w= .ok (.tuple #[.bool false]) {w with drawn:=n})\/
   ∃e∈es,e.born∉seen/\(Instr.next (.pointer (some ⟨bl,0,none⟩)) false ty).run P w= .ok (.tuple #[.bool true,e.key,e.val]) {w with drawn:=n,heap:=w.heap.setIfInBounds bl (.mapIter (some mb) clock (seen++[e.born]).toArray clock)}:=by
 have gQ:(!seen.toArray.isEmpty&& !es.toArray.isEmpty&&es.toArray.all (fun e=>decide (e.born≥clock)))=false:=by
  cases es with
  |nil=>simp
  |cons e r=>have:=bE e Ψ;simp;intro _ h;omega
 generalize j4:(es.filter fun e=> !seen.contains e.born)=left;have aip:(es.toArray.filter fun e=> !seen.toArray.contains e.born)=left.toArray:=by rw[<-j4];simp
 have iW:∀e∈left,e∈es/\e.born∉seen:=fun e he=>by rw[<-j4]at he;have:=oi.1 he;exact⟨this.1,by simpa using this.2⟩
 have hold:(left.toArray.filter fun e=>decide (e.born<clock))=left.toArray:=by rw[List.filter_toArray,agj];intro e he;have:=bE e (iW e he).1;simp[this]
 have kS:(left.toArray.filter fun e=>decide (e.born≥clock))= #[]:=by rw[List.filter_toArray,agk];intro e he;have:=bE e (iW e he).1;simp;omega
 have jr:(Instr.next (.pointer (some ⟨bl,0,none⟩)) false ty).run P w=(HT bl mb clock clock seen.toArray ((if left.toArray.isEmpty then #[none]else #[])++(left.toArray++ #[]).map some)).run P w:=by unfold Instr.next HT;simp only[fZ,v8 J,v8 U,gf,gQ,aip,hold,kS,ho,if_false];rfl
 rw[jr];by_cases A4:left=[]
 ·subst A4;obtain⟨n,x,g1,g2⟩:=Zs (P:=P) (w:=w) bl mb clock clock seen.toArray [none] Ψ;refine⟨n,.inl ⟨fun e he=>?_,?_⟩⟩
  ·have:=List.filter_eq_nil_iff.1 j4 e he;simpa using this
  ·simp only[List.mem_singleton]at g1;subst g1;have aw:((if(([]:List MapEntry).toArray).isEmpty then #[none]else #[])++(([]:List MapEntry).toArray++ #[]).map some)=[none].toArray:=by simp
   rw[aw,g2];rfl
 ·have aw:((if left.toArray.isEmpty then #[none]else #[])++(left.toArray++ #[]).map some)=(left.map some).toArray:=by simp[A4]
  obtain⟨n,x,g1,g2⟩:=Zs (P:=P) (w:=w) bl mb clock clock seen.toArray (left.map some) (by simpa using A4);simp only[iu]at g1;obtain⟨e,he,rfl⟩:=g1;refine⟨n,.inr ⟨e,(iW e he).1,(iW e he).2,?_⟩⟩;rw[aw,g2];simp only[fZ];rw[EO (w:={w with drawn:=n}) (o:= .mapIter (some mb) clock seen.toArray clock) J];simp
theorem KM:∀{borns:List Nat} {us:List Value} {e:MapEntry},e∈fN borns us->e.born∈borns
 |[],us,e,h=>by simp[fN]at h
 |b::e7,[],e,h=>by simp[fN]at h
 |b::e7,[_],e,h=>by simp[fN]at h
 |b::e7,k::v::us,e,h=>by
  simp only[fN,fT]at h;rcases h with rfl|h
  ·simp
  ·exact oY _ (KM h)
theorem TE:∀{borns:List Nat} {kvs:List aj} {us:List Value},kvs.length=2*borns.length->us.length=kvs.length->∀{b:Nat},b∈borns->∃e∈fN borns us,e.born=b
 |[],_,_,_,_,b,af=>by simp at af
 |b4::e7,kvs,[],J,U,b,af=>by rw[J]at U;simp at U
 |b4::e7,kvs,[_],J,U,b,af=>by rw[J]at U;simp at U;omega
 |b4::e7,kvs,k::v::us,J,U,b,af=>by
  rcases fT.1 af with rfl|af
  ·exact⟨⟨k,v,b⟩,by simp[fN],rfl⟩
  ·obtain⟨e,g1,g2⟩:=TE (kvs:=kvs.drop 2) (us:=us) (borns:=e7) (by simp at J⊢;omega) (by simp at J U⊢;omega) af;exact⟨e,by simp[fN,g1],g2⟩
theorem Xb{w:World}{Z:bg}:∀{borns:List Nat} {kvs:List aj} {us:List Value},kvs.length=2*borns.length->borns.Pairwise (· < ·)->cY w Z kvs us->∀{e:MapEntry},e∈fN borns us->∃k v,nm e.born borns kvs=some (.tuple [k,v])/\bd w Z k e.key/\bd w Z v e.val
 |[],_,_,_,_,_,e,h=>by simp[fN]at h
 |b::e7,[],us,J,_,_,e,_=>by simp at J
 |b::e7,[_],us,J,_,_,e,_=>by simp at J;omega
 |b::e7,k::v::kvs,us,J,U,ar,e,h=>by
  simp only[cY]at ar;obtain⟨iO,PD,rfl,dC,jV,td,rfl,eH,ln⟩:=ar;simp only[fN,fT]at h;rw[nz]at U;rcases h with rfl|h
  ·exact⟨k,v,by simp[nm],dC,eH⟩
  ·obtain⟨bJ,v',g1,g2,g3⟩:=Xb (by simp at J;omega) U.2 ln h;have cM:b≠e.born:=Nat.ne_of_lt (U.1 _ (KM h));exact⟨bJ,v',by simp[nm,cM,g1],g2,g3⟩
theorem ak8{P:cI}{C:fu}{st:bu}{a:Act}{w:World}{Z:bg}(aO:c0 C st a w Z){o:Oper}{it:Operand}(nS:o.op= .next it false){d:Nat}(aR:o.dst=some d)(yF:jQ C.N (some d)=true){v:aj}(aF:bd w Z v (a.eval it)){K:bu->Prop}(he:r9 st d v K)
  {rV:Act->World->Prop} {Q:Exit->Act->World->Prop} (c5:∀st' bs w' bt,K st'->c0 C st' bs w' bt->rV bs w'):o.wp P a w rV Q:=by
 unfold r9 at he;split at he
 ·rename_i eY;split at he
  ·rename_i since seen last mk wR;split at he
   ·rename_i clock borns kvs yR;obtain⟨⟨rfl,rfl⟩,AY,pk⟩:=he;simp only[bd]at aF;obtain⟨bl,bV,b7⟩:=aF;obtain⟨iS,us,el,ba,bo,b3,c9,dh⟩:=aO.good.box eY _ wR;rw[bV]at ba;cases ba;obtain⟨mb,ms,auI,m1,m2,m3,m4,m5⟩:=aO.good.box mk _ yR;simp only[jJ,cY]at dh;obtain⟨u,ct,hu,⟨auH,dC,rfl⟩,rfl⟩:=dh;rw[m1]at dC;cases dC;simp only[kc,hu]at c9;simp only[kc]at m4;simp only[jJ]at m5;obtain⟨n,my⟩:=ao0 (P:=P) (ty:=o.type) c9 m4 (fun e he=>m5.2.lt _ (KM he));have mV:∀v' w',(Instr.next (.pointer (some ⟨bl,0,none⟩)) false o.type).run P w= .ok v' w'->(execOp a.eval o).run P w= .ok (.value v') w':=by intro v' w' jr;obtain⟨dst,op,ty,pos,Qr,wK⟩:=o;simp only at nS jr;subst nS;simp only[execOp,b7];exact Fg jr
    rcases my with⟨J,U⟩|⟨e,J,U,ar⟩
    ·refine mM (mV _ _ U) ?_;rw[aR];refine c5 _ _ _ _ (AY fun b af=>?_) ((aO.drawn n).put yF (p:= .tuple [.bool false]) (by simp[bd,cY]));obtain⟨e,f1,f2⟩:=TE m5.2.len (IG m5.1) af;rw[<-f2];exact J e f1
    ·obtain⟨k,v,f1,f2,f3⟩:=Xb m5.2.len m5.2.inc m5.1 J;refine mM (mV _ _ ar) ?_;rw[aR];have w2:=((aO.drawn n).setBox (w':={w with drawn:=n,heap:=w.heap.setIfInBounds bl (.mapIter (some mb) last (seen++[e.born]).toArray last)}) wR bV (cs':=[.hdi last (seen++[e.born]) last,.gmap mk]) (us:=us) (el:=el) rfl rfl rfl
      (fun j ae=>Array.getElem?_setIfInBounds_ne (lv ae)) Ψ (by simp[kc,hu,(Array.getElem?_eq_some_iff.1 c9).1]) (by simp only[jJ,cY];exact⟨_,_,hu,by simp only[bd];exact⟨mb,m1,rfl⟩,rfl⟩))
     refine c5 _ _ _ _ (pk e.born k v f1 U) (w2.1.put yF (p:= .tuple [.bool true,k,v]) ?_);simp only[bd];refine⟨_,rfl,?_⟩;simp only[cY];have lf:lU w Z {w with drawn:=n} Z:=⟨fun _ _ h=>⟨h,rfl⟩,fun _ _ _ h=>h,fun _ n u _ h=>⟨n,u,h,.inl ⟨rfl,rfl⟩⟩,fun _ _ _=>rfl,fun _ _ _ _ h=>h⟩;exact⟨_,_,rfl,by simp[bd],_,_,rfl,zD w2.2 (zD lf f2),_,_,rfl,zD w2.2 (zD lf f3),rfl⟩
   ·exact he.elim
  ·exact he.elim
 ·exact he.elim
theorem TI{P:cI}{bG:List (Nat×dN)}(aJ:fY P bG=true){C:fu}{st:bu}{a:Act}{w:World}{Z:bg}(aO:c0 C st a w Z){i:ey}{o:Oper}(ay:vT C.N bG i o=true){K:bu->Prop}(he:u4 P st K i)
  {rV:Act->World->Prop} {Q:Exit->Act->World->Prop} (c5:∀st' bs w' bt,K st'->c0 C st' bs w' bt->rV bs w'):o.wp P a w rV Q:=by
 cases i with
 |s i=>
  simp only[u4]at he;split at he
  ·rename_i c st' ag;exact ao3 aJ aO (by simpa only[vT]using ay) ag he.1 fun bs w' bt h=>c5 _ _ _ _ he.2 h
  ·exact he.elim
 |next d x=>
  simp only[u4]at he;simp only[vT]at ay;split at ay
  ·rename_i it nS;simp only[cy,eb,eW]at ay;obtain⟨⟨J,U⟩,ar⟩:=ay;exact ak8 aO nS J (by simpa[jQ]using U) (eE aO ar) he c5
  ·cases ay
 |call d f xs=>
  simp only[u4]at he;simp only[vT]at ay;split at ay
  ·rename_i sb args eP nS;simp only[cy,eb]at ay;obtain⟨⟨⟨J,U⟩,ar⟩,a6⟩:=ay;split at he
   ·rename_i n di aK;have:=eE aO ar;rw[aK]at this;exact S6 aO nS J U this (EK aO a6) he c5
   ·exact he.elim
  ·cases ay
theorem ON{C:fu}{st:bu}{a:Act}{w:World}{Z:bg}(h:c0 C st a w Z){s:Nat}{b:Bool}(ag:get s st.t= .bool b):c0 C {st with t:=put s (.bool b) st.t} a w Z:=by
 refine⟨h.good,h.fr,h.defers,h.size,fun i=>?_,h.new⟩;have:=h.slot i;simp only[p7];split
 ·rename_i e;subst e;rw[<-ag];exact this
 ·exact this
theorem aa5{C:fu}{st:bu}{a:Act}{w:World}{Z:bg}(h:c0 C st a w Z){ops:Array Oper}{j s:Nat}(ae:(ops.toList[j]?).bind (·.dst)=some s)(ag:s<C.N):
  (∀b,get s st.t= .bool b->yielded ops a.tmps j=some b)/\(get s st.t= .tuple []->yielded ops a.tmps j=none):=by
 have bE:s<a.tmps.size:=by rw[h.size];exact ag
 have sD:=h.slot s;have hz:a.tmps.getD s undef=a.tmps[s]:=by simp[Array.getD,bE]
 rw[hz]at sD;have aL:yielded ops a.tmps j=match a.tmps[s]with| .bool b=>some b|_=>none:=by unfold yielded;rw[uG]at ae;rw[ae];simp only[ki,Array.getElem?_eq_getElem bE];cases a.tmps[s]<;>rfl
 constructor
 ·intro b af;rw[af]at sD;simp only[bd]at sD;rw[aL,sD]
 ·intro af;rw[af]at sD;simp only[bd,cY]at sD;obtain⟨us,ak,aD⟩:=sD;rw[aL,ak]
theorem TL{P:cI}{bG:List (Nat×dN)}(aJ:fY P bG=true){C:fu}{ops:Array Oper}{K:bu->Prop}{Q:Exit->Act->World->Prop}(h4:∀st' bs w' bt,K st'->c0 C st' bs w' bt->Q .normal bs w'):
  ∀(gs:List de) (os:List Oper) (k:Nat),(∀j,os[j]? =ops[k+j]?)->kO C.N bG ops.toList gs os=true->∀(st:bu) (a:Act) (w:World) (Z:bg),ix P gs st K->c0 C st a w Z->wpOps P ops Q (List.range' k gs.length) a w
 |[],[],k,_,_,st,a,w,Z,he,aO=>by simp only[List.length_nil,List.range'_zero,wpOps];exact h4 _ _ _ _ he aO
 |[],_::_,_,_,ad,_,_,_,_,_,_=>by simp[kO]at ad
 |_::_,[],_,_,ad,_,_,_,_,_,_=>by simp[kO]at ad
 |g::gs,o::os,k,A7,ad,st,a,w,Z,he,aO=>by
  simp only[kO,cy]at ad;have br:ops[k]? =some o:=by simpa using(A7 0).symm
  have DL:∀j,os[j]? =ops[k+1+j]?:=fun j=>by have:=A7 (j+1);simpa[Nat.add_assoc,Nat.add_comm 1 j]using this
  simp only[oX,List.range'_succ,wpOps,br];have bR:∀st' bs w' bt,ix P gs st' K->c0 C st' bs w' bt->wpOps P ops Q (List.range' (k+1) gs.length) bs w':=fun st' bs w' bt J U=>TL aJ h4 gs os (k+1) DL ad.2 st' bs w' bt J U;obtain⟨nJ,UC⟩:=g;have a7:=ad.1;simp only[C9,cy]at a7;obtain⟨jn,pn⟩:=a7;cases nJ with
  |none=>
   cases fa:o.guard with
   |some x=>simp[fa]at jn
   |none=>
    have hw:pO o (yielded ops a.tmps)=true:=by simp[pO,fa]
    rw[if_pos hw];simp only[ix]at he;exact .inl (TI aJ aO pn he bR)
  |some zN=>
   obtain⟨s,want⟩:=zN;cases fa:o.guard with
   |none=>simp[fa]at jn
   |some x=>
    obtain⟨j,b4⟩:=x;simp only[fa,cy,eb,eW]at jn;obtain⟨⟨⟨⟨rfl,U⟩,ar⟩,a6⟩,b0⟩:=jn;obtain⟨ja,oe⟩:=aa5 aO U ar;simp only[ix]at he;split at he
    ·rename_i b af;have aL:=ja b af;by_cases e:b=want
     ·subst e;have hw:pO o (yielded ops a.tmps)=true:=by simp[pO,fa,aL]
      rw[if_pos hw];exact .inl (TI aJ (ON aO af) pn (he.1 rfl) bR)
     ·have hw:¬(pO o (yielded ops a.tmps)=true):=by simp[pO,fa,aL,e]
      rw[if_neg hw];have gb:b= !want:=by cases b<;>cases want<;>simp at e⊢
      have mY:c0 C {st with t:=put s (.bool !want) st.t} a w Z:=ON aO (by rw[af,gb]);rw[a6];exact bR _ _ _ _ (he.2 gb) (mY.put b0 (by simp[bd,cY,undef]))
    ·rename_i af;have aL:=oe af;have hw:¬(pO o (yielded ops a.tmps)=true):=by simp[pO,fa,aL]
     rw[if_neg hw,a6];exact bR _ _ _ _ he (aO.put b0 (by simp[bd,cY,undef]))
    ·exact he.elim
structure dq where
 t:Nat->aj
 b:aI->Option (List aj)
 e:aI->Option gg
 F:aI->Prop
structure k3 where
 d:Option Nat
 p:aj
 bw:List (aI×List aj)
 ew:List (aI×gg)
 rm:Option aI
def iT{α:Type}(l:List (aI×α))(f:aI->Option α):aI->Option α:=fun k=>match look k l with|some x=>some x|none=>f k
def dq.do(A:dq)(x:k3):dq:={t:=fun i=>if x.d=some i then x.p else A.t i,b:=iT x.bw A.b,e:=iT x.ew A.e,F:=fun k=>A.F k/\x.rm≠some k}
structure k3.apart (x y:k3):Prop where
 d:∀i,x.d=some i->y.d≠some i
 b:∀k,(look k x.bw).isSome->look k y.bw=none
 e:∀k,(look k x.ew).isSome->look k y.ew=none
theorem dq.do_comm(A:dq){x y:k3}(h:x.apart y):(A.do x).do y=(A.do y).do x:=by
 simp only[dq.do,dq.mk.injEq];refine⟨?_,?_,?_,?_⟩
 ·funext i;by_cases J:x.d=some i
  ·have:=h.d i J;simp[J,this]
  ·simp[J]
 ·funext k;simp only[iT];cases ab:look k x.bw with
  |none=>cases look k y.bw<;>rfl
  |some u=>rw[h.b k (by simp[ab])]
 ·funext k;simp only[iT];cases ab:look k x.ew with
  |none=>cases look k y.ew<;>rfl
  |some u=>rw[h.e k (by simp[ab])]
 ·funext k;exact propext ⟨fun h=>⟨⟨h.1.1,h.2⟩,h.1.2⟩,fun h=>⟨⟨h.1.1,h.2⟩,h.1.2⟩⟩
def dP(t:Nat->aj):dF->aj
 | .t i=>t i
 | .c p=>p
def sM(b:aI->Option (List aj))(e:aI->Option gg)(agg:Bool)(sz:Nat):aj->Option (Prop×aj)
 | .rptr dZ k n i f=>zF agg sz dZ n i f (e k)
 | .ptr k off=>
  match b k with
  |some cs=>if agg then some (gr cs=true/\off+sz<=cs.length,.agg ((cs.drop off).take sz))else(cs[off]?).map fun p=>(gr cs=true,p)
  |none=>none
 | .eptr p=>if agg then some (isAgg sz p,p)else some (eT p=true/\cells p=[p],p)
 |_=>none
def yd(t:Nat->aj):List aj->List (Nat×Nat×dF)->Option (Prop×List aj)
 |cs,[]=>some (True,cs)
 |cs,(off,sz,x)::r=>
  match yd t (oN cs off (cells (dP t x))) r with
  |some (c,cs')=>some ((eT (dP t x)=true/\(cells (dP t x)).length=sz/\off+sz<=cs.length)/\c,cs')
  |none=>none
def qm(t:Nat->aj)(b:aI->Option (List aj))(e:aI->Option gg):gk->Option (Prop×aj)
 | .mov x=>some (True,dP t x)
 | .pick c x y=>Ib (dP t c) (dP t x) (dP t y)
 | .load agg sz x=>sM b e agg sz (dP t x)
 | .faddr off agg sz x=>sd off agg sz (dP t x)
 | .fld off agg sz x=>vb off agg sz (dP t x)
 | .iaddr sz x i=>Bl sz (dP t x) (dP t i)
 | .sidx x i=>IZ (dP t x) (dP t i)
 | .ssl x lo hi=>I4 (dP t x) (lo.map (dP t)) (hi.map (dP t))
 | .lsl sz x lo hi=>HF sz (dP t x) (lo.map (dP t)) (hi.map (dP t))
 | .bin op wr x y=>CK op wr (dP t x) (dP t y)
 | .notB x=>HW (dP t x)
 | .neg x=>HR (dP t x)
 | .conv k x=>Gd k (dP t x)
 | .ext i x=>Ax i (dP t x)
 | .len x=>Bv (dP t x)
 | .slen x=>EY (dP t x)
 | .build zero parts=>(yd t zero parts).map fun(c,cs)=>(c,.agg cs)
 | .nck x=>BG (dP t x)
 | .min2 x y=>HO (dP t x) (dP t y)
 | .mkf n xs=>some (True,.func n (xs.map (dP t)))
 | .mget ck zero ok x k=>nn b ck zero ok (dP t x) (dP t k)
 | .ment x=>oJ b (dP t x)
 | .mlen x=>sS b (dP t x)
 | .beq neg ee x y=>iR neg ee (dP t x) (dP t y)
 | .max2 x y=>HJ (dP t x) (dP t y)
 | .mkif n x=>some (True,.iface n (dP t x))
 | .loadB agg sz x=>sM b (fun _=>none) agg sz (dP t x)
 | .mgetB ck zero ok x k=>nn b ck zero ok (dP t x) (dP t k)
 | .loadZ agg sz x=>C8 agg sz (dP t x)
structure lT (st:bu) (A:dq):Prop where
 t:∀i,get i st.t=A.t i
 b:∀k,look k st.b=A.b k
 e:∀k,look k st.e=A.e k
theorem jl{st:bu}{A:dq}(h:lT st A)(x:dF):cv st.t x=dP A.t x:=by
 cases x
 ·exact h.t _
 ·rfl
theorem u7{st:bu}{A:dq}(h:lT st A):cv st.t=dP A.t:=funext (jl h)
theorem akd{st:bu}{A:dq}(h:lT st A)(agg:Bool)(sz:Nat)(p:aj):nl st.b st.e agg sz p=sM A.b A.e agg sz p:=by
 cases p<;>simp only[nl,sM]
 ·rw[h.b];try rfl
 ·rw[h.e]
theorem ake{st:bu}{A:dq}(h:lT st A)(agg:Bool)(sz:Nat)(p:aj):nl st.b [] agg sz p=sM A.b (fun _=>none) agg sz p:=by
 cases p<;>simp only[nl,sM]
 ·rw[h.b];try rfl
 ·rfl
theorem QV{st:bu}{A:dq}(h:lT st A):∀(parts:List (Nat×Nat×dF)) (cs:List aj),uZ st.t cs parts=yd A.t cs parts
 |[],cs=>rfl
 |(off,sz,x)::r,cs=>by simp only[uZ,yd,jl h,QV h r];try rfl
theorem Z7{st:bu}{A:dq}(h:lT st A)(i:gk):hG st i=qm A.t A.b A.e i:=by have af:(fun k=>look k st.b)=A.b:=funext h.b;cases i<;>simp only[hG,qm,u7 h,akd h,ake h,QV h,af]
def hD:dF->List Nat
 | .t i=>[i]
 | .c _=>[]
def N1:Option dF->List Nat
 |some x=>hD x
 |none=>[]
def gk.looks:gk->List Nat
 | .mov x| .load _ _ x| .loadB _ _ x| .loadZ _ _ x| .faddr _ _ _ x| .fld _ _ _ x| .notB x| .neg x| .conv _ x| .ext _ x| .len x| .slen x| .nck x| .ment x| .mlen x| .mkif _ x=>hD x
 | .pick c x y=>hD c++hD x++hD y
 | .iaddr _ x i| .sidx x i=>hD x++hD i
 | .ssl x lo hi| .lsl _ x lo hi=>hD x++N1 lo++N1 hi
 | .bin _ _ x y| .min2 x y| .max2 x y| .beq _ _ x y=>hD x++hD y
 | .build _ b1=>b1.flatMap fun p=>hD p.2.2
 | .mkf _ xs=>xs.flatMap hD
 | .mget _ _ _ x k| .mgetB _ _ _ x k=>hD x++hD k
def eF.looks:eF->List Nat
 | .v _ i=>i.looks
 | .box _ _ x=>hD x
 | .alloc _ _ _=>[]
 | .store _ x y=>hD x++hD y
 | .storeE _ x y=>hD x++hD y
 | .bsl _ _ _ xs=>xs.flatMap hD
 | .app _ _ _ x y=>hD x++hD y
 | .bslm _ _ _ _ xs=>xs.flatMap hD
 | .mks _ _ _ _ _ x=>hD x
 | .appm _ _ _ _ x y=>hD x++hD y
 | .mkmap _ _=>[]
 | .mput _ x k y=>hD x++hD k++hD y
 | .range _ _ x=>hD x
def ey.looks:ey->List Nat
 | .s i=>i.looks
 | .call _ f xs=>hD f++xs.flatMap hD
 | .next _ x=>hD x
def de.looks(g:de):List Nat:=(match g.g with|some (s,_)=>[s]|none=>[])++g.i.looks
def q5(l:List Nat)(t da:Nat->aj):Prop:= ∀i∈l,t i=da i
theorem gH{t da:Nat->aj}{x:dF}(h:q5 (hD x) t da):dP t x=dP da x:=by
 cases x
 ·exact h _ (by simp[hD])
 ·rfl
theorem kL{l a1:List Nat}{t da:Nat->aj}(h:q5 (l++a1) t da):q5 l t da/\q5 a1 t da:=⟨fun i hi=>h i (by simp[hi]),fun i hi=>h i (by simp[hi])⟩
theorem Gk{t da:Nat->aj}{x:Option dF}(h:q5 (N1 x) t da):x.map (dP t)=x.map (dP da):=by
 cases x
 ·rfl
 ·simp[gH h]
theorem QU{t da:Nat->aj}:∀{parts:List (Nat×Nat×dF)} {cs:List aj},q5 (parts.flatMap fun p=>hD p.2.2) t da->yd t cs parts=yd da cs parts
 |[],cs,_=>rfl
 |(off,sz,x)::r,cs,h=>by simp only[List.flatMap_cons]at h;obtain⟨J,U⟩:=kL h;simp only[yd,gH J,QU U]
theorem HI{t da:Nat->aj}:∀{xs:List dF},q5 (xs.flatMap hD) t da->xs.map (dP t)=xs.map (dP da)
 |[],_=>rfl
 |x::xs,h=>by simp only[List.flatMap_cons]at h;obtain⟨J,U⟩:=kL h;simp[gH J,HI U]
def gk.isLoad:gk->Bool
 | .load _ _ _=>true
 | .loadB _ _ _=>true
 | .mgetB _ _ _ _ _=>true
 | .mget _ _ _ _ _=>true
 | .ment _=>true
 | .mlen _=>true
 |_=>false
theorem aqg{t da:Nat->aj}{b b4:aI->Option (List aj)}{e fj:aI->Option gg}{i:gk}(h:q5 i.looks t da)(af:i.isLoad=false):qm t b e i=qm da b4 fj i:=by
 cases i<;>simp only[gk.looks]at h<;>simp only[qm];case load agg sz x=>simp[gk.isLoad]at af
 case loadB agg sz x=>simp[gk.isLoad]at af
 case pick c x y=>obtain⟨J,ar⟩:=kL h;obtain⟨J,U⟩:=kL J;rw[gH J,gH U,gH ar]
 case iaddr=>obtain⟨J,U⟩:=kL h;rw[gH J,gH U]
 case sidx=>obtain⟨J,U⟩:=kL h;rw[gH J,gH U]
 case ssl=>obtain⟨J,ar⟩:=kL h;obtain⟨J,U⟩:=kL J;rw[gH J,Gk U,Gk ar]
 case lsl=>obtain⟨J,ar⟩:=kL h;obtain⟨J,U⟩:=kL J;rw[gH J,Gk U,Gk ar]
 case bin=>obtain⟨J,U⟩:=kL h;rw[gH J,gH U]
 case min2=>obtain⟨J,U⟩:=kL h;rw[gH J,gH U]
 case build=>rw[QU h]
 case mkf=>rw[HI h]
 case mget=>simp[gk.isLoad]at af
 case mgetB=>simp[gk.isLoad]at af
 case ment=>simp[gk.isLoad]at af
 case mlen=>simp[gk.isLoad]at af
 case max2=>obtain⟨J,U⟩:=kL h;rw[gH J,gH U]
 case beq=>obtain⟨J,U⟩:=kL h;rw[gH J,gH U]
 all_goals rw[gH h]
end
end Go.Pv
