/- append of a text to a row of bytes. -/
import Derived.WalkKit
import Derived.Orders
import Derived.KernelRfl
import Derived.IntWalk
import Derived.Laws.StructEq
import Derived.ChangeKeysEq
import Derived.MapKept
import Derived.ArgAppend
import Derived.Deep.AppendSrc
set_option linter.all false
set_option maxHeartbeats 4000000
set_option maxRecDepth 4000
namespace Go
def an{p:Prop}(h:p:=by kernel_rfl):p:=h
def bi{p:Prop}(h:p:=by simp only[aP,aE,aF,b3,b6];exact aG):p:=h
def bv{p:Prop}(h:p:=by first|exact cu _|exact cu ‹_› _):p:=h
def ci{p:Prop}(h:p:=by simp only[cj,cb,bk,bz];exact aG):p:=h
def co{p:Prop}(h:p:=by simp[aP,aE,aF]):p:=h
def dg{p:Prop}(h:p:=by simp[inObs,Pv.look,cj,cb,bk,bz,ay,au]):p:=h
def f9{p:Prop}(h:p:=by simp only[bk,bz];exact aG):p:=h
def gc{p:Prop}(h:p:=by simp;omega):p:=h
def ge{p:Prop}(h:p:=by simp[inObs,Pv.look,aP,aE,aF]):p:=h
def go{p:Prop}(h:p:=by simp[au]):p:=h
def gt{p:Prop}(h:p:=by first|exact iZ _|exact iZ ‹_› _):p:=h
def gQ{p:Prop}(h:p:=by simp[ho,bk,inObs,Pv.look]):p:=h
def g8{p:Prop}(h:p:=by simp[ay,au,inObs,Pv.look]):p:=h
def g9{p:Prop}(h:p:=by simp only[gD,aE,aF,b3,b6];exact aG):p:=h
def ii{p:Prop}(h:p:=by simp[fresh,ay,au,bX,inObs,Pv.look,gM]):p:=h
def io{p:Prop}(h:p:=by simp[fresh,ay,au,dD,inObs,Pv.look,gM]):p:=h
def ip{p:Prop}(h:p:=by simp[fresh,ay,au,bX,inObs,Pv.look,fC]):p:=h
def i6{p:Prop}(h:p:=by simp[fresh,ay,au,dD,inObs,Pv.look,fC]):p:=h
def i7{p:Prop}(h:p:=by simp[Pv.look]):p:=h
def i8{p:Prop}(h:p:=by simp only[e8,aE,aF,b3,b6];exact aG):p:=h
def jp{p:Prop}(h:p:=by simp[fresh,ay,au,bX,inObs,Pv.look,kG]):p:=h
def kO{p:Prop}(h:p:=by simp[fresh,ay,au,dD,inObs,Pv.look,kG]):p:=h
def li{p:Prop}(h:p:=by simp only[gS,aE,aF,b3,b6];exact aG):p:=h
def lm{p:Prop}(h:p:=by simp only[aP,aE];exact aG):p:=h
def lw{p:Prop}(h:p:=by simp[fresh,ay,au,bX,inObs,Pv.look,aF,aE]):p:=h
def md{p:Prop}(h:p:=by simp[fresh,ay,au,dD,inObs,Pv.look,aF,aE]):p:=h
def mp{p:Prop}(h:p:=by simp[fresh,ay,au,bX,inObs,Pv.look,gv,r5,r4,r3,r2]):p:=h
def my{p:Prop}(h:p:=by simp[fresh,ay,au,dD,inObs,Pv.look,gv,r5,r4,r3,r2]):p:=h
def mO{p:Prop}(h:p:=by unfold gR;exact aG):p:=h
def m6{p:Prop}(h:p:=by simp only[binOp,Op.intBits,ne_eq,not_true_eq_false,if_false,gx]):p:=h
def m7{p:Prop}(h:p:=by simp[fresh,ay,au,bX,inObs,Pv.look,lU]):p:=h
def m8{p:Prop}(h:p:=by simp[fresh,ay,au,dD,inObs,Pv.look,lU]):p:=h
def m9{p:Prop}(h:p:=by first|exact q3 _|exact q3 ‹_› _):p:=h
def nH{p:Prop}(h:p:=by first|exact rW _|exact rW ‹_› _):p:=h
def n8{p:Prop}(h:p:=by simp only[jA,b3,b6];exact aG):p:=h
def ol{p:Prop}(h:p:=by simp only[jB,b3,b6];exact aG):p:=h
def oJ{p:Prop}(h:p:=by simp only[gS,aE,aF,bE.grey,b3,b6];exact aG):p:=h
def pi{p:Prop}(h:p:=by simpa only[ht]using he):p:=h
def pk{p:Prop}(h:p:=by simp[gD,aE,aF]):p:=h
def pl{p:Prop}(h:p:=by simp only[eP]):p:=h
def pm{p:Prop}(h:p:=by simp[au];omega):p:=h
def pp{p:Prop}(h:p:=by simp[au,ay]):p:=h
def pu{p:Prop}(h:p:=by simp[e8,aE,aF]):p:=h
def py{p:Prop}(h:p:=by simp[fresh,ay,au,bX,inObs,Pv.look,wq,c7]):p:=h
def pN{p:Prop}(h:p:=by simp[fresh,ay,au,dD,inObs,Pv.look,wq,c7]):p:=h
def qr{p:Prop}(h:p:=by simp[inObs,gR,Pv.look]):p:=h
def rc{p:Prop}(h:p:=by first|exact xa _|exact xa ‹_› _):p:=h
def rd{p:Prop}(h:p:=by first|exact xc _|exact xc ‹_› _):p:=h
def rg{p:Prop}(h:p:=by simpa only[mP,eP]using he):p:=h
def ro{p:Prop}(h:p:=by simp[fresh,ay,au,bX,inObs,Pv.look,fC,gv,Ch,Cg,Cf,Ce]):p:=h
def s7{p:Prop}(h:p:=by simp[fresh,ay,au,dD,inObs,Pv.look,fC,gv,Ch,Cg,Cf,Ce]):p:=h
def tT{p:Prop}(h:p:=by simp[aP,aE]):p:=h
def t7{p:Prop}(h:p:=by unfold eR;omega):p:=h
def ul{p:Prop}(h:p:=by simp[gS,aE,aF]):p:=h
def un{p:Prop}(h:p:=by simp[gS,aE,aF,bE.grey]):p:=h
def ut{p:Prop}(h:p:=by simp[inObs,Pv.look,e8,aE,aF]):p:=h
def uA{p:Prop}(h:p:=by simp[au,inObs,j2,Pv.look,nq]):p:=h
def vd{p:Prop}(h:p:=by simp[t3]):p:=h
def vL{p:Prop}(h:p:=by simp[t4]):p:=h
def vM{p:Prop}(h:p:=by simp[ir,iu];exact bU):p:=h
def v6{p:Prop}(h:p:=by assumption):p:=h
def wd{p:Prop}(h:p:=by unfold pF;exact aG):p:=h
def wl{p:Prop}(h:p:=by simp[jA]):p:=h
def wn{p:Prop}(h:p:=by simp[t8]):p:=h
def wt{p:Prop}(h:p:=by simp[t9]):p:=h
def ww{p:Prop}(h:p:=by decide):p:=h
def wL{p:Prop}(h:p:=by simp[jB]):p:=h
def wM{p:Prop}(h:p:=by simp[t11]):p:=h
def xu{p:Prop}(h:p:=by simp[t16]):p:=h
def yj{p:Prop}(h:p:=by simp[t22]):p:=h
def Ω{p:Prop}(h:p:=by omega):p:=h
def Ψ{p:Prop}(h:p:=by simp):p:=h
end Go
open Array renaming getElem?_toList->uh
open BitVec renaming ofInt->rN
open Bool renaming and_eq_true->cD,eq_iff_iff->rO,false_eq_true->hI
open ByteArray renaming empty->ayc,ext->atG,push->ayd,size->aco
open Go renaming Operand->jk,Program->cE,TypeId->fF
open Go.Builtin renaming append_->ui
open Go.ByteArray renaming toList_eq->atH
open Go.IntKind renaming i64->oQ
open Go.IntWalk renaming i64_in->lY
open Go.Op renaming bytesLess->h5
open Go.Result renaming andThen_ok->fE
open Go.Sem renaming run_bind->fB,run_pure->gx
open Go.Value renaming cells->nu,int->pz,ownBlock->oR
open Go.Value.pointer renaming injEq->aym
open List renaming all_eq_true->iW,cons_append->b3,eq_nil_of_length_eq_zero->vn,getElem?_append_left->rQ,getElem?_eq_getElem->cl,getElem?_eq_some_iff->fp,length_append->ga,length_cons->ik,length_drop->sO,length_nil->nv,length_take->oT,map_cons->fG,mem_append->j0,mem_cons->gj,replicate->sR,take_length->lZ,take_of_length_le->gv
open List.cons renaming injEq->pA
open Nat renaming add_mul->q2,le_refl->e2,le_trans->j1
open Ne renaming symm->lb
open Option renaming isSome_iff_exists->gk,isSome_none->ny,map_eq_some_iff->gI,map_some->nz
open Option.some renaming injEq->dz
open Prod.mk renaming injEq->hW
open UInt8 renaming ofNat->sS
open _root_ renaming ByteArray->lK,False->eF,Option->aZ,UInt8->b7,beq_iff_eq->dW,congrArg->eG,decide_eq_true_eq->e3
namespace Go.Pv
section
open Go Go.RowKit
inductive aB where
 |loc (s:Nat)
 |obj (n:Nat)
 deriving DecidableEq,Inhabited
inductive AO where
 |no
 |nil
 |own (k:aB)
 |tr (k:aB) (j:Nat)
 |lo (k:aB)
 deriving DecidableEq,Inhabited
inductive ah where
 |junk
 |int (k:IntKind) (n:Int)
 |bool (b:Bool)
 |str (s:List b7)
 |slice (sz:Nat) (tag:AO) (xs:List ah)
 |agg (cs:List ah)
 |ptr (key:aB) (off:Nat)
 |eptr (x:ah)
 |iface (t:Nat) (x:ah)
 |nilp
 |tuple (bf:List ah)
 |func (f:Nat) (cW:List ah)
 |gmap (key:aB)
 |row (sz:Nat) (key:aB) (n:Nat)
 |rptr (sz:Nat) (key:aB) (n i f:Nat)
 |hdm (clock:Nat) (borns:List Nat)
 |hdi (since:Nat) (seen:List Nat) (last:Nat)
 |cst (v:Value)
 deriving Inhabited
structure a8 where
 A:Nat->Nat->Prop
 bx:aB->aZ Nat
 ow:aB->aZ (Nat×Value)
 tr:aB->Nat->Nat->Prop
def lim:Nat:=68719476736
def lB(w:World)(A:Nat->Nat->Prop)(b:Nat):Nat->List Value->Prop
 |_,[]=>True
 |off,u::us=>(A b off/\w.cell? ⟨b,off,none⟩=some u)/\lB w A b (off+1) us
def shape(w:World)(b:Nat):aZ (Nat×fF×(Nat×Nat)):=
 match w.heap[b]? with
 |some (.cells cur el fz)=>some (cur.size,el,fz)
 |_=>none
def wX{w w':World}{b:Nat}(h:w'.heap[b]? =w.heap[b]?):shape w' b=shape w b:=by unfold shape;rw[h]
mutual
def ej(t:Bool)(w:World)(A:Nat->Nat->Prop)(F:Nat->Prop):ah->Value->Prop
 | .int k n,v=>v= .int k n
 | .bool b,v=>v= .bool b
 | .str s,v=>v= .string ⟨s.toArray⟩/\s.length<=lim
 | .slice sz _ xs,v=> ∃a cap,v= .slice a xs.length cap/\xs.length<=cap/\(cap<=maxLen/\xs.length<=lim)/\
   (xs=[]\/ ∃b off us G,a=some ⟨b,off,none⟩/\F b/\(∀c,G c->F c/\(t=true->c≠b))/\lB w A b off us/\(t=true->off=0/\0<us.length/\∃el,shape w b=some (cap*sz,el,(0,0)))/\pQ t w A G sz xs us)
 | .agg cs,v=> ∃us:Array Value,v= .agg us/\pR t w A F cs us.toList
 |_,_=>eF
def pR(t:Bool)(w:World)(A:Nat->Nat->Prop)(F:Nat->Prop):List ah->List Value->Prop
 |[],us=>us=[]
 |c::cs,us=> ∃u e d a,us=u::e/\((∀b,d b->F b)/\(∀b,a b->F b)/\(t=true->∀b,d b->¬a b))/\(ej t w A d c u/\u.oneCell'=true)/\pR t w A a cs e
def pQ(t:Bool)(w:World)(A:Nat->Nat->Prop)(F:Nat->Prop)(sz:Nat):List ah->List Value->Prop
 |[],us=>us=[]
 |x::xs,us=> ∃u e d a,us=u.cells.toList++e/\((∀b,d b->F b)/\(∀b,a b->F b)/\(t=true->∀b,d b->¬a b))/\(ej t w A d x u/\u.cells.size=sz/\(∀c∈u.cells.toList,c.oneCell'=true))/\pQ t w A a sz xs e
end
def w5(f:Nat):Nat:=f-1000000
def uB(f:Nat)(us:Array Value):Value:=if f<1000000 then .func (.func f) #[] us else .func (.func (w5 f)) us #[]
def y3{f:Nat}(h:f<1000000)(us:Array Value):uB f us= .func (.func f) #[] us:=if_pos h
def ah2{f:Nat}(h:¬f<1000000)(us:Array Value):uB f us= .func (.func (w5 f)) us #[]:=if_neg h
def ah1(m:Nat)(us:Array Value):uB (m+1000000) us= .func (.func m) us #[]:=by unfold uB w5;rw[if_neg Ω,Nat.add_sub_cancel]
mutual
def aV(w:World)(Z:a8):ah->Value->Prop
 | .junk,_=>True
 | .int k n,v=>v= .int k n
 | .bool b,v=>v= .bool b
 | .str s,v=>v= .string ⟨s.toArray⟩/\s.length<=lim
 | .slice sz tag xs,v=>
   (∃a cap,v= .slice a xs.length cap/\xs.length<=cap/\(cap<=maxLen/\xs.length<=lim)/\(xs=[]\/ ∃b off us,a=some ⟨b,off,none⟩/\lB w Z.A b off us/\dk w Z sz xs us))/\
   (tag= .nil->v= .slice none 0 0)/\
   (∀g,tag= .own g->∃n u,Z.ow g=some (n,u)/\xs.length<=n/\(xs.length=n->v=u))/\
   (∀k j,tag= .tr k j->ej true w Z.A (Z.tr k j) (.slice sz tag xs) v)/\(∀k,tag= .lo k->ej false w Z.A (Z.tr k 0) (.slice sz tag xs) v)
 | .agg cs,v=> ∃us:Array Value,v= .agg us/\c1 w Z cs us.toList
 | .ptr key off,v=> ∃b,Z.bx key=some b/\v= .pointer (some ⟨b,off,none⟩)
 | .eptr x,v=> ∃b off u,v= .pointer (some ⟨b,off,none⟩)/\aV w Z x u/\lB w Z.A b off u.cells.toList
 | .iface t x,v=> ∃u,v= .iface t u/\aV w Z x u
 | .nilp,v=>v= .pointer none
 | .tuple bf,v=> ∃us:Array Value,v= .tuple us/\cN w Z bf us.toList
 | .func f cW,v=> ∃us:Array Value,v=uB f us/\cN w Z cW us.toList
 | .gmap key,v=> ∃b,Z.bx key=some b/\v= .map (some b)
 | .row _ key n,v=>(∃b cap,v= .slice (some ⟨b,0,none⟩) n cap)/\n<=lim/\∃n' u,Z.ow key=some (n',u)/\n<=n'/\(n=n'->v=u)
 | .rptr sz key n i f,v=>(∃b o,v= .pointer (some ⟨b,o,none⟩))/\i<n/\∃n' u,Z.ow key=some (n',u)/\n<=n'/\(n=n'->∃b,u.ownBlock=some b/\v= .pointer (some ⟨b,i*sz+f,none⟩))
 | .hdm _ _,_=>eF
 | .hdi _ _ _,_=>eF
 | .cst c,v=>v=c
def c1(w:World)(Z:a8):List ah->List Value->Prop
 |[],us=>us=[]
 |c::cs,us=> ∃u a,us=u::a/\(aV w Z c u/\u.oneCell'=true)/\c1 w Z cs a
def cN(w:World)(Z:a8):List ah->List Value->Prop
 |[],us=>us=[]
 |c::cs,us=> ∃u a,us=u::a/\aV w Z c u/\cN w Z cs a
def dk(w:World)(Z:a8)(sz:Nat):List ah->List Value->Prop
 |[],us=>us=[]
 |x::xs,us=> ∃u a,us=u.cells.toList++a/\(aV w Z x u/\u.cells.size=sz/\(∀c∈u.cells.toList,c.oneCell'=true))/\dk w Z sz xs a
end
def x5{w w':World}{A A':Nat->Nat->Prop}{b:Nat}(bj:∀b o,A b o->A' b o/\w'.cell? ⟨b,o,none⟩=w.cell? ⟨b,o,none⟩):
  ∀(us:List Value) (off:Nat),lB w A b off us->lB w' A' b off us
 |[],_,_=>trivial
 |_::us,off,h=>⟨⟨(bj _ _ h.1.1).1,(bj _ _ h.1.1).2.trans h.1.2⟩,x5 bj us (off+1) h.2⟩
mutual
def y6{t:Bool}{w w':World}{A A':Nat->Nat->Prop}(bj:∀b o,A b o->A' b o/\w'.cell? ⟨b,o,none⟩=w.cell? ⟨b,o,none⟩)(f:∀b o,A b o->shape w' b=shape w b):∀(p:ah) (F d:Nat->Prop) (v:Value),(∀b,F b->d b)->ej t w A F p v->ej t w' A' d p v
 | .int k n,_,_,_,_,h=>by simp only[ej]at h⊢;exact h
 | .bool b,_,_,_,_,h=>by simp only[ej]at h⊢;exact h
 | .str s,_,_,_,_,h=>by simp only[ej]at h⊢;exact h
 | .slice sz tag xs,F,d,v,e,h=>by
  simp only[ej]at h⊢;obtain⟨a,cap,J,U,q,g⟩:=h;refine⟨a,cap,J,U,q,?_⟩;rcases g with g|⟨b,off,us,G,r,x,j,i,m,l⟩
  ·exact .inl g
  ·refine .inr ⟨b,off,us,G,r,e _ x,fun c aA=>⟨e _ (j c aA).1,(j c aA).2⟩,x5 bj _ _ i,fun aM=>?_,Hs bj f xs G G _ (fun _ h=>h) l⟩;obtain⟨f1,f2,el,f3⟩:=m aM;refine⟨f1,f2,el,?_⟩;cases us with
   |nil=>simp at f2
   |cons u us=>rw[f b off i.1.1];exact f3
 | .agg cs,F,d,v,e,h=>by simp only[ej]at h⊢;obtain⟨us,J,U⟩:=h;exact⟨us,J,Vj bj f cs F d _ e U⟩
 | .junk,_,_,_,_,h=>by simp[ej]at h
 | .ptr _ _,_,_,_,_,h=>by simp[ej]at h
 | .eptr _,_,_,_,_,h=>by simp[ej]at h
 | .iface _ _,_,_,_,_,h=>by simp[ej]at h
 | .nilp,_,_,_,_,h=>by simp[ej]at h
 | .tuple _,_,_,_,_,h=>by simp[ej]at h
 | .func _ _,_,_,_,_,h=>by simp[ej]at h
 | .gmap _,_,_,_,_,h=>by simp[ej]at h
 | .row _ _ _,_,_,_,_,h=>by simp[ej]at h
 | .rptr _ _ _ _ _,_,_,_,_,h=>by simp[ej]at h
 | .hdm _ _,_,_,_,_,h=>by simp[ej]at h
 | .hdi _ _ _,_,_,_,_,h=>by simp[ej]at h
 | .cst _,_,_,_,_,h=>by simp[ej]at h
def Vj{t:Bool}{w w':World}{A A':Nat->Nat->Prop}(bj:∀b o,A b o->A' b o/\w'.cell? ⟨b,o,none⟩=w.cell? ⟨b,o,none⟩)(i:∀b o,A b o->shape w' b=shape w b):∀(cs:List ah) (F a:Nat->Prop) (us:List Value),(∀b,F b->a b)->pR t w A F cs us->pR t w' A' a cs us
 |[],_,_,_,_,h=>by simp only[pR]at h⊢;exact h
 |c::cs,F,a,us,f,h=>by simp only[pR]at h⊢;obtain⟨u,g,e,d,J,⟨U,m,n⟩,⟨l,k⟩,j⟩:=h;exact⟨u,g,e,d,J,⟨fun b ae=>f _ (U b ae),fun b ae=>f _ (m b ae),n⟩,⟨y6 bj i c e e u (fun _ h=>h) l,k⟩,Vj bj i cs d d g (fun _ h=>h) j⟩
def Hs{t:Bool}{w w':World}{A A':Nat->Nat->Prop}(bj:∀b o,A b o->A' b o/\w'.cell? ⟨b,o,none⟩=w.cell? ⟨b,o,none⟩)(i:∀b o,A b o->shape w' b=shape w b){sz:Nat}:∀(cs:List ah) (F a:Nat->Prop) (us:List Value),(∀b,F b->a b)->pQ t w A F sz cs us->pQ t w' A' a sz cs us
 |[],_,_,_,_,h=>by simp only[pQ]at h⊢;exact h
 |c::cs,F,a,us,f,h=>by simp only[pQ]at h⊢;obtain⟨u,g,e,d,J,⟨U,m,n⟩,⟨l,k⟩,j⟩:=h;exact⟨u,g,e,d,J,⟨fun b ae=>f _ (U b ae),fun b ae=>f _ (m b ae),n⟩,⟨y6 bj i c e e u (fun _ h=>h) l,k⟩,Hs bj i cs d d g (fun _ h=>h) j⟩
end
mutual
def au(S:aB->Prop):ah->Prop
 | .slice _ tag xs=>(match tag with| .own k=>S k| .tr k _=>S k| .lo k=>S k|_=>True)/\ay S xs
 | .agg cs=>ay S cs
 | .ptr k _=>S k
 | .eptr x=>au S x
 | .iface _ x=>au S x
 | .tuple bf=>ay S bf
 | .func _ cW=>ay S cW
 | .gmap k=>S k
 | .row _ k _=>S k
 | .rptr _ k _ _ _=>S k
 |_=>True
def ay(S:aB->Prop):List ah->Prop
 |[]=>True
 |x::xs=>au S x/\ay S xs
end
mutual
def tF{S T:aB->Prop}(h:∀k,S k->T k):∀p:ah,au S p->au T p
 | .junk,_=>by simp[au]
 | .int _ _,_=>by simp[au]
 | .bool _,_=>by simp[au]
 | .str _,_=>by simp[au]
 | .slice sz tag xs,a=>by simp only[au]at a⊢;exact⟨by cases tag<;>first|trivial|exact h _ a.1,kH h xs a.2⟩
 | .agg cs,a=>by simp only[au]at a⊢;exact kH h cs a
 | .ptr k _,a=>by simp only[au]at a⊢;exact h _ a
 | .eptr x,a=>by simp only[au]at a⊢;exact tF h x a
 | .iface _ x,a=>by simp only[au]at a⊢;exact tF h x a
 | .nilp,_=>by simp[au]
 | .tuple bf,a=>by simp only[au]at a⊢;exact kH h bf a
 | .func _ cW,a=>by simp only[au]at a⊢;exact kH h cW a
 | .gmap k,a=>by simp only[au]at a⊢;exact h _ a
 | .row _ k _,a=>by simp only[au]at a⊢;exact h _ a
 | .rptr _ k _ _ _,a=>by simp only[au]at a⊢;exact h _ a
 | .hdm _ _,_=>by simp[au]
 | .hdi _ _ _,_=>by simp[au]
 | .cst _,_=>by simp[au]
def kH{S T:aB->Prop}(h:∀k,S k->T k):∀b:List ah,ay S b->ay T b
 |[],_=>by simp[ay]
 |x::xs,a=>by simp only[ay]at a⊢;exact⟨tF h x a.1,kH h xs a.2⟩
end
mutual
def Is:∀p:ah,au (fun _=>True) p
 | .junk=>by simp[au]
 | .int _ _=>by simp[au]
 | .bool _=>by simp[au]
 | .str _=>by simp[au]
 | .slice sz tag xs=>by simp only[au];exact⟨by cases tag<;>trivial,wu xs⟩
 | .agg cs=>by simp only[au];exact wu cs
 | .ptr k _=>by simp[au]
 | .eptr x=>by simp only[au];exact Is x
 | .iface _ x=>by simp only[au];exact Is x
 | .nilp=>by simp[au]
 | .tuple bf=>by simp only[au];exact wu bf
 | .func _ cW=>by simp only[au];exact wu cW
 | .gmap k=>by simp[au]
 | .row _ k _=>by simp[au]
 | .rptr _ k _ _ _=>by simp[au]
 | .hdm _ _=>by simp[au]
 | .hdi _ _ _=>by simp[au]
 | .cst _=>by simp[au]
def wu:∀a:List ah,ay (fun _=>True) a
 |[]=>by simp[ay]
 |x::xs=>by simp only[ay];exact⟨Is x,wu xs⟩
end
def gi:List Nat->List Value->List MapEntry
 |b::a,k::v::r=>⟨k,v,b⟩::gi a r
 |_,_=>[]
def jN(cs:List ah)(us:Array Value)(el:fF):Obj:=
 match cs with
 | .hdm clock borns::_=>.map (gi borns us.toList).toArray clock
 | .hdi since seen last::_=>.mapIter (match us.toList with|[.map m]=>m|_=>none) since seen.toArray last
 |_=>.cells us el
structure al1 (clock:Nat) (borns:List Nat) (r:List ah):Prop where
 len:r.length=2*borns.length
 inc:borns.Pairwise (· < ·)
 lt:∀b∈borns,b<clock
def iI(w:World)(Z:a8)(cs:List ah)(us:List Value):Prop:=
 match cs with
 | .hdm clock borns::r=>cN w Z r us/\al1 clock borns r
 | .hdi _ _ _::r=>cN w Z r us
 |cs=>c1 w Z cs us
def gN:List ah->Bool
 | .hdm _ _::_=>false
 | .hdi _ _ _::_=>false
 |_=>true
def Ak{w:World}{Z:a8}{cs:List ah}{us:List Value}(h:c1 w Z cs us):gN cs=true:=by
 unfold gN;split
 ·simp only[c1,aV]at h;obtain⟨_,_,_,⟨h,_⟩,_⟩:=h;exact h.elim
 ·simp only[c1,aV]at h;obtain⟨_,_,_,⟨h,_⟩,_⟩:=h;exact h.elim
 ·rfl
def rE{cs:List ah}(h:gN cs=true)(us:Array Value)(el:fF):jN cs us el= .cells us el:=by
 unfold gN at h;unfold jN;split at h<;>first|cases h|skip
 rfl
def qR{w:World}{Z:a8}{cs:List ah}(h:gN cs=true)(us:List Value):iI w Z cs us=c1 w Z cs us:=by
 unfold gN at h;unfold iI;split at h<;>first|cases h|skip
 rfl
structure pE (S:aB->Prop) (w:World) (Z:a8) (w':World) (Z':a8):Prop where
 A:∀b o,Z.A b o->Z'.A b o/\w'.cell? ⟨b,o,none⟩=w.cell? ⟨b,o,none⟩
 bx:∀k b,S k->Z.bx k=some b->Z'.bx k=some b
 ow:∀g n u,S g->Z.ow g=some (n,u)->∃n' fl,Z'.ow g=some (n',fl)/\(n'=n/\fl=u\/n<n')
 sh:∀b o,Z.A b o->shape w' b=shape w b
 tr:∀k j b,S k->Z.tr k j b->Z'.tr k j b
abbrev l1:=pE (fun _=>True)
mutual
def tV{S:aB->Prop}{w w':World}{Z Z':a8}(al:pE S w Z w' Z'):∀(p:ah) (v:Value),au S p->aV w Z p v->aV w' Z' p v
 | .junk,_,_,_=>by simp[aV]
 | .int k n,_,_,h=>by simp only[aV]at h⊢;exact h
 | .bool b,_,_,h=>by simp only[aV]at h⊢;exact h
 | .str s,_,_,h=>by simp only[aV]at h⊢;exact h
 | .slice sz tag xs,v,d,h=>by
  simp only[aV,au]at h d⊢;obtain⟨⟨a,cap,J,U,m,l⟩,q,z,B,A⟩:=h;refine⟨⟨a,cap,J,U,m,?_⟩,q,fun g a1=>?_,fun k j o=>?_,fun k o=>?_⟩
  ·rcases l with l|⟨b,off,us,l,z,E⟩
   ·exact .inl l
   ·exact .inr ⟨b,off,us,l,x5 al.A _ _ z,JA al sz xs us d.2 E⟩
  ·obtain⟨n,u,G,H,F⟩:=z g a1;subst a1;obtain⟨n',D,f1,f2⟩:=al.ow g n u d.1 G;refine⟨n',D,f1,?_⟩;rcases f2 with⟨rfl,rfl⟩|f2
   ·exact⟨H,F⟩
   ·exact⟨Ω,fun e=>Ω⟩
  ·have:=B k j o;subst o;exact y6 al.A al.sh _ _ _ _ (fun b=>al.tr k j b d.1) this
  ·have:=A k o;subst o;exact y6 al.A al.sh _ _ _ _ (fun b=>al.tr k 0 b d.1) this
 | .agg cs,v,d,h=>by simp only[aV,au]at h d⊢;obtain⟨us,J,U⟩:=h;exact⟨us,J,JD al cs _ d U⟩
 | .ptr key off,v,d,h=>by simp only[aV,au]at h d⊢;obtain⟨b,J,U⟩:=h;exact⟨b,al.bx _ _ d J,U⟩
 | .iface t x,v,d,h=>by simp only[aV,au]at h d⊢;obtain⟨u,J,U⟩:=h;exact⟨u,J,tV al x u d U⟩
 | .eptr x,v,d,h=>by simp only[aV,au]at h d⊢;obtain⟨b,off,u,J,U,m⟩:=h;exact⟨b,off,u,J,tV al x u d U,x5 al.A _ _ m⟩
 | .nilp,_,_,h=>by simp only[aV]at h⊢;exact h
 | .tuple bf,v,d,h=>by simp only[aV,au]at h d⊢;obtain⟨us,J,U⟩:=h;exact⟨us,J,Am al bf _ d U⟩
 | .func f cW,v,d,h=>by simp only[aV,au]at h d⊢;obtain⟨us,J,U⟩:=h;exact⟨us,J,Am al cW _ d U⟩
 | .gmap key,v,d,h=>by simp only[aV,au]at h d⊢;obtain⟨b,J,U⟩:=h;exact⟨b,al.bx _ _ d J,U⟩
 | .row sz key n,v,d,h=>by
  simp only[aV,au]at h d⊢;obtain⟨J,U,n',u,m,l,q⟩:=h;obtain⟨y,r,f1,f2⟩:=al.ow key n' u d m;refine⟨J,U,y,r,f1,?_⟩;rcases f2 with⟨rfl,rfl⟩|f2
  ·exact⟨l,q⟩
  ·exact⟨Ω,fun e=>Ω⟩
 | .rptr sz key n i f,v,d,h=>by
  simp only[aV,au]at h d⊢;obtain⟨J,U,n',u,m,l,q⟩:=h;obtain⟨y,r,f1,f2⟩:=al.ow key n' u d m;refine⟨J,U,y,r,f1,?_⟩;rcases f2 with⟨rfl,rfl⟩|f2
  ·exact⟨l,q⟩
  ·exact⟨Ω,fun e=>Ω⟩
 | .hdm _ _,_,_,h=>by simp only[aV]at h
 | .hdi _ _ _,_,_,h=>by simp only[aV]at h
 | .cst c,_,_,h=>by simp only[aV]at h⊢;exact h
def JD{S:aB->Prop}{w w':World}{Z Z':a8}(al:pE S w Z w' Z'):∀(cs:List ah) (us:List Value),ay S cs->c1 w Z cs us->c1 w' Z' cs us
 |[],_,_,h=>by simp only[c1]at h⊢;exact h
 |c::cs,us,a,h=>by simp only[c1,ay]at h a⊢;obtain⟨u,b,J,U,d⟩:=h;exact⟨u,b,J,⟨tV al c u a.1 U.1,U.2⟩,JD al cs b a.2 d⟩
def Am{S:aB->Prop}{w w':World}{Z Z':a8}(al:pE S w Z w' Z'):∀(cs:List ah) (us:List Value),ay S cs->cN w Z cs us->cN w' Z' cs us
 |[],_,_,h=>by simp only[cN]at h⊢;exact h
 |c::cs,us,a,h=>by simp only[cN,ay]at h a⊢;obtain⟨u,b,J,U,d⟩:=h;exact⟨u,b,J,tV al c u a.1 U,Am al cs b a.2 d⟩
def JA{S:aB->Prop}{w w':World}{Z Z':a8}(al:pE S w Z w' Z')(sz:Nat):∀(xs:List ah) (us:List Value),ay S xs->dk w Z sz xs us->dk w' Z' sz xs us
 |[],_,_,h=>by simp only[dk]at h⊢;exact h
 |x::xs,us,a,h=>by simp only[dk,ay]at h a⊢;obtain⟨u,b,J,⟨U,d,e⟩,c⟩:=h;exact⟨u,b,J,⟨tV al x u a.1 U,d,e⟩,JA al sz xs b a.2 c⟩
end
def aar{S:aB->Prop}{w w':World}{Z Z':a8}(al:pE S w Z w' Z'){cs:List ah}{us:List Value}(a:ay S cs)(h:iI w Z cs us):iI w' Z' cs us:=by
 unfold iI at h⊢;split
 ·simp only[ay]at a;exact⟨Am al _ _ a.2 h.1,h.2⟩
 ·simp only[ay]at a;exact Am al _ _ a.2 h
 ·rename_i J U;split at h
  ·exact absurd rfl (J _ _ _)
  ·exact absurd rfl (U _ _ _ _)
  ·exact JD al _ _ a h
section
variable {w w':World} {Z Z':a8} (al:l1 w Z w' Z')
include al
theorem wQ{p:ah}{v:Value}(h:aV w Z p v):aV w' Z' p v:=tV al p v (Is p) h
theorem aax{p:List ah}{v:List Value}(h:c1 w Z p v):c1 w' Z' p v:=JD al p v (wu p) h
theorem JG{p:List ah}{v:List Value}(h:cN w Z p v):cN w' Z' p v:=Am al p v (wu p) h
theorem qT{p:List ah}{v:List Value}(h:iI w Z p v):iI w' Z' p v:=aar al (wu p) h
theorem CJ{sz:Nat}{p:List ah}{v:List Value}(h:dk w Z sz p v):dk w' Z' sz p v:=JA al sz p v (wu p) h
end
end
section
open Go Go.RowKit
def get(k:Nat):List (Nat×ah)->ah
 |[]=>.junk
 |(i,p)::r=>if i=k then p else get k r
def put(k:Nat)(p:ah):List (Nat×ah)->List (Nat×ah)
 |[]=>[(k,p)]
 |(i,q)::r=>if i=k then(i,p)::r else(i,q)::put k p r
def look{α:Type}(k:aB):List (aB×α)->aZ α
 |[]=>none
 |(i,p)::r=>if i=k then some p else look k r
def cG{α:Type}(k:aB)(p:α):List (aB×α)->List (aB×α)
 |[]=>[(k,p)]
 |(i,q)::r=>if i=k then(i,p)::r else(i,q)::cG k p r
def pS(k j:Nat)(p:ah):∀l,get j (put k p l)=if k=j then p else get j l
 |[]=>by simp[get,put]
 |(i,q)::r=>by
  by_cases h:i=k
  ·subst h;by_cases U:i=j<;>simp[get,put,U]
  ·by_cases U:i=j
   ·subst U;simp[get,put,h,lb h]
   ·simp[get,put,h,U,pS k j p r]
def jL{α:Type}(k j:aB)(p:α):∀l,look j (cG k p l)=if k=j then some p else look j l
 |[]=>by simp[look,cG]
 |(i,q)::r=>by
  by_cases h:i=k
  ·subst h;by_cases U:i=j<;>simp[look,cG,U]
  ·by_cases U:i=j
   ·subst U;simp[look,cG,h,lb h]
   ·simp[look,cG,h,U,jL k j p r]
structure er where
 n:Nat
 el:Nat
 sz:Nat
 xs:aZ (List ah)
def PC(w:World)(Z:a8)(o:er)(v:Value)(us:List Value):Prop:=∀xs,o.xs=some xs->xs.length=o.n/\dk w Z o.sz xs us/\∀bl,v.ownBlock=some bl->∀j,¬Z.A bl j
def sy{w w':World}{Z Z':a8}(al:l1 w Z w' Z'){o:er}{v:Value}{us:List Value}(bj:∀bl,v.ownBlock=some bl->∀j,Z'.A bl j->Z.A bl j)(h:PC w Z o v us):PC w' Z' o v us:=fun xs a=>⟨(h xs a).1,CJ al (h xs a).2.1,fun bl ae j b=>(h xs a).2.2 bl ae j (bj bl ae j b)⟩
def dD(S:aB->Prop)(o:er):Prop:= ∀xs,o.xs=some xs->ay S xs
structure bn where
 t:List (Nat×ah)
 b:List (aB×List ah)
 e:List (aB×er)
 n:Nat
 o:List aB
def fresh(n:Nat)(o:List aB)(k:aB):Prop:=(match k with| .loc m=>n<=m| .obj _=>True)/\k∉o
def y5{n n':Nat}{o o':List aB}(b:n<=n')(al:∀k∈o,k∈o'){k:aB}(h:fresh n' o' k):fresh n o k:=by unfold fresh at h⊢;exact⟨by cases k<;>simp at h⊢;omega,fun a=>h.2 (al k a)⟩
def Qf(Z:a8)(b:List (aB×List ah))(e:List (aB×er))(bl:Nat):Prop:=(∃k,(look k b).isSome/\Z.bx k=some bl)\/(∃g n v,(look g e).isSome/\Z.ow g=some (n,v)/\v.ownBlock=some bl)
def F5:Nat:=137
def Kk(k:aB):={el:fF//k= .obj 861->el=F5}
structure Good (pr:Nat->Prop) (w:World) (Z:a8) (b:List (aB×List ah)) (e:List (aB×er)):Prop where
 alt:∀bl o,Z.A bl o->bl<w.heap.size
 box:∀k cs,look k b=some cs->∃(bl:Nat) (us:Array Value) (el:Kk k),Z.bx k=some bl/\pr bl/\(∀o,¬Z.A bl o)/\w.heap[bl]? =some (jN cs us el.1)/\iI w Z cs us.toList
 inj:∀k bt bl,(look k b).isSome->(look bt b).isSome->Z.bx k=some bl->Z.bx bt=some bl->k=bt
 own:∀g o,look g e=some o->∃v us,Z.ow g=some (o.n,v)/\w.ownsRow 0 o.el o.sz v o.n us/\(∀bl,v.ownBlock=some bl->pr bl/\(∀j,Z.A bl j->j<o.n*o.sz))/\PC w Z o v us
 oinj:∀g fy n n' v v' bl,(look g e).isSome->(look fy e).isSome->Z.ow g=some (n,v)->Z.ow fy=some (n',v')->v.ownBlock=some bl->v'.ownBlock=some bl->g=fy
 obx:∀g k n v bl,(look g e).isSome->(look k b).isSome->Z.ow g=some (n,v)->v.ownBlock=some bl->Z.bx k=some bl->eF
 one:∀k,Z.bx k=none\/Z.ow k=none
 otr:∀bl,Qf Z b e bl->∀k j,¬Z.tr k j bl
def Bq:List (Nat×Nat×Nat×(Value->Prop)):=((List.range 20).map fun i=>(0,i,20,fun v=>v=pz .u64 ((10 ^ i:Nat):Int)))++[]
def n7(w:World)(Z:a8):Prop:= ∀x∈Bq,Z.A x.1 x.2.1/\(∃v,w.cell? ⟨x.1,x.2.1,none⟩=some v/\x.2.2.2 v)/\∃el,shape w x.1=some (x.2.2.1,el)
structure fb where
 w0:World
 Z0:a8
 mt:Nat->Prop
 N:Nat
 ob:List aB
 gl:n7 w0 Z0
 ex:List (ah×Value)
def fb.pr(C:fb)(bl:Nat):Prop:=C.mt bl\/C.w0.heap.size<=bl
def vg:aB:= .obj 990001
def gC:aB:= .obj 990002
structure ql (C:fb) (w:World) (Z:a8):Prop where
 os:w.os=C.w0.os
 tape:w.tape=C.w0.tape
 output:w.output=C.w0.output
 size:C.w0.heap.size<=w.heap.size
 block:∀k,k<C.w0.heap.size->¬C.mt k->w.heap[k]? =C.w0.heap[k]?
 keep:∀b o,C.Z0.A b o->Z.A b o/\w.cell? ⟨b,o,none⟩=C.w0.cell? ⟨b,o,none⟩
 fresh:∀b o,Z.A b o->C.Z0.A b o\/C.pr b
 obj:∀n b,C.Z0.bx (.obj n)=some b->Z.bx (.obj n)=some b
 obn:∀n b,C.Z0.bx (.obj n)=some b-> .obj n∈C.ob
 row:∀m n u,C.Z0.ow (.obj m)=some (n,u)->∃n' fl,Z.ow (.obj m)=some (n',fl)/\(n'=n/\fl=u\/n<n')
 obr:∀m n u,C.Z0.ow (.obj m)=some (n,u)-> .obj m∈C.ob
 trd:∀k j bt dj b,Z.tr k j b->Z.tr bt dj b->k=bt/\j=dj
 trb:∀k j b,Z.tr k j b->(k=vg\/C.w0.heap.size<=b)/\b<w.heap.size
 trn:∀k j b,Z.tr k j b->Z.bx k=none/\Z.ow k=none
 sh:∀b o,C.Z0.A b o->shape w b=shape C.w0 b
 nrow:∀j n u b,Z.ow (.loc j)=some (n,u)->u.ownBlock=some b->C.w0.heap.size<=b
def ql.gl{C:fb}{w:World}{Z:a8}(h:ql C w Z):n7 w Z:=fun x a=>⟨(h.keep _ _ (C.gl x a).1).1,(C.gl x a).2.1.imp fun _ b=>⟨(h.keep _ _ (C.gl x a).1).2.trans b.1,b.2⟩,(C.gl x a).2.2.imp fun _ b=>(h.sh _ _ (C.gl x a).1).trans b⟩
def FQ{Z Z':a8}{g:aB}{n:Nat}{u:Value}(h:∃n' a,Z.ow g=some (n',a)/\(n'=n/\a=u\/n<n'))(al:∀n u,Z.ow g=some (n,u)->∃n' a,Z'.ow g=some (n',a)/\(n'=n/\a=u\/n<n')):
  ∃n' a,Z'.ow g=some (n',a)/\(n'=n/\a=u\/n<n'):=by
 obtain⟨e,d,i,b⟩:=h;obtain⟨f,c,f1,f2⟩:=al e d i;refine⟨f,c,f1,?_⟩;rcases b with⟨rfl,rfl⟩|b
 ·exact f2
 ·rcases f2 with⟨rfl,rfl⟩|f2
  ·exact .inr b
  ·exact .inr Ω
structure cZ (C:fb) (st:bn) (a:Act) (w:World) (Z:a8):Prop where
 good:Good C.pr w Z st.b st.e
 fr:ql C w Z
 defers:a.defers=[]
 size:a.tmps.size=C.N
 slot:∀i,aV w Z (get i st.t) (a.tmps.getD i undef)
 new:∀k,fresh st.n st.o k->Z.bx k=none/\Z.ow k=none/\∀j b,¬Z.tr k j b
 ext:∀x∈C.ex,aV w Z x.1 x.2/\au (fun k=>k∈C.ob) x.1
 obk:∀m∈C.ob,¬fresh st.n st.o m
def eY(d:aZ Nat)(p:ah)(t:List (Nat×ah)):List (Nat×ah):=
 match d with
 |some d=>put d p t
 |none=>t
def h9(N:Nat)(d:aZ Nat):Bool:=match d with|some d=>decide (d<N)|none=>true
def cZ.put{C:fb}{st:bn}{a:Act}{w:World}{Z:a8}(h:cZ C st a w Z){d:aZ Nat}(f:h9 C.N d=true){p:ah}{v:Value}(c:aV w Z p v):
  cZ C {st with t:=eY d p st.t} (a.put d v) w Z:=by
 cases d with
 |none=>exact h
 |some d=>
  have b:d<a.tmps.size:=by rw[h.size];simpa[h9]using f
  refine⟨h.good,h.fr,h.defers,by simpa[Act.put]using h.size,fun i=>?_,h.new,h.ext,h.obk⟩;simp only[eY,pS];by_cases e:d=i
  ·subst e;simpa[Act.put,Array.getD_eq_getD_getElem?,b]using c
  ·have:=h.slot i;simpa[e,Act.put,Array.getD_eq_getD_getElem?,Array.getElem?_setIfInBounds_ne e]using this
def cZ.over{C:fb}{st st':bn}{a:Act}{w w':World}{Z Z':a8}(h:cZ C st a w Z)(al:l1 w Z w' Z')(aM:st'.t=st.t)(a1:Good C.pr w' Z' st'.b st'.e)(c:ql C w' Z')
  (f:∀k,fresh st'.n st'.o k->Z'.bx k=none/\Z'.ow k=none/\∀j b,¬Z'.tr k j b) (e:∀m,fresh st'.n st'.o m->fresh st.n st.o m:=by exact fun _ h=>h):cZ C st' a w' Z':=
 ⟨a1,c,h.defers,h.size,fun i=>by rw[aM];exact wQ al (h.slot i),f,fun x d=>⟨wQ al (h.ext x d).1,(h.ext x d).2⟩,fun m hm c=>h.obk m hm (e m c)⟩
inductive dv where
 |t (i:Nat)
 |c (p:ah)
 deriving Inhabited
def cg(t:List (Nat×ah)):dv->ah
 | .t i=>get i t
 | .c p=>p
def GK:ah->Value->Bool
 | .int k n,.int a n'=>decide (k=a/\n=n')
 | .bool b,.bool cf=>b==cf
 | .str s,.string l=>decide (l.data.toList=s/\s.length<=lim)
 | .slice _ .nil [],.slice none 0 0=>true
 | .nilp,.pointer none=>true
 | .tuple [],.tuple ⟨[]⟩=>true
 | .func f [],.func (.func g) ⟨[]⟩ ⟨[]⟩=>decide (f=g/\f<1000000)
 | .junk,_=>true
 |_,_=>false
def RK(w:World)(Z:a8){p:ah}{v:Value}(h:GK p v=true):aV w Z p v:=by
 unfold GK at h;split at h
 ·simp at h;obtain⟨rfl,rfl⟩:=h;simp[aV]
 ·simp at h;subst h;simp[aV]
 ·rename_i s l;simp at h;obtain⟨J,U⟩:=h;refine⟨?_,U⟩;subst J;simp
 ·simp only[aV];refine⟨⟨none,0,rfl,Ψ,Ψ,Ψ⟩,Ψ,(fun _ h=>by cases h),(fun _ _ h=>by cases h),(fun _ h=>by cases h)⟩
 ·simp[aV]
 ·simp[aV,cN]
 ·simp at h;obtain⟨rfl,h⟩:=h;simp[aV,cN,uB,h]
 ·simp[aV]
 ·cases h
def AZ:List ah->List Value->Bool
 |[],[]=>true
 |p::a,v::bf=>GK p v&&v.oneCell'&&AZ a bf
 |_,_=>false
def AY:ah->Value->Bool
 | .agg cs,.agg us=>AZ cs us.toList
 |p,v=>GK p v
def RL(w:World)(Z:a8):∀(a:List ah) (bf:List Value),AZ a bf=true->c1 w Z a bf
 |[],[],_=>by simp[c1]
 |[],_::_,h=>by simp[AZ]at h
 |_::_,[],h=>by simp[AZ]at h
 |p::a,v::bf,h=>by simp only[AZ,cD]at h;simp only[c1];exact⟨v,bf,rfl,⟨RK w Z h.1.1,h.1.2⟩,RL w Z a bf h.2⟩
def KR(w:World)(Z:a8){p:ah}{v:Value}(h:AY p v=true):aV w Z p v:=by
 unfold AY at h;split at h
 ·simp only[aV];exact⟨_,rfl,RL w Z _ _ h⟩
 ·exact RK w Z h
def eC:dv->jk->Bool
 | .t i,.tmp j=>i==j
 | .c p,.const v=>AY p v
 | .c (.func f []),.func g=>decide (f=g/\f<1000000)
 |_,_=>false
def eD{C:fb}{st:bn}{a:Act}{w:World}{Z:a8}(h:cZ C st a w Z){x:dv}{o:jk}(b:eC x o=true):aV w Z (cg st.t x) (a.eval o):=by
 unfold eC at b;split at b
 ·simp at b;subst b;simpa[cg,Act.eval]using h.slot _
 ·simpa[cg,Act.eval]using KR w Z b
 ·simp at b;obtain⟨rfl,b⟩:=b;simp[cg,Act.eval,aV,cN,uB,b]
 ·cases b
inductive De where
 |int (k:IntKind)
 |bool
 |str
 |slice (e:Nat)
 |struct (eg:List (Nat×Nat))
 |map (k e:Nat)
 |other
 |iface
 deriving DecidableEq
structure eJ where
 size:Nat
 bytes:Nat
 kind:De
 zero:ah
def De.isAgg:De->Bool
 | .struct _=>true
 |_=>false
def C2:List ah->List Value->Bool
 |[],[]=>true
 |p::a,v::bf=>AY p v&&v.oneCell'&&C2 a bf
 |_,_=>false
def AI:ah->Value->Bool
 | .agg cs,.agg us=>C2 cs us.toList
 | .agg _,_=>false
 |p,v=>AY p v&&v.oneCell'
def kv:De->TypeDesc->Bool
 | .int k,.int b=>decide (k=b)
 | .bool,.bool=>true
 | .str,.string=>true
 | .slice e,.slice a=>e==a
 | .struct c,.struct gs=>decide (gs.toList.map (fun f=>(f.offset,f.type))=c)
 | .map k e,.map b a=>k==b&&e==a
 | .iface,.interface _=>true
 | .other,d=>match d with| .struct _| .array _ _| .int _| .bool| .string| .slice _=>false|_=>true
 |_,_=>false
def U7(P:cE)(gs:Array Field):Bool:=gs.toList.all fun f=>match P.underlying f.type with|some (.int _)=>true|some .string=>true|_=>false
def T8(P:cE)(t:Nat)(gs:Array Field):Bool:=gs.toList.all (fun f=>f.name != "_")&& !P.stoodInHeld t&& !P.eqGuardType P.depth t
def Lk(P:cE)(t:Nat):TypeDesc->Bool
 | .struct gs=> !U7 P gs||T8 P t gs
 |_=>true
def Qp(P:cE)(t:Nat)(f:eJ):Bool:=
 match P.info? t,P.underlying t with
 |some i,some d=>Lk P t d&&i.size==f.size&&i.bytes==f.bytes&&kv f.kind d&&(match i.zero with|some z=>AI f.zero z&&z.cells.size==f.size|none=>false)
 |_,_=>false
def hl(P:cE)(aT:List (Nat×eJ)):Bool:=(aT.all fun x=>Qp P x.1 x.2)&&decide (P.funcs.size<=1000000)
def hl.sz{P:cE}{aT:List (Nat×eJ)}(h:hl P aT=true):P.funcs.size<=1000000:=by unfold hl at h;rw[cD,e3]at h;exact h.2
def eo(aT:List (Nat×eJ))(t:Nat):aZ eJ:=(aT.find? fun x=>x.1==t).map (·.2)
def arH{P:cE}{aT:List (Nat×eJ)}(h:hl P aT=true){t:Nat}{f:eJ}(b:eo aT t=some f):Qp P t f=true:=by
 unfold eo at b;cases a:aT.find? fun x=>x.1==t with
 |none=>simp[a]at b
 |some x=>simp[a]at b;have J:=List.find?_some a;simp at J;have U:=List.mem_of_find?_eq_some a;have c:=iW.1 (by unfold hl at h;rw[cD]at h;exact h.1) x U;rw[<-b,<-J];exact c
structure acR (P:cE) (t:Nat) (f:eJ):Prop where
 cmp:∀d,P.underlying t=some d->Lk P t d=true
 ex:∃i d z,P.info? t=some i/\P.underlying t=some d/\i.size=f.size/\i.bytes=f.bytes/\kv f.kind d=true/\i.zero=some z/\AI f.zero z=true/\z.cells.size=f.size
def vj{P:cE}{aT:List (Nat×eJ)}(h:hl P aT=true){t:Nat}{f:eJ}(k:eo aT t=some f):acR P t f:=by
 have h:=arH h k;unfold Qp at h;split at h
 ·rename_i i d J U;simp only[cD,dW]at h;obtain⟨⟨⟨⟨c,j⟩,l⟩,g⟩,a⟩:=h;split at a
  ·rename_i z e;simp only[cD,dW]at a;exact⟨fun m b=>by rw[U]at b;cases b;exact c,i,d,z,J,U,j,l,g,e,a.1,a.2⟩
  ·cases a
 ·cases h
def pK(b o j:Nat):(⟨b,o,none⟩:Addr).add j=⟨b,o+j,none⟩:=by
 unfold Addr.add;split
 ·rename_i h;subst h;rfl
 ·rfl
def QQ(w:World)(Z:a8):∀(a:List ah) (bf:List Value),C2 a bf=true->c1 w Z a bf
 |[],[],_=>by simp[c1]
 |[],_::_,h=>by simp[C2]at h
 |_::_,[],h=>by simp[C2]at h
 |p::a,v::bf,h=>by simp only[C2,cD]at h;simp only[c1];exact⟨v,bf,rfl,⟨KR w Z h.1.1,h.1.2⟩,QQ w Z a bf h.2⟩
def cells:ah->List ah
 | .agg cs=>cs
 |p=>[p]
def fh:ah->Bool
 | .junk| .tuple _=>false
 | .cst (.slice _ _ _)| .cst (.string _)=>true
 | .cst _=>false
 |_=>true
def Py{w:World}{Z:a8}{p:ah}{v:Value}(h:aV w Z p v)(d:fh p=true)(e:∀cs,p≠ .agg cs):v.oneCell'=true/\v.cells= #[v]:=by
 cases p<;>simp only[aV,fh]at h d;case junk=>cases d
 case tuple=>cases d
 case cst c=>subst h;cases v<;>first|exact⟨rfl,rfl⟩|cases d
 case agg cs=>exact absurd rfl (e cs)
 case int=>subst h;exact⟨rfl,rfl⟩
 case bool=>subst h;exact⟨rfl,rfl⟩
 case str=>rw[h.1];exact⟨rfl,rfl⟩
 case slice=>obtain⟨⟨a,cap,J,_⟩,_⟩:=h;subst J;exact⟨rfl,rfl⟩
 case ptr=>obtain⟨b,_,J⟩:=h;subst J;exact⟨rfl,rfl⟩
 case eptr=>obtain⟨b,o,u,J,_⟩:=h;subst J;exact⟨rfl,rfl⟩
 case iface=>obtain⟨u,J,_⟩:=h;subst J;exact⟨rfl,rfl⟩
 case nilp=>subst h;exact⟨rfl,rfl⟩
 case func=>obtain⟨us,J,_⟩:=h;subst J;unfold uB;split<;>exact⟨rfl,rfl⟩
 case gmap=>obtain⟨b,_,J⟩:=h;subst J;exact⟨rfl,rfl⟩
 case row=>obtain⟨⟨a,cap,J⟩,_⟩:=h;subst J;exact⟨rfl,rfl⟩
 case rptr=>obtain⟨⟨a,o,J⟩,_⟩:=h;subst J;exact⟨rfl,rfl⟩
def wP{w:World}{Z:a8}{p:ah}{v:Value}(h:aV w Z p v)(c:fh p=true):c1 w Z (cells p) v.cells.toList:=by
 by_cases b:∃cs,p= .agg cs
 ·obtain⟨cs,rfl⟩:=b;simp only[aV]at h;obtain⟨us,rfl,U⟩:=h;simpa[cells,nu]using U
 ·have a:∀cs,p≠ .agg cs:=fun cs e=>b ⟨cs,e⟩;obtain⟨J,U⟩:=Py h c a;have aA:cells p=[p]:=by cases p<;>first|rfl|exact absurd rfl (a _)
  rw[aA,U];simp only[c1];exact⟨v,[],rfl,⟨h,J⟩,rfl⟩
def CL{w:World}{Z:a8}:∀{a:List ah} {bf:List Value},c1 w Z a bf->∀c∈bf,c.oneCell'=true
 |[],bf,h=>by simp only[c1]at h;subst h;simp
 |p::a,bf,h=>by
  simp only[c1]at h;obtain⟨u,b,rfl,J,U⟩:=h;intro c aA;rcases gj.1 aA with rfl|aA
  ·exact J.2
  ·exact CL U c aA
def qU{w:World}{Z:a8}:∀{a:List ah} {bf:List Value},c1 w Z a bf->bf.length=a.length
 |[],bf,h=>by simp only[c1]at h;subst h;rfl
 |p::a,bf,h=>by simp only[c1]at h;obtain⟨u,b,rfl,_,U⟩:=h;simp[qU U]
def CK{w:World}{Z:a8}:∀(n:Nat) {a:List ah} {bf:List Value},c1 w Z a bf->c1 w Z (a.drop n) (bf.drop n)
 |0,_,_,h=>by simpa using h
 |n+1,[],bf,h=>by simp only[c1]at h;subst h;simp[c1]
 |n+1,p::a,bf,h=>by simp only[c1]at h;obtain⟨u,b,rfl,_,U⟩:=h;simpa using CK n U
def FM{w:World}{Z:a8}:∀(n:Nat) {a:List ah} {bf:List Value},c1 w Z a bf->c1 w Z (a.take n) (bf.take n)
 |0,_,_,_=>by simp[c1]
 |n+1,[],bf,h=>by simp only[c1]at h;subst h;simp[c1]
 |n+1,p::a,bf,h=>by simp only[c1]at h;obtain⟨u,b,rfl,J,U⟩:=h;simp only[List.take_succ_cons,c1];exact⟨u,_,rfl,J,FM n U⟩
def Aj{w:World}{Z:a8}:∀{a b1:List ah} {bf us:List Value},c1 w Z a bf->c1 w Z b1 us->c1 w Z (a++b1) (bf++us)
 |[],b1,bf,us,h,b=>by simp only[c1]at h;subst h;simpa using b
 |p::a,b1,bf,us,h,b=>by simp only[c1]at h;obtain⟨u,c,rfl,J,U⟩:=h;simp only[b3,c1];exact⟨u,_,rfl,J,Aj U b⟩
def FL{w:World}{Z:a8}:∀(n:Nat) {b:List ah} {bf:List Value} {p:ah},c1 w Z b bf->b[n]? =some p->∃v,bf[n]? =some v/\aV w Z p v/\v.oneCell'=true
 |n,[],_,p,_,a=>by simp at a
 |0,q::b,bf,p,h,a=>by simp only[c1]at h;obtain⟨u,c,rfl,J,_⟩:=h;simp at a;subst a;exact⟨u,rfl,J.1,J.2⟩
 |n+1,q::b,bf,p,h,a=>by simp only[c1]at h;obtain⟨u,c,rfl,_,U⟩:=h;simpa using FL n U (by simpa using a)
def JE{w:World}{Z:a8}:∀(n:Nat) {b:List ah} {bf:List Value} {p:ah},cN w Z b bf->b[n]? =some p->∃v,bf[n]? =some v/\aV w Z p v
 |n,[],_,p,_,a=>by simp at a
 |0,q::b,bf,p,h,a=>by simp only[cN]at h;obtain⟨u,c,rfl,J,_⟩:=h;simp at a;subst a;exact⟨u,rfl,J⟩
 |n+1,q::b,bf,p,h,a=>by simp only[cN]at h;obtain⟨u,c,rfl,_,U⟩:=h;simpa using JE n U (by simpa using a)
def wy{w:World}{A:Nat->Nat->Prop}{b:Nat}:∀{us:List Value} {off j:Nat} {u:Value},lB w A b off us->us[j]? =some u->A b (off+j)/\w.cell? ⟨b,off+j,none⟩=some u
 |[],_,_,_,_,h=>by simp at h
 |x::us,off,0,u,a,h=>by simp at h;subst h;exact a.1
 |x::us,off,j+1,u,a,h=>by have:=wy (j:=j) a.2 (by simpa using h);rwa[show off+1+j=off+(j+1)from by omega]at this
def Iv{w:World}{A:Nat->Nat->Prop}{b:Nat}:∀(n:Nat) {us:List Value} {off:Nat},lB w A b off us->lB w A b (off+n) (us.drop n)
 |0,_,_,h=>by simpa using h
 |n+1,[],_,_=>by simp[lB]
 |n+1,x::us,off,h=>by have:=Iv n h.2;rw[show off+(n+1)=off+1+n from by omega];simpa using this
def Ix{w:World}{A:Nat->Nat->Prop}{b:Nat}:∀(n:Nat) {us:List Value} {off:Nat},lB w A b off us->lB w A b off (us.take n)
 |0,_,_,_=>by simp[lB]
 |n+1,[],_,_=>by simp[lB]
 |n+1,x::us,off,h=>by simp only[List.take_succ_cons];exact⟨h.1,Ix n h.2⟩
def aaL{P:cE}{w:World}{A:Nat->Nat->Prop}{b off:Nat}{us:List Value}(h:lB w A b off us):(loadCells ⟨b,off,none⟩ us.length).run P w= .ok us.toArray w:=run_loadCells_list w _ us fun j v a=>by rw[pK];exact(wy h a).2
def aqz{P:cE}{w:World}{b off n:Nat}{us:Array Value}{el:fF}{fr:Nat×Nat}(h:w.heap[b]? =some (.cells us el fr))(e:off+n<=us.size):
  (loadCells ⟨b,off,none⟩ n).run P w= .ok ((us.toList.drop off).take n).toArray w:=by
 have d:((us.toList.drop off).take n).length=n:=by simp;omega
 have:=run_loadCells_list (P:=P) w ⟨b,off,none⟩ ((us.toList.drop off).take n) fun j v c=>by
  rw[pK];have a:j<n:=by have:=(fp.1 c).1;omega
  simp only[World.cell?,h,ny,hI,if_false];rw[List.getElem?_take]at c;simpa[a]using c
 rw[d]at this;exact this
def Uq{α:Type}(l r:List α)(n sz:Nat)(h:l.length=sz):(l++r).drop ((n+1)*sz)=r.drop (n*sz):=by
 have e:(n+1)*sz=l.length+n*sz:=by rw[h,Nat.succ_mul,Nat.add_comm]
 rw[e,<-List.drop_drop];simp
def abd{α:Type}(l r:List α)(n sz:Nat)(h:l.length=sz):(l++r).take ((n+1)*sz)=l++r.take (n*sz):=by
 have e:(n+1)*sz=l.length+n*sz:=by rw[h,Nat.succ_mul,Nat.add_comm]
 rw[e,List.take_length_add_append]
def Jz{w:World}{Z:a8}{sz:Nat}:∀(i:Nat) {xs:List ah} {us:List Value} {p:ah},dk w Z sz xs us->xs[i]? =some p->
  ∃u,aV w Z p u/\u.cells.size=sz/\u.cells.toList=(us.drop (i*sz)).take sz
 |i,[],_,p,_,a=>by simp at a
 |0,x::xs,us,p,h,a=>by
  simp only[dk]at h;obtain⟨u,b,rfl,⟨J,U,d⟩,_⟩:=h;simp at a;subst a;refine⟨u,J,U,?_⟩;have:u.cells.toList.length=sz:=by simpa using U
  simp[<-this]
 |i+1,x::xs,us,p,h,a=>by
  simp only[dk]at h;obtain⟨u,b,rfl,⟨_,U,_⟩,c⟩:=h;obtain⟨v,g1,g2,g3⟩:=Jz i c (by simpa using a);refine⟨v,g1,g2,?_⟩;have:u.cells.toList.length=sz:=by simpa using U
  rw[g3,Uq _ _ _ _ this]
def sx{w:World}{Z:a8}{sz:Nat}:∀{xs:List ah} {us:List Value},dk w Z sz xs us->us.length=xs.length*sz
 |[],us,h=>by simp only[dk]at h;subst h;simp
 |x::xs,us,h=>by
  simp only[dk]at h;obtain⟨u,b,rfl,⟨_,U,_⟩,a⟩:=h;have:u.cells.toList.length=sz:=by simpa using U
  rw[ga,this,sx a,ik,Nat.succ_mul];omega
def Ai{w:World}{Z:a8}{sz:Nat}:∀{xs:List ah} {us:List Value},dk w Z sz xs us->∀c∈us,c.oneCell'=true
 |[],us,h=>by simp only[dk]at h;subst h;simp
 |x::xs,us,h=>by
  simp only[dk]at h;obtain⟨u,d,rfl,⟨_,_,b⟩,a⟩:=h;intro c aA;rcases j0.1 aA with aA|aA
  ·exact b c aA
  ·exact Ai a c aA
def CI{w:World}{Z:a8}{sz:Nat}:∀{a b1:List ah} {bf us:List Value},dk w Z sz a bf->dk w Z sz b1 us->dk w Z sz (a++b1) (bf++us)
 |[],b1,bf,us,h,b=>by simp only[dk]at h;subst h;simpa using b
 |p::a,b1,bf,us,h,b=>by simp only[dk]at h;obtain⟨u,c,rfl,J,U⟩:=h;simp only[b3,dk];exact⟨u,c++us,Ψ,J,CI U b⟩
def aat{w:World}{Z:a8}{sz:Nat}:∀(n:Nat) {xs:List ah} {us:List Value},dk w Z sz xs us->dk w Z sz (xs.drop n) (us.drop (n*sz))
 |0,_,_,h=>by simpa using h
 |n+1,[],us,h=>by simp only[dk]at h;subst h;simp[dk]
 |n+1,x::xs,us,h=>by
  simp only[dk]at h;obtain⟨u,b,rfl,⟨_,U,_⟩,a⟩:=h;have:u.cells.toList.length=sz:=by simpa using U
  rw[Uq _ _ _ _ this];simpa using aat n a
def aaw{w:World}{Z:a8}{sz:Nat}:∀(n:Nat) {xs:List ah} {us:List Value},dk w Z sz xs us->dk w Z sz (xs.take n) (us.take (n*sz))
 |0,_,_,_=>by simp[dk]
 |n+1,[],us,h=>by simp only[dk]at h;subst h;simp[dk]
 |n+1,x::xs,us,h=>by
  simp only[dk]at h;obtain⟨u,a,rfl,⟨J,U,c⟩,b⟩:=h;have:u.cells.toList.length=sz:=by simpa using U
  simp only[List.take_succ_cons,dk];refine⟨u,a.take (n*sz),?_,⟨J,U,c⟩,aaw n b⟩;rw[abd _ _ _ _ this]
def isAgg(sz:Nat)(p:ah):Prop:= ∃cs,p= .agg cs/\cs.length=sz
def Ap(agg:Bool)(sz b n i f:Nat):aZ er->aZ (Prop×ah)
 |some ⟨n',_,a,some xs⟩=>if n'=n/\a=b then
   (match xs[i]? with
    |some p=>if agg then some (fh p=true/\f+sz<=(cells p).length,.agg (((cells p).drop f).take sz))else((cells p)[f]?).map fun q=>(fh p=true,q)
    |none=>none)else none
 |_=>none
def nR(b:List (aB×List ah))(e:List (aB×er))(agg:Bool)(sz:Nat):ah->aZ (Prop×ah)
 | .rptr a k n i f=>Ap agg sz a n i f (look k e)
 | .ptr k off=>
  match look k b with
  |some cs=>if agg then some (gN cs=true/\off+sz<=cs.length,.agg ((cs.drop off).take sz))else(cs[off]?).map fun p=>(gN cs=true,p)
  |none=>none
 | .eptr p=>if agg then some (isAgg sz p,p)else some (fh p=true/\cells p=[p],p)
 |_=>none
def DQ(agg:Bool)(sz:Nat):ah->aZ (Prop×ah)
 | .eptr p=>if agg then some (isAgg sz p,p)else some (fh p=true/\cells p=[p],p)
 |_=>none
def aia{b:List (aB×List ah)}{e:List (aB×er)}{agg:Bool}{sz:Nat}{p:ah}{r:Prop×ah}(h:DQ agg sz p=some r):nR b e agg sz p=some r:=by
 cases p<;>simp only[DQ]at h<;>first|cases h;done|skip
 simpa only[nR]using h
def alU{b:List (aB×List ah)}{e:List (aB×er)}{agg:Bool}{sz:Nat}{p:ah}{r:Prop×ah}(h:nR b [] agg sz p=some r):nR b e agg sz p=some r:=by cases p<;>simp only[nR]at h⊢ <;>first|exact h|(simp[look,Ap]at h)
def s8(off:Nat)(agg:Bool)(sz:Nat):ah->aZ (Prop×ah)
 | .ptr k o=>some (True,.ptr k (o+off))
 | .rptr a k n i f=>some (True,.rptr a k n i (f+off))
 | .eptr (.agg cs)=>if agg then some (off+sz<=cs.length,.eptr (.agg ((cs.drop off).take sz)))else(cs[off]?).map fun p=>(fh p=true/\cells p=[p],.eptr p)
 |_=>none
def vN(off:Nat)(agg:Bool)(sz:Nat):ah->aZ (Prop×ah)
 | .agg cs=>if agg then some (off+sz<=cs.length,.agg ((cs.drop off).take sz))else(cs[off]?).map fun p=>(True,p)
 |_=>none
def BX(sz:Nat):ah->ah->aZ (Prop×ah)
 | .slice a _ xs,.int _ i=>if a=sz then some (0<=i/\i<xs.length,.eptr (xs.getD i.toNat .junk))else none
 | .row a k n,.int _ i=>if a=sz then some (0<=i/\i<n,.rptr a k n i.toNat 0)else none
 |_,_=>none
def JP:ah->ah->aZ (Prop×ah)
 | .str s,.int _ i=>some (0<=i/\i<s.length,.int .u8 (s.getD i.toNat 0).toNat)
 |_,_=>none
def ss(a:Int):aZ ah->aZ Int
 |none=>some a
 |some (.int _ i)=>some i
 |_=>none
def JU(x:ah)(lo hi:aZ ah):aZ (Prop×ah):=
 match x with
 | .str s=>match ss 0 lo,ss s.length hi with
  |some l,some h=>some (0<=l/\l<=h/\h<=s.length,.str ((s.take h.toNat).drop l.toNat))
  |_,_=>none
 |_=>none
def ID(sz:Nat)(x:ah)(lo hi:aZ ah):aZ (Prop×ah):=
 match x with
 | .slice a _ xs=>if a=sz then match ss 0 lo,ss xs.length hi with
  |some l,some h=>some (0<=l/\l<=h/\h<=xs.length,.slice sz .no ((xs.take h.toNat).drop l.toNat))
  |_,_=>none else none
 |_=>none
def eR(n:Int):Prop:= -9223372036854775808<=n/\n<=9223372036854775807
def Ie(op:BinOp)(wr:Bool)(k:IntKind)(a b:Int):aZ (Prop×ah):=
 match op with
 | .add=>if wr then some (True,.int k (k.wrap (a+b)))else some (k= .i64/\eR (a+b),.int .i64 (a+b))
 | .sub=>if wr then some (True,.int k (k.wrap (a-b)))else some (k= .i64/\eR (a-b),.int .i64 (a-b))
 | .mul=>if wr then some (True,.int k (k.wrap (a*b)))else some (k= .i64/\eR (a*b),.int .i64 (a*b))
 | .quo=>some (b≠0,.int k (k.wrap (a.tdiv b)))
 | .rem=>some (b≠0,.int k (a.tmod b))
 | .eql=>some (True,.bool (a==b))
 | .neq=>some (True,.bool (a !=b))
 | .lss=>some (True,.bool (decide (a<b)))
 | .leq=>some (True,.bool (decide (a<=b)))
 | .gtr=>some (True,.bool (decide (b<a)))
 | .geq=>some (True,.bool (decide (b<=a)))
 | .and=>some (True,.int k (k.wrap (rN k.bits a&&& rN k.bits b).toNat))
 | .or=>some (True,.int k (k.wrap (rN k.bits a|||rN k.bits b).toNat))
 | .xor=>some (True,.int k (k.wrap (rN k.bits a ^^^ rN k.bits b).toNat))
 |_=>none
def JX(op:BinOp)(a b:List b7):aZ (Prop×ah):=
 match op with
 | .add=>some (a.length+b.length<=lim,.str (a++b))
 | .eql=>some (True,.bool (a==b))
 | .neq=>some (True,.bool (!(a==b)))
 | .lss=>some (True,.bool (h5 a b))
 | .leq=>some (True,.bool (h5 a b||a==b))
 | .gtr=>some (True,.bool (!(h5 a b||a==b)))
 | .geq=>some (True,.bool (!h5 a b))
 |_=>none
def Dm(op:BinOp)(wr:Bool):ah->ah->aZ (Prop×ah)
 | .int k a,.int c b=>match op with
  | .shl=>some (0<=b,.int k (k.wrap (a*2 ^ (min b.toNat k.bits))))
  | .shr=>some (0<=b,.int k (a.fdiv (2 ^ (min b.toNat k.bits))))
  |_=>if k=c then Ie op wr k a b else none
 | .str a,.str b=>JX op a b
 |_,_=>none
def po(cs:List ah)(off:Nat)(a:List ah):List ah:=cs.take off++a++cs.drop (off+a.length)
def vD(t:List (Nat×ah)):List ah->List (Nat×Nat×dv)->aZ (Prop×List ah)
 |cs,[]=>some (True,cs)
 |cs,(off,sz,x)::r=>
  let p:=cg t x
  match vD t (po cs off (cells p)) r with
  |some (c,cs')=>some ((fh p=true/\(cells p).length=sz/\off+sz<=cs.length)/\c,cs')
  |none=>none
def Jc(c x y:ah):aZ (Prop×ah):=
 match c with
 | .bool b=>match x,y with
  | .bool u,.bool v=>some (True,.bool (cond b u v))
  |p,q=>match b with
   |true=>some (True,p)
   |false=>some (True,q)
 |_=>none
def IX:ah->aZ (Prop×ah)
 | .bool b=>some (True,.bool (!b))
 |_=>none
def IQ:ah->aZ (Prop×ah)
 | .int k n=>some (True,.int k (k.wrap (0-n)))
 |_=>none
def Bc(i:Nat):ah->aZ (Prop×ah)
 | .tuple bf=>(bf[i]?).map fun p=>(True,p)
 |_=>none
def B8:ah->aZ (Prop×ah)
 | .slice _ _ xs=>some (True,.int .i64 xs.length)
 | .row _ _ n=>some (True,.int .i64 n)
 | .cst (.slice _ n _)=>some (True,.int .i64 n)
 |_=>none
def FW:ah->aZ (Prop×ah)
 | .str s=>some (True,.int .i64 s.length)
 | .cst (.string s)=>some (True,.int .i64 s.size)
 |_=>none
def G7(k:IntKind):ah->aZ (Prop×ah)
 | .int _ n=>some (True,.int k (k.wrap n))
 |_=>none
def qq:List ah->aZ (List b7)
 |[]=>some []
 | .int .u8 n::r=>(qq r).map (sS n.toNat:: ·)
 |_=>none
def GG:ah->aZ (Prop×ah)
 | .slice _ _ xs=>(qq xs).map fun s=>(True,.str s)
 |_=>none
def Ih(neg:Bool):ah->aZ (Prop×ah)
 | .iface _ _=>some (True,.bool neg)
 | .cst .nilIface=>some (True,.bool (!neg))
 |_=>none
def Cj:ah->aZ (Prop×ah)
 | .ptr k o=>some (True,.ptr k o)
 | .eptr p=>some (True,.eptr p)
 | .func f cs=>some (True,.func f cs)
 |_=>none
def IP:ah->ah->aZ (Prop×ah)
 | .int k a,.int c b=>if k=c then some (True,.int k (if b<a then b else a))else none
 |_,_=>none
def kY:List Bool->List ah->List ah->aZ Bool
 |[],[],[]=>some true
 |false::r,.int k a::asQ,.int d b::c=>if k=d then(kY r asQ c).map fun q=>(a==b)&&q else none
 |true::r,.str a::asQ,.str b::c=>(kY r asQ c).map fun q=>(a==b)&&q
 |_,_,_=>none
inductive ka where
 |i
 |s
 |a (eg:List Bool)
 deriving DecidableEq
def uY:ka->ah->ah->aZ Bool
 | .i,.int k a,.int e b=>if k=e then some (a==b)else none
 | .s,.str a,.str b=>some (a==b)
 | .a c,.agg asQ,.agg d=>kY c asQ d
 |_,_,_=>none
def x1:ka->ah->Bool
 | .a a,.agg asQ=>(kY a asQ asQ).isSome
 | .a _,_=>false
 |_,_=>true
@[simp]def XE(k:ah):x1 .i k=true:=by cases k<;>rfl
def x9(a:ka)(k:ah):List ah->aZ (aZ ah)
 |b::v::r=>match uY a k b with
  |some true=>some (some v)
  |some false=>x9 a k r
  |none=>none
 |_=>some none
def pj(b:aB->aZ (List ah))(a:ka)(zero:ah)(ok:Bool)(x k:ah):aZ (Prop×ah):=
 match x with
 | .gmap key=>match b key with
  |some (.hdm _ _::kvs)=>if x1 a k=false then none else match x9 a k kvs with
   |some (some v)=>some (True,if ok then .tuple [v,.bool true]else v)
   |some none=>some (True,if ok then .tuple [zero,.bool false]else zero)
   |none=>none
  |_=>none
 |_=>none
def Ci(b:aB->aZ (List ah))(x:ah):aZ (Prop×ah):=
 match x with
 | .gmap key=>match b key with
  |some (.hdm _ borns::_)=>some (True,.int .i64 borns.length)
  |_=>none
 |_=>none
def jm(neg:Bool):aZ (List Bool)->ah->ah->aZ (Prop×ah)
 |none,.bool a,.bool b=>some (True,.bool (if neg then a !=b else a==b))
 |some c,.agg asQ,.agg d=>(kY c asQ d).map fun q=>(True,.bool (if neg then !q else q))
 |_,_,_=>none
def IJ:ah->ah->aZ (Prop×ah)
 | .int k a,.int c b=>if k=c then some (True,.int k (if a<b then b else a))else none
 |_,_=>none
def wC(a:ka)(k v:ah):List ah->aZ (aZ (List ah))
 |b::v'::r=>match uY a k b with
  |some true=>some (some (k::v::r))
  |some false=>match wC a k v r with
   |some (some c)=>some (some (b::v'::c))
   |some none=>some none
   |none=>none
  |none=>none
 |_=>some none
def nT(n:Nat):List Nat->List ah->aZ ah
 |b::a,k::v::r=>if b=n then some (.tuple [k,v])else nT n a r
 |_,_=>none
def qO(b:aB->aZ (List ah))(x:ah):aZ (Prop×ah):=
 match x with
 | .ptr fV 0=>match b fV with
  |some [.hdi _ seen last,.gmap mk]=>match b mk with
   |some (.hdm clock borns::kvs)=>match seen.getLast? with
    |some n=>(nT n borns kvs).map fun p=>(clock=last,p)
    |none=>none
   |_=>none
  |_=>none
 |_=>none
def Yv{f g:aB->aZ (List ah)}(h:∀k,f k≠none->g k=f k){b:ka}{zero:ah}{ok:Bool}{x k:ah}{r:Prop×ah}(he:pj f b zero ok x k=some r):pj g b zero ok x k=some r:=by
 unfold pj at he⊢;split at he
 ·rename_i key;cases a:f key with
  |none=>simp[a]at he
  |some cs=>rw[h key (by rw[a];simp),a];rw[a]at he;exact he
 ·cases he
def amt{f g:aB->aZ (List ah)}(h:∀k,f k≠none->g k=f k){x:ah}{r:Prop×ah}(he:Ci f x=some r):Ci g x=some r:=by
 unfold Ci at he⊢;split at he
 ·rename_i key;cases a:f key with
  |none=>simp[a]at he
  |some cs=>rw[h key (by rw[a];simp),a];rw[a]at he;exact he
 ·cases he
def al8{f g:aB->aZ (List ah)}(h:∀k,f k≠none->g k=f k){x:ah}{r:Prop×ah}(he:qO f x=some r):qO g x=some r:=by
 unfold qO at he⊢;split at he
 ·rename_i fV;cases b:f fV with
  |none=>simp[b]at he
  |some cs=>
   simp only[h fV (by rw[b];simp),b]at he⊢;split at he
   ·rename_i since seen last mk d;cases a:f mk with
    |none=>simp[a]at he
    |some c=>simp only[h mk (by rw[a];simp),a]at he⊢;exact he
   ·cases he
 ·cases he
inductive gy where
 |mov (x:dv)
 |pick (c x y:dv)
 |load (agg:Bool) (sz:Nat) (x:dv)
 |faddr (off:Nat) (agg:Bool) (sz:Nat) (x:dv)
 |fld (off:Nat) (agg:Bool) (sz:Nat) (x:dv)
 |iaddr (sz:Nat) (x i:dv)
 |sidx (x i:dv)
 |ssl (x:dv) (lo hi:aZ dv)
 |lsl (sz:Nat) (x:dv) (lo hi:aZ dv)
 |bin (op:BinOp) (wr:Bool) (x y:dv)
 |notB (x:dv)
 |neg (x:dv)
 |conv (k:IntKind) (x:dv)
 |ext (i:Nat) (x:dv)
 |len (x:dv)
 |slen (x:dv)
 |build (zero:List ah) (parts:List (Nat×Nat×dv))
 |nck (x:dv)
 |min2 (x y:dv)
 |mkf (n:Nat) (xs:List dv)
 |mget (ct:ka) (zero:ah) (ok:Bool) (x k:dv)
 |ment (x:dv)
 |mlen (x:dv)
 |beq (neg:Bool) (eg:aZ (List Bool)) (x y:dv)
 |max2 (x y:dv)
 |mkif (t:Nat) (x:dv)
 |loadB (agg:Bool) (sz:Nat) (x:dv)
 |mgetB (ct:ka) (zero:ah) (ok:Bool) (x k:dv)
 |loadZ (agg:Bool) (sz:Nat) (x:dv)
 |b2s (x:dv)
 |isn (neg:Bool) (x:dv)
def ht(st:bn):gy->aZ (Prop×ah)
 | .mov x=>some (True,cg st.t x)
 | .pick c x y=>Jc (cg st.t c) (cg st.t x) (cg st.t y)
 | .load agg sz x=>nR st.b st.e agg sz (cg st.t x)
 | .faddr off agg sz x=>s8 off agg sz (cg st.t x)
 | .fld off agg sz x=>vN off agg sz (cg st.t x)
 | .iaddr sz x i=>BX sz (cg st.t x) (cg st.t i)
 | .sidx x i=>JP (cg st.t x) (cg st.t i)
 | .ssl x lo hi=>JU (cg st.t x) (lo.map (cg st.t)) (hi.map (cg st.t))
 | .lsl sz x lo hi=>ID sz (cg st.t x) (lo.map (cg st.t)) (hi.map (cg st.t))
 | .bin op wr x y=>Dm op wr (cg st.t x) (cg st.t y)
 | .notB x=>IX (cg st.t x)
 | .neg x=>IQ (cg st.t x)
 | .conv k x=>G7 k (cg st.t x)
 | .ext i x=>Bc i (cg st.t x)
 | .len x=>B8 (cg st.t x)
 | .slen x=>FW (cg st.t x)
 | .build zero parts=>(vD st.t zero parts).map fun(c,cs)=>(c,.agg cs)
 | .nck x=>Cj (cg st.t x)
 | .min2 x y=>IP (cg st.t x) (cg st.t y)
 | .mkf n xs=>some (True,.func n (xs.map (cg st.t)))
 | .mget a zero ok x k=>pj (fun k=>look k st.b) a zero ok (cg st.t x) (cg st.t k)
 | .ment x=>qO (fun k=>look k st.b) (cg st.t x)
 | .mlen x=>Ci (fun k=>look k st.b) (cg st.t x)
 | .beq neg b x y=>jm neg b (cg st.t x) (cg st.t y)
 | .max2 x y=>IJ (cg st.t x) (cg st.t y)
 | .mkif t x=>some (True,.iface t (cg st.t x))
 | .loadB agg sz x=>nR st.b [] agg sz (cg st.t x)
 | .mgetB a zero ok x k=>pj (fun k=>look k st.b) a zero ok (cg st.t x) (cg st.t k)
 | .loadZ agg sz x=>DQ agg sz (cg st.t x)
 | .b2s x=>GG (cg st.t x)
 | .isn neg x=>Ih neg (cg st.t x)
def Cv(aT:List (Nat×eJ))(a:List (Nat×Nat)):List (Nat×Nat×dv)->List (Nat×jk)->Bool
 |[],[]=>true
 |(off,sz,x)::r,(i,o)::s=>(match a[i]? with|some (b,t)=>off==b&&((eo aT t).map (·.size))==some sz|none=>false)&&eC x o&&Cv aT a r s
 |_,_=>false
def Gm:ah->ah->Bool
 | .int k n,.int c n'=>decide (k=c/\n=n')
 | .bool b,.bool cf=>b==cf
 | .str [],.str []=>true
 | .slice a .nil [],.slice b .nil []=>a==b
 | .nilp,.nilp=>true
 | .junk,.junk=>true
 |_,_=>false
def C1:List ah->List ah->Bool
 |[],[]=>true
 |c::cs,d::a=>Gm c d&&C1 cs a
 |_,_=>false
def C3:ah->ah->Bool
 | .agg cs,.agg a=>C1 cs a
 | .agg _,_=>false
 |p,q=>Gm p q
def wG:List dv->List jk->Bool
 |[],[]=>true
 |x::xs,o::os=>eC x o&&wG xs os
 |_,_=>false
def Bn(aT:List (Nat×eJ)):Nat->List Bool->List (Nat×Nat)->Bool
 |_,[],[]=>true
 |n,b::r,(off,t)::a=>off==n&&(match eo aT t with|some ⟨_,_,.int _,_⟩=> !b|some ⟨_,_,.str,_⟩=>b|_=>false)&&Bn aT (n+1) r a
 |_,_,_=>false
def Hp(aT:List (Nat×eJ))(a:List Bool)(t:Nat):Bool:=match eo aT t with
 |some ⟨_,_,.struct gs,_⟩=>Bn aT 0 a gs
 |_=>false
def zP(aT:List (Nat×eJ))(b:ka)(t:Nat):Bool:=match b with
 | .i=>(match eo aT t with|some ⟨_,_,.int _,_⟩=>true|_=>false)
 | .s=>(match eo aT t with|some ⟨_,_,.str,_⟩=>true|_=>false)
 | .a a=>Hp aT a t
def QO:ah->ah->Bool
 | .slice a .no [],.slice b .nil []=>a==b
 |c,d=>Gm c d
def AH:List ah->List ah->Bool
 |[],[]=>true
 |c::cs,d::a=>QO c d&&AH cs a
 |_,_=>false
def QT:List ah->ah->Bool
 |cs,.agg a=>AH cs a
 |_,_=>false
def yg:aZ dv->aZ jk->Bool
 |none,none=>true
 |some x,some o=>eC x o
 |_,_=>false
def Ga(aT:List (Nat×eJ)):gy->Op->Bool
 | .mov x,.move o=>eC x o
 | .mov x,.assign o=>eC x o
 | .pick c x y,.pick B F r=>eC c B&&eC x F&&eC y r
 | .load agg sz x,.load t o=>(match eo aT t with|some f=>f.size==sz&&f.kind.isAgg==agg|none=>false)&&eC x o
 | .faddr off agg sz x,.fieldAddr s o i=>
  (match eo aT s with
   |some ⟨_,_,.struct a,_⟩=>(match a[i]? with|some (b,t)=>off==b&&(match eo aT t with|some f=>f.size==sz&&f.kind.isAgg==agg&&sz !=0|none=>false)|none=>false)
   |_=>false)&&eC x o
 | .fld off agg sz x,.field s o i=>
  (match eo aT s with
   |some ⟨_,_,.struct a,_⟩=>(match a[i]? with|some (b,t)=>off==b&&(match eo aT t with|some f=>f.size==sz&&f.kind.isAgg==agg|none=>false)|none=>false)
   |_=>false)&&eC x o
 | .iaddr sz x i,.indexAddr t o j=>(match eo aT t with|some ⟨_,_,.slice e,_⟩=>(match eo aT e with|some f=>f.size==sz|none=>false)|_=>false)&&eC x o&&eC i j
 | .sidx x i,.index t o j=>(match eo aT t with|some ⟨_,_,.str,_⟩=>true|_=>false)&&eC x o&&eC i j
 | .ssl x lo hi,.slice t o l h none=>(match eo aT t with|some ⟨_,_,.str,_⟩=>true|_=>false)&&eC x o&&yg lo l&&yg hi h
 | .lsl sz x lo hi,.slice t o l h none=>(match eo aT t with|some ⟨_,_,.slice e,_⟩=>(match eo aT e with|some f=>f.size==sz|none=>false)|_=>false)&&eC x o&&yg lo l&&yg hi h
 | .bin op _ x y,.binOp E _ o o' _=>decide (op=E)&&eC x o&&eC y o'
 | .notB x,.unOp op _ o=>decide (op= .not)&&eC x o
 | .neg x,.unOp op _ o=>decide (op= .neg)&&eC x o
 | .conv k x,.convert s d o=>(match eo aT s,eo aT d with|some ⟨_,_,.int _,_⟩,some ⟨_,_,.int D,_⟩=>decide (k=D)|_,_=>false)&&eC x o
 | .ext i x,.extract o j=>i==j&&eC x o
 | .len x,.call ⟨.builtin .len,⟨[o]⟩,⟨[t]⟩⟩=>(match eo aT t with|some ⟨_,_,.slice _,_⟩=>true|_=>false)&&eC x o
 | .slen x,.call ⟨.builtin .len,⟨[o]⟩,⟨[t]⟩⟩=>(match eo aT t with|some ⟨_,_,.str,_⟩=>true|_=>false)&&eC x o
 | .build zero parts,.build t A=>(match eo aT t with|some ⟨_,_,.struct a,z⟩=>QT zero z&&(a.all fun x=>(eo aT x.2).isSome)&&Cv aT a parts A.toList|_=>false)
 | .nck x,.nilCheck o=>eC x o
 | .min2 x y,.call ⟨.builtin .min,⟨[o,o']⟩,⟨[_,_]⟩⟩=>eC x o&&eC y o'
 | .mkf n xs,.makeFunc (.func m) ⟨[]⟩ os=>decide (n=m/\n<1000000)&&wG xs os.toList
 | .mkf n xs,.makeFunc (.func m) v ⟨[]⟩=>decide (n=m+1000000)&&wG xs v.toList
 | .mget q zero ok x k,.lookup t o o' u=>ok==u&&(match eo aT t with|some ⟨_,_,.map p g,_⟩=>zP aT q p&&(match eo aT g with|some f=>C3 zero f.zero|none=>false)|_=>false)&&eC x o&&eC k o'
 | .ment x,.entry o=>eC x o
 | .mlen x,.call ⟨.builtin .len,⟨[o]⟩,⟨[t]⟩⟩=>(match eo aT t with|some ⟨_,_,.map _ _,_⟩=>true|_=>false)&&eC x o
 | .beq neg a x y,.binOp op t o o' _=>decide (op=if neg then .neq else .eql)&&(match a with|none=>(match eo aT t with|some ⟨_,_,.bool,_⟩=>true|_=>false)|some a=>Hp aT a t)&&eC x o&&eC y o'
 | .max2 x y,.call ⟨.builtin .max,⟨[o,o']⟩,⟨[_,_]⟩⟩=>eC x o&&eC y o'
 | .mkif t x,.makeInterface w o=>t==w&&(match eo aT t with|some ⟨_,_,.slice _,_⟩=>true|_=>false)&&eC x o
 | .loadB agg sz x,.load t o=>(match eo aT t with|some f=>f.size==sz&&f.kind.isAgg==agg|none=>false)&&eC x o
 | .b2s x,.convert s d o=>(match eo aT s,eo aT d with|some ⟨_,_,.slice e,_⟩,some ⟨_,_,.str,_⟩=>(match eo aT e with|some ⟨_,_,.int .u8,_⟩=>true|_=>false)|_,_=>false)&&eC x o
 | .isn neg x,.binOp op t o (.const .nilIface) _=>decide (op=if neg then .neq else .eql)&&(match eo aT t with|some ⟨_,_,.iface,_⟩=>true|_=>false)&&eC x o
 | .loadZ agg sz x,.load t o=>(match eo aT t with|some f=>f.size==sz&&f.kind.isAgg==agg|none=>false)&&eC x o
 | .mgetB q zero ok x k,.lookup t o o' u=>ok==u&&(match eo aT t with|some ⟨_,_,.map p g,_⟩=>zP aT q p&&(match eo aT g with|some f=>C3 zero f.zero|none=>false)|_=>false)&&eC x o&&eC k o'
 |_,_=>false
end
section
open Go Go.RowKit
def Lz(P:cE)(w:World)(op:BinOp)(t:fF)(x y:jk)(k a:IntKind)(m n:Int):(eqGuard op t x y (.int k m) (.int a n)).run P w= .ok () w:=by cases op<;>rfl
def aeL(P:cE)(w:World)(op:BinOp)(t:fF)(x y:jk)(m n:lK):(eqGuard op t x y (.string m) (.string n)).run P w= .ok () w:=by cases op<;>rfl
def arK(l:List b7):(⟨l.toArray⟩:lK).toList=l:=Ψ
def ac8(a b:List b7):(⟨a.toArray⟩:lK)++(⟨b.toArray⟩:lK)=⟨(a++b).toArray⟩:=by apply atG;simp
def afL(a:List b7)(l h:Nat):(⟨a.toArray⟩:lK).extract l h=⟨((a.take h).drop l).toArray⟩:=by apply atG;simp[List.drop_take]
def FV(a:List b7):(⟨a.toArray⟩:lK).size=a.length:=by simp[aco]
section
variable {P:cE} {w:World} {r:Sem Value}
def tb{k:IntKind}{x:Int}(h:r.run P w= .ok (.int k x) w):∃v,r.run P w= .ok v w/\∀Z,aV w Z (.int k x) v:=⟨_,h,fun Z=>by simp[aV]⟩
def VE{x:Bool}(h:r.run P w= .ok (.bool x) w):∃v,r.run P w= .ok v w/\∀Z,aV w Z (.bool x) v:=⟨_,h,fun Z=>by simp[aV]⟩
end
def ak2(P:cE)(w:World){op:BinOp}{wr:Bool}{k:IntKind}{a b:Int}{c:Prop}{p:ah}(he:Ie op wr k a b=some (c,p))(aA:c)(t:fF):
  ∃v,(binOp op t (.int k a) (.int k b)).run P w= .ok v w/\∀Z,aV w Z p v:=by
 cases op<;>simp only[Ie]at he;case add=>
  cases wr<;>simp only[if_true,hI,if_false]at he<;>cases he
  ·obtain⟨rfl,h⟩:=aA;exact tb (by simp[binOp,Op.intArith,lY _ h])
  ·exact tb (by simp[binOp,Op.intArith])
 case sub=>
  cases wr<;>simp only[if_true,hI,if_false]at he<;>cases he
  ·obtain⟨rfl,h⟩:=aA;exact tb (by simp[binOp,Op.intArith,lY _ h])
  ·exact tb (by simp[binOp,Op.intArith])
 case mul=>
  cases wr<;>simp only[if_true,hI,if_false]at he<;>cases he
  ·obtain⟨rfl,h⟩:=aA;exact tb (by simp[binOp,Op.intArith,lY _ h])
  ·exact tb (by simp[binOp,Op.intArith])
 case quo=>cases he;exact tb (by simp[binOp,Op.intDiv,aA])
 case rem=>cases he;exact tb (by simp[binOp,Op.intDiv,aA])
 case and=>cases he;exact tb m6
 case or=>cases he;exact tb m6
 case xor=>cases he;exact tb m6
 all_goals cases he
 all_goals exact VE (by simp only[binOp,Op.intCmp,ne_eq,not_true_eq_false,if_false,gx,gt_iff_lt,ge_iff_le])
def arf(P:cE)(w:World){op:BinOp}{a b:List b7}{c:Prop}{p:ah}(he:JX op a b=some (c,p))(aA:c)(t:fF):
  ∃v,(binOp op t (.string ⟨a.toArray⟩) (.string ⟨b.toArray⟩)).run P w= .ok v w/\∀Z,aV w Z p v:=by
 cases op<;>simp only[JX]at he;case add=>
  cases he;refine⟨.string ⟨(a++b).toArray⟩,?_,fun Z=>by simp only[aV];exact⟨trivial,by simpa using aA⟩⟩;have J:¬(((⟨a.toArray⟩:lK).size+(⟨b.toArray⟩:lK).size:Nat):Int)>oQ.max:=by
   have:oQ.max=9223372036854775807:=by decide
   rw[this,FV,FV];simp only[lim]at aA;omega
  simp only[binOp,Op.stringOp,J,if_false,gx,ac8]
 all_goals cases he
 all_goals exact VE (by simp only[binOp,Op.stringOp,arK,gx])
def adp(P:cE)(w:World)(Z:a8){op:BinOp}{wr:Bool}{x y:ah}{c:Prop}{p:ah}(he:Dm op wr x y=some (c,p))(aA:c)(t:fF){u v:Value}(hu:aV w Z x u)(d:aV w Z y v)(o o':jk):
  ∃r,(do eqGuard op t o o' u v;binOp op t u v).run P w= .ok r w/\aV w Z p r:=by
 unfold Dm at he;split at he
 ·rename_i k a f b;simp only[aV]at hu d;subst hu;subst d;split at he
  ·cases he;refine⟨_,?_,by simp[aV];rfl⟩;simp[binOp,Op.shift,Lz,Int.not_lt.2 aA]
  ·cases he;refine⟨_,?_,by simp[aV];rfl⟩;simp[binOp,Op.shift,Lz,Int.not_lt.2 aA]
  ·split at he
   ·rename_i e;subst e;obtain⟨r,J,U⟩:=ak2 P w he aA t;exact⟨r,by simp[Lz,J],U Z⟩
   ·cases he
 ·simp only[aV]at hu d;rw[hu.1,d.1];obtain⟨r,J,U⟩:=arf P w he aA t;exact⟨r,by simp[aeL,J],U Z⟩
 ·cases he
def LW{w:World}{Z:a8}:∀(v:List Value) (i off:Nat) (cs:Array Value),off+i+v.length<=cs.size->
  ((v.zipIdx i).foldl (fun cs (x:Value×Nat)=>cs.setIfInBounds (off+x.2) x.1) cs).toList=cs.toList.take (off+i)++v++cs.toList.drop (off+i+v.length)
 |[],i,off,cs,_=>by simp
 |u::v,i,off,cs,h=>by
  simp only[List.zipIdx_cons,List.foldl_cons];rw[LW (w:=w) (Z:=Z) v (i+1) off _ (by simp at h⊢;omega)];have a:off+i<cs.toList.length:=by simp at h⊢;omega
  simp only[Array.toList_setIfInBounds];have b:(cs.toList.set (off+i) u).take (off+(i+1))=cs.toList.take (off+i)++[u]:=by rw[show off+(i+1)=(off+i)+1 from by omega,List.take_succ_eq_append_getElem (by simpa using a)];simp[List.take_set_of_le (e2 _)]
  have c:(cs.toList.set (off+i) u).drop (off+(i+1)+v.length)=cs.toList.drop (off+i+(u::v).length):=by rw[List.drop_set_of_lt Ω];congr 1;simp;omega
  rw[b,c];simp
def aaJ{w:World}{Z:a8}{C:fb}{st:bn}{a:Act}(m:cZ C st a w Z){aT:List (Nat×eJ)}{k:List (Nat×Nat)}{places:List (Nat×Nat)}
  (l:∀(i off t sz:Nat),k[i]? =some (off,t)->(eo aT t).map (·.size)=some sz->places[i]? =some (off,sz)):
  ∀(parts:List (Nat×Nat×dv)) (d:List (Nat×jk)) (cs:List ah) (us:Array Value) (c:Prop) (cs':List ah),Cv aT k parts d=true->c1 w Z cs us.toList->vD st.t cs parts=some (c,cs')->c->
  ∃e:Array Value,Instr.fill (places.toArray[·]?) us (d.map fun(x:Nat×jk)=>(x.1,a.eval x.2))=some e/\c1 w Z cs' e.toList
 |[],[],cs,us,c,cs',_,h,he,aA=>by simp only[vD]at he;cases he;exact⟨us,by simp[Instr.fill],h⟩
 |[],_::_,_,_,_,_,b,_,_,_=>by simp[Cv]at b
 |_::_,[],_,_,_,_,b,_,_,_=>by simp[Cv]at b
 |(off,sz,x)::parts,(i,o)::d,cs,us,c,cs',b,h,he,aA=>by
  simp only[Cv,cD]at b;obtain⟨⟨J,U⟩,y⟩:=b;split at J
  ·rename_i E t D;simp only[cD,dW]at J;obtain⟨rfl,J⟩:=J;have r:=l i off t sz D J;simp only[vD]at he;split at he
   ·rename_i u v ae;cases he;obtain⟨⟨A,z,hle⟩,s⟩:=aA;have B:=eD m U;have g:=wP B A;have hlen:=qU g;have p:=qU h;have j:(a.eval o).cells.size=sz:=by have:(a.eval o).cells.toList.length=(cells (cg st.t x)).length:=hlen;rw[z]at this;simpa using this
    have f:us.size=cs.length:=by simpa using p
    have n:=LW (w:=w) (Z:=Z) (a.eval o).cells.toList 0 off us (by simp[j,f];omega);have q:c1 w Z (po cs off (cells (cg st.t x))) ((((a.eval o).cells.toList.zipIdx 0).foldl (fun cs (x:Value×Nat)=>cs.setIfInBounds (off+x.2) x.1) us).toList):=by rw[n];unfold po;refine Aj (Aj (FM off h) g) ?_;rw[Nat.add_zero,hlen];exact CK _ h
    obtain⟨e,g1,g2⟩:=aaJ m l parts d _ _ u cs' y q ae s;refine⟨e,?_,g2⟩;simp only[fG,Instr.fill,List.getElem?_toArray,r];rw[if_neg (by simp[j,f];omega)];rw[<-g1];simp only[List.getElem?_toArray];congr 1;rw[<-Array.foldl_toList];simp
   ·cases he
  ·cases J
end
section
open Go Go.RowKit
def w3{P:cE}{aT:List (Nat×eJ)}(aM:hl P aT=true){t:Nat}{f:eJ}(e:eo aT t=some f)(w:World):
  (Go.isAgg t).run P w= .ok f.kind.isAgg w/\(sizeOf t).run P w= .ok f.size w:=by
 obtain⟨i,d,z,J,U,b,k,a,j,h,g⟩:=(vj aM e).ex;refine⟨?_,by simp[sizeOf,typeInfo,J,b]⟩;simp only[Go.isAgg,fB,run_underlying U,fE];cases c:f.kind<;>rw[c]at a<;>cases d<;>simp[kv]at a<;>simp[De.isAgg]
def ij{P:cE}{aT:List (Nat×eJ)}(aM:hl P aT=true){t:Nat}{f:eJ}(b:eo aT t=some f):∃d,P.underlying t=some d/\kv f.kind d=true:=by obtain⟨i,d,z,J,U,h,j,a,g,e,c⟩:=(vj aM b).ex;exact⟨d,U,a⟩
def r6{e:Nat}{d:TypeDesc}(h:kv (.slice e) d=true):d= .slice e:=by cases d<;>simp[kv]at h;subst h;rfl
def xr{d:TypeDesc}(h:kv .str d=true):d= .string:=by cases d<;>simp[kv]at h;rfl
def Dz{k:IntKind}{d:TypeDesc}(h:kv (.int k) d=true):d= .int k:=by cases d<;>simp[kv]at h;subst h;rfl
def Ln{a:List (Nat×Nat)}{d:TypeDesc}(h:kv (.struct a) d=true):∃gs:Array Field,d= .struct gs/\gs.toList.map (fun f=>(f.offset,f.type))=a:=by cases d<;>simp[kv]at h;rename_i gs;exact⟨gs,rfl,by simpa using h⟩
def JC{w:World}{Z:a8}{cs:List ah}{us:List Value}(h:c1 w Z cs us)(off sz:Nat):c1 w Z ((cs.drop off).take sz) ((us.drop off).take sz):=FM sz (CK off h)
def Zl{w:World}{base el sz n:Nat}{v:Value}{us:List Value}(h:w.ownsRow base el sz v n us){b:Nat}(ae:v.ownBlock=some b):∃cap,v= .slice (some ⟨b,0,none⟩) n cap:=by
 rcases h.2 with⟨rfl,_⟩|⟨g,cap,cur,rfl,_⟩
 ·simp[oR]at ae
 ·simp[oR]at ae;subst ae;exact⟨cap,rfl⟩
def Good.rowElem{pr:Nat->Prop}{w:World}{Z:a8}{b:List (aB×List ah)}{e:List (aB×er)}(a1:Good pr w Z b e){k:aB}{n el sz:Nat}{xs:List ah}(A:look k e=some ⟨n,el,sz,some xs⟩){i f:Nat}{u:Value}(m:aV w Z (.rptr sz k n i f) u){p:ah}(x:xs[i]? =some p):
  ∃(v:Value) (us:List Value) (D:Nat),aV w Z p v/\v.cells.size=sz/\∃b o,u= .pointer (some ⟨b,o,none⟩)/\∀j c,v.cells.toList[f+j]? =some c->w.cell? ⟨b,o+j,none⟩=some c:=by
 simp only[aV]at m;obtain⟨_,hi,n',B,J,U,y⟩:=m;obtain⟨v,us,a,l,E,s⟩:=a1.own k _ A;rw[J]at a;simp only[dz,hW]at a;obtain⟨rfl,rfl⟩:=a;obtain⟨bl,ae,rfl⟩:=y rfl;obtain⟨cap,rfl⟩:=Zl l ae;obtain⟨z,g,_⟩:=s xs rfl;simp only at z g;obtain⟨v,r,h,q⟩:=Jz i g x;refine⟨v,us,el,r,h,bl,_,rfl,fun j c d=>?_⟩;have t:f+j<sz:=by have:=(fp.1 d).1;simp[h]at this;exact this
 have hmul:i*sz+sz<=n'*sz:=by have:=Nat.mul_le_mul_right sz (show i+1<=n' from hi);rwa[Nat.succ_mul]at this
 have aA:=l.cellAt (i*sz+f+j) (by show _<n'*sz;omega);rw[aA];rw[q,List.getElem?_take,if_pos t,List.getElem?_drop]at d;rw[<-d];congr 1;omega
def IC{P:cE}{aT:List (Nat×eJ)}(aM:hl P aT=true){pr:Nat->Prop}{w:World}{Z:a8}{b:List (aB×List ah)}{e:List (aB×er)}(a1:Good pr w Z b e){t:Nat}{f:eJ}(V:eo aT t=some f)
  {x:ah} {u:Value} (l:aV w Z x u) {c:Prop} {p:ah} (he:nR b e f.kind.isAgg f.size x=some (c,p)) (aA:c):∃v,(Instr.loadAt t u).run P w= .ok v w/\aV w Z p v:=by
 obtain⟨d,F⟩:=w3 aM V w;generalize HC:f.kind.isAgg=h at*;generalize dS:f.size=sz at*;unfold nR at he;split at he
 ·rename_i dO k n i g;unfold Ap at he;split at he
  ·rename_i n' el Y xs G;split at he
   ·rename_i R;obtain⟨rfl,rfl⟩:=R;split at he
    ·rename_i B E;obtain⟨H,us,fi,g1,g2,a⟩:=Good.rowElem a1 G l E;have O:fh B=true:=by
      cases h
      ·simp only[hI,if_false,gI]at he;obtain⟨q,_,he⟩:=he;cases he;exact aA
      ·simp only[if_true]at he;cases he;exact aA.1
     have A:=wP g1 O;cases h
     ·simp only[hI,if_false,gI]at he;obtain⟨q,r,he⟩:=he;cases he;obtain⟨v,f1,f2,f3⟩:=FL g A r;refine⟨v,?_,f2⟩;obtain⟨b,o,rfl,a⟩:=a;have:=a 0 v (by simpa using f1);simp only[Nat.add_zero]at this;simp[Instr.loadAt,Instr.sureAddr,loadVar,d,this]
     ·simp only[if_true]at he;cases he;obtain⟨b,o,rfl,a⟩:=a;refine⟨.agg ((H.cells.toList.drop g).take sz).toArray,?_,by simp only[aV];exact⟨_,rfl,by simpa using JC A g sz⟩⟩;have D:=qU A;have hlen:((H.cells.toList.drop g).take sz).length=sz:=by simp only[oT,sO];omega
      have L:=run_loadCells_list (P:=P) w ⟨b,o,none⟩ ((H.cells.toList.drop g).take sz) (fun j v z=>by
       rw[pK];refine a j v ?_;rw[List.getElem?_take]at z;split at z
       ·simpa[List.getElem?_drop]using z
       ·cases z)
      rw[hlen]at L;simp only[Instr.loadAt,Instr.sureAddr,loadVar,fB,gx,fE,d,if_true,F,L]
    ·cases he
   ·cases he
  ·cases he
 ·rename_i k off;simp only[aV]at l;obtain⟨bl,J,rfl⟩:=l;split at he
  ·rename_i cs G;obtain⟨X,us,el,g1,g2,g3,g4,g5⟩:=a1.box k cs G;rw[J]at g1;cases g1;have K:gN cs=true:=by
    cases h
    ·simp only[hI,if_false,gI]at he;obtain⟨q,r,he⟩:=he;cases he;exact aA
    ·simp only[if_true]at he;cases he;exact aA.1
   rw[rE K]at g4;rw[qR K]at g5;have D:=qU g5;cases h
   ·simp only[hI,if_false,gI]at he;obtain⟨q,r,he⟩:=he;cases he;obtain⟨v,f1,f2,f3⟩:=FL off g5 r;refine⟨v,?_,f2⟩;have a:w.cell? ⟨bl,off,none⟩=some v:=by simpa[World.cell?,g4]using f1
    simp[Instr.loadAt,Instr.sureAddr,loadVar,d,a]
   ·simp only[if_true]at he;cases he;replace aA:=aA.2;refine⟨_,?_,by simp only[aV];exact⟨_,rfl,by simpa using JC g5 off sz⟩⟩;simp only[Instr.loadAt,Instr.sureAddr,loadVar,fB,gx,fE,d,if_true,F];rw[aqz g4 (by simp at D;omega)];rfl
  ·cases he
 ·rename_i q;simp only[aV]at l;obtain⟨bl,off,Q,rfl,U,s⟩:=l;cases h
  ·simp only[hI,if_false]at he;cases he;obtain⟨N,m⟩:=aA;obtain⟨g1,g2⟩:=Py U N (fun cs e=>by subst e;have:=eG List.length m;simp only[cells,ik,nv]at this;cases cs with
    |nil=>simp[cells]at m
    |cons y ys=>simp only[cells,pA]at m;obtain⟨S,W⟩:=m;subst W;have:=eG SizeOf.sizeOf S;simp at this;omega)
   refine⟨Q,?_,U⟩;rw[g2]at s;have a:=s.1.2;simp[Instr.loadAt,Instr.sureAddr,loadVar,d,a]
  ·simp only[if_true]at he;cases he;obtain⟨cs,rfl,hlen⟩:=aA;simp only[aV]at U;obtain⟨us,rfl,M⟩:=U;refine⟨.agg us,?_,by simp only[aV];exact⟨us,rfl,M⟩⟩;simp only[nu]at s;have D:=qU M;have:=aaL (P:=P) s;rw[show us.toList.length=sz from by omega]at this;simp[Instr.loadAt,Instr.sureAddr,loadVar,d,F,this]
 ·cases he
def ahT{P:cE}{aT:List (Nat×eJ)}(aM:hl P aT=true){w:World}{Z:a8}{s i:Nat}{f:eJ}{r:List (Nat×Nat)}(L:eo aT s=some f)(H:f.kind= .struct r){off t:Nat}{g:eJ}(hi:r[i]? =some (off,t))(a1:eo aT t=some g)(D:g.size≠0)
  {x:ah} {u:Value} (a:aV w Z x u) {c:Prop} {p:ah} (he:s8 off g.kind.isAgg g.size x=some (c,p)) (aA:c):∃v,(Instr.fieldAt s u i).run P w= .ok v w/\aV w Z p v:=by
 obtain⟨d,K,n⟩:=ij aM L;rw[H]at n;obtain⟨gs,rfl,B⟩:=Ln n;have z:∃fd:Field,gs[i]? =some fd/\fd.offset=off/\fd.type=t:=by rw[<-B]at hi;simp only[List.getElem?_map,gI]at hi;obtain⟨fd,J,U⟩:=hi;simp only[hW]at U;exact⟨fd,by simpa using J,U.1,U.2⟩
 obtain⟨fd,M,al,A⟩:=z;obtain⟨N,G⟩:=w3 aM a1 w;have j:∀b o,(Instr.fieldAt s (.pointer (some ⟨b,o,none⟩)) i).run P w= .ok (.pointer (some ⟨b,o+off,none⟩)) w:=by intro b o;simp[Instr.fieldAt,run_underlying K,M,Instr.sureAddr,fieldPlace,A,G,D,pK,al]
 unfold s8 at he;split at he
 ·cases he;simp only[aV]at a;obtain⟨b,J,rfl⟩:=a;exact⟨_,j _ _,by simp only[aV];exact⟨b,J,rfl⟩⟩
 ·cases he;simp only[aV]at a;obtain⟨⟨b,o,rfl⟩,hi,n',m,J,U,h⟩:=a;refine⟨_,j _ _,?_⟩;simp only[aV];refine⟨⟨b,_,rfl⟩,hi,n',m,J,U,fun e=>?_⟩;obtain⟨cf,F,y⟩:=h e;simp only[aym,dz,Addr.mk.injEq,and_true]at y;obtain⟨rfl,rfl⟩:=y;exact⟨b,F,by rw[Nat.add_assoc]⟩
 ·rename_i cs;simp only[aV]at a;obtain⟨b,o,m,rfl,⟨us,rfl,U⟩,h⟩:=a;refine⟨_,j _ _,?_⟩;simp only[nu]at h;split at he
  ·cases he;simp only[aV];exact⟨b,o+off,.agg ((us.toList.drop off).take g.size).toArray,rfl,⟨_,rfl,by simpa using JC U off g.size⟩,by simpa[nu]using Ix g.size (Iv off h)⟩
  ·simp only[gI]at he;obtain⟨q,E,he⟩:=he;cases he;obtain⟨v,f1,f2,f3⟩:=FL off U E;simp only[aV];have l:=wy h f1;have k:v.cells= #[v]:=by cases v<;>first|rfl|cases f3
   exact⟨b,o+off,v,rfl,f2,by rw[k];exact⟨l,trivial⟩⟩
 ·cases he
def ah0{P:cE}{aT:List (Nat×eJ)}(aM:hl P aT=true){w:World}{Z:a8}{s i:Nat}{f:eJ}{h:List (Nat×Nat)}(B:eo aT s=some f)(A:f.kind= .struct h){off t:Nat}{g:eJ}(hi:h[i]? =some (off,t))(a1:eo aT t=some g)
  {x:ah} {u:Value} (k:aV w Z x u) {c:Prop} {p:ah} (he:vN off g.kind.isAgg g.size x=some (c,p)) (aA:c):∃v,(Instr.field s u i).run P w= .ok v w/\aV w Z p v:=by
 obtain⟨d,l,e⟩:=ij aM B;rw[A]at e;obtain⟨gs,rfl,o⟩:=Ln e;have n:∃fd:Field,gs[i]? =some fd/\fd.offset=off/\fd.type=t:=by rw[<-o]at hi;simp only[List.getElem?_map,gI]at hi;obtain⟨fd,J,U⟩:=hi;simp only[hW]at U;exact⟨fd,by simpa using J,U.1,U.2⟩
 obtain⟨fd,m,al,b⟩:=n;obtain⟨j,z⟩:=w3 aM a1 w;unfold vN at he;split at he
 ·rename_i cs;simp only[aV]at k;obtain⟨us,rfl,U⟩:=k;generalize D:g.kind.isAgg=r at*;cases r
  ·simp only[hI,if_false,gI]at he;obtain⟨q,y,he⟩:=he;cases he;obtain⟨v,f1,f2,f3⟩:=FL off U y;have a:us[off]? =some v:=by simpa using f1
   exact⟨v,by simp[Instr.field,run_underlying l,m,asAgg,part,b,j,al,a],f2⟩
  ·simp only[if_true]at he;cases he;refine⟨.agg (us.extract off (off+g.size)),by simp[Instr.field,run_underlying l,m,asAgg,part,b,j,al,z],?_⟩;simp only[aV];refine⟨_,rfl,?_⟩;have:=JC U off g.size;simpa[List.take_drop]using this
 ·cases he
def akX{P:cE}{aT:List (Nat×eJ)}(aM:hl P aT=true){w:World}{Z:a8}{t e:Nat}{f g:eJ}(M:eo aT t=some f)(L:f.kind= .slice e)(a1:eo aT e=some g)
  {x y:ah} {u v:Value} (h:aV w Z x u) (j:aV w Z y v) {c:Prop} {p:ah} (he:BX g.size x y=some (c,p)) (aA:c):∃r,(Instr.indexAt t u v).run P w= .ok r w/\aV w Z p r:=by
 obtain⟨d,E,B⟩:=ij aM M;rw[L]at B;obtain rfl:=r6 B;obtain⟨Q,D⟩:=w3 aM a1 w;unfold BX at he;split at he
 ·rename_i H tag xs k i;split at he
  ·rename_i m;cases he;simp only[aV]at h j;subst j;subst m;obtain⟨⟨a,cap,rfl,J,U,q⟩,_⟩:=h;obtain⟨z,l⟩:=aA;have A:i.toNat<xs.length:=Ω
   rcases q with rfl|⟨b,off,us,rfl,s,o⟩
   ·simp at A
   ·have h:xs[i.toNat]? =some xs[i.toNat]:=cl A;obtain⟨w',K,O,F⟩:=Jz i.toNat o h;refine⟨.pointer (some ⟨b,off+i.toNat*g.size,none⟩),?_,?_⟩
    ·simp only[Instr.indexAt,asIntOf,fB,gx,fE,run_underlying E,z,l,and_self,if_true,D,pK]
    ·simp only[aV];refine⟨b,off+i.toNat*g.size,w',rfl,by simpa[List.getD,h]using K,?_⟩;rw[F];exact Ix g.size (Iv _ s)
  ·cases he
 ·rename_i H k n N i;split at he
  ·rename_i m;cases he;simp only[aV]at h j;subst j;subst m;obtain⟨⟨b,cap,rfl⟩,U,n',G,q,s,o⟩:=h;obtain⟨z,l⟩:=aA;refine⟨.pointer (some ⟨b,0+i.toNat*g.size,none⟩),?_,?_⟩
   ·simp only[Instr.indexAt,asIntOf,fB,gx,fE,run_underlying E,z,l,and_self,if_true,D,pK]
   ·simp only[aV];refine⟨⟨b,_,rfl⟩,Ω,n',G,q,s,fun e=>⟨b,?_,Ψ⟩⟩;rw[<-o e];rfl
  ·cases he
 ·cases he
def I3{C:fb}{st:bn}{a:Act}{w:World}{Z:a8}(h:cZ C st a w Z){x:aZ dv}{o:aZ jk}(b:yg x o=true){d n:Int}(he:ss d (x.map (cg st.t))=some n):
  (o.map a.eval=none/\n=d)\/ ∃k,o.map a.eval=some (.int k n):=by
 cases x with
 |none=>cases o with
  |none=>simp[ss]at he;exact .inl ⟨rfl,he.symm⟩
  |some o=>simp[yg]at b
 |some x=>cases o with
  |none=>simp[yg]at b
  |some o=>
   simp only[yg]at b
   have:=eD h b
   simp only[nz]at he⊢
   cases c:cg st.t x<;>simp[c,ss]at he
   rw[c]at this
   simp only[aV]at this
   subst he
   exact .inr ⟨_,by rw[this]⟩
def RH:∀{xs:List ah} {s:List b7},qq xs=some s->s.length=xs.length
 |[],s,h=>by simp only[qq]at h;cases h;rfl
 |x::xs,s,h=>by
  cases x<;>try(simp[qq]at h;done)
  rename_i k n;cases k<;>simp only[qq,gI,reduceCtorEq]at h;obtain⟨a,J,rfl⟩:=h;simp[RH J]
def AV(n:Int):b7:=sS n.toNat
def RI{w:World}{Z:a8}{sz:Nat}:∀{xs:List ah} {s:List b7} {us:List Value},qq xs=some s->dk w Z sz xs us->∃ns:List Int,us=ns.map (pz .u8)/\s=ns.map AV/\us.length=xs.length
 |[],s,us,h,a=>by simp only[qq]at h;cases h;simp only[dk]at a;subst a;exact⟨[],rfl,rfl,rfl⟩
 |x::xs,s,us,h,a=>by
  cases x<;>try(simp[qq]at h;done)
  rename_i k n;cases k<;>simp only[qq,gI,reduceCtorEq]at h;obtain⟨d,J,rfl⟩:=h;simp only[dk,aV]at a;obtain⟨u,c,rfl,⟨rfl,_⟩,a⟩:=a;obtain⟨ns,rfl,rfl,b⟩:=RI J a;exact⟨n::ns,by simp[nu],rfl,by simp[nu]at b⊢;exact b⟩
def Zt{P:cE}{w:World}{f:Value->lK->Sem (ForInStep lK)}(a:∀n s,f (.int .u8 n) s=pure (.yield (s.push (AV n)))):∀(ns:List Int) (s:lK),(forIn (ns.map (pz .u8)) s f).run P w= .ok ⟨(s.data.toList++ns.map AV).toArray⟩ w
 |[],s=>by simp
 |n::ns,s=>by simp only[fG,List.forIn_cons,fB,a,gx,fE];rw[Zt a ns];simp[ayd]
def adl{P:cE}{w:World}{A:Nat->Nat->Prop}{a:aZ Addr}{len cap:Nat}{ns:List Int}(g:ns.length=len)(h:len=0\/ ∃b off,a=some ⟨b,off,none⟩/\lB w A b off (ns.map (pz .u8))):
  (Conv.bytesToString (.slice a len cap)).run P w= .ok (.string ⟨(ns.map AV).toArray⟩) w:=by
 have d:∀c,a=some c->(loadCells c len).run P w= .ok (ns.map (pz .u8)).toArray w:=fun c e=>by
  rcases h with h|⟨b,off,f,U⟩
  ·subst h;have:ns=[]:=by cases ns<;>simp_all
   subst this;exact run_loadCells_list w c [] fun j v i=>by simp at i
  ·rw[f]at e;cases e;have:=aaL (P:=P) U;simpa[g]using this
 unfold Conv.bytesToString;cases a with
 |none=>
  have:ns=[]:=by
   rcases h with h|⟨b,off,f,U⟩
   ·subst h;cases ns<;>simp_all
   ·cases f
  subst this;simp;rfl
 |some c=>simp only[fB,d c rfl,fE,Array.forIn_toList,List.forIn_toArray];rw[Zt (fun n s=>rfl) ns ayc];simp
def QP{c d:ah}(h:Gm c d=true):c=d:=by unfold Gm at h;split at h<;>simp_all
def acm:∀{cs a:List ah},C1 cs a=true->cs=a
 |[],[],_=>rfl
 |[],_::_,h=>by simp[C1]at h
 |_::_,[],h=>by simp[C1]at h
 |c::cs,d::a,h=>by simp only[C1,cD]at h;rw[QP h.1,acm h.2]
def atD{w:World}{Z:a8}{c d:ah}{v:Value}(h:QO c d=true)(a:aV w Z d v):aV w Z c v:=by
 unfold QO at h;split at h
 ·simp only[dW]at h;subst h;simp only[aV]at a⊢;exact⟨a.1,fun e=>(by cases e),fun _ e=>(by cases e),fun _ _ e=>(by cases e),fun _ e=>(by cases e)⟩
 ·rw[QP h];exact a
def ack{w:World}{Z:a8}:∀{cs a:List ah} {us:List Value},AH cs a=true->c1 w Z a us->c1 w Z cs us
 |[],[],_,_,h=>h
 |[],_::_,_,h,_=>by simp[AH]at h
 |_::_,[],_,h,_=>by simp[AH]at h
 |c::cs,d::a,us,h,b=>by simp only[AH,cD]at h;simp only[c1]at b⊢;obtain⟨u,g,i,⟨j,f⟩,e⟩:=b;exact⟨u,g,i,⟨atD h.1 j,f⟩,ack h.2 e⟩
def atE{cs:List ah}{z:ah}(h:QT cs z=true):∃a,z= .agg a/\AH cs a=true:=by
 cases z<;>simp only[QT]at h;case agg a=>exact⟨a,rfl,h⟩
 all_goals cases h
def ai4(s:List b7)(n:Nat)(h:n<s.length):(⟨s.toArray⟩:lK)[n]? =some (s.getD n 0):=by
 have a:n<(⟨s.toArray⟩:lK).size:=by rw[FV];exact h
 have e:(⟨s.toArray⟩:lK)[n]? =some ((⟨s.toArray⟩:lK)[n]'a):=getElem?_pos (⟨s.toArray⟩:lK) n a;rw[e];congr 1;simp[List.getD,h];rfl
def JR(P:cE)(w:World)(k:IntKind)(i:Int)(y:Nat)(c:BoundsCode)(a:0<=i)(J:i<=y):(Instr.sliceBound (.int k i) y c).run P w= .ok i.toNat w:=by simp[Instr.sliceBound,asIntOf,a,J]
def RA(P:cE)(w:World)(a:Bool)(len cap:Nat)(lo hi:aZ Value)(l h:Int)(c:(lo=none/\l=0)\/ ∃k,lo=some (.int k l))(d:(hi=none/\h=len)\/ ∃k,hi=some (.int k h))
  (e:0<=l) (J:l<=h) (U:h<=len) (aA:len<=cap):(Instr.sliceBounds a len cap lo hi none).run P w= .ok (l.toNat,h.toNat,cap) w:=by
 rcases c with⟨rfl,rfl⟩|⟨k,rfl⟩<;>rcases d with⟨rfl,rfl⟩|⟨b,rfl⟩
 ·simp[Instr.sliceBounds]
 ·simp[Instr.sliceBounds,JR P w b h cap _ Ω Ω]
 ·simp[Instr.sliceBounds,JR P w k l len _ Ω Ω]
 ·simp[Instr.sliceBounds,JR P w b h cap _ Ω Ω,JR P w k l h.toNat _ Ω Ω]
def Zq{P:cE}{aT:List (Nat×eJ)}(aM:hl P aT=true):∀(gs:List Field),(gs.all fun f=>(eo aT f.type).isSome)=true->
  ∃places:List (Nat×Nat),gs.mapM (fun f=>(P.info? f.type).map fun i=>(f.offset,i.size))=some places/\
   ∀(i off t sz:Nat),(gs.map (fun f=>(f.offset,f.type)))[i]? =some (off,t)->(eo aT t).map (·.size)=some sz->places[i]? =some (off,sz)
 |[],_=>⟨[],Ψ,Ψ⟩
 |f::gs,h=>by
  simp only[List.all_cons,cD]at h;obtain⟨places,J,U⟩:=Zq aM gs h.2;obtain⟨g,a1⟩:=gk.1 h.1;obtain⟨i,d,z,e,p,c,o,n,m,k,l⟩:=(vj aM a1).ex;refine⟨(f.offset,g.size)::places,by simp[List.mapM_cons,e,c,J],fun j off t sz a b=>?_⟩;cases j with
  |zero=>simp only[fG,List.getElem?_cons_zero,dz,hW]at a⊢;obtain⟨rfl,rfl⟩:=a;rw[a1]at b;simpa using b
  |succ j=>simp only[fG,List.getElem?_cons_succ]at a⊢;exact U j off t sz a b
def k9{P:cE}{w:World}{x:Sem Value}{v:Value}(h:x.run P w= .ok v w):(do pure (Next.value (<-x)):Sem Next).run P w= .ok (.value v) w:=by simp[h]
def QS{p q:ah}(h:C3 p q=true):p=q:=by
 unfold C3 at h;split at h
 ·rw[acm h]
 ·cases h
 ·exact QP h
def QR(w:World)(Z:a8){p:ah}{v:Value}(h:AI p v=true):aV w Z p v/\c1 w Z (cells p) v.cells.toList:=by
 by_cases a:∃cs,p= .agg cs
 ·obtain⟨cs,rfl⟩:=a;cases v<;>simp only[AI]at h;case agg us=>have:=QQ w Z _ _ h;exact⟨by simp only[aV];exact⟨us,rfl,this⟩,by simpa[cells,nu]using this⟩
  all_goals cases h
 ·have b:AY p v=true/\v.oneCell'=true:=by cases p<;>simp only[AI,cD]at h<;>first|exact h|exact absurd ⟨_,rfl⟩ a
  have c:=KR w Z b.1;refine⟨c,?_⟩;have aA:cells p=[p]:=by cases p<;>first|rfl|exact absurd ⟨_,rfl⟩ a
  have d:v.cells= #[v]:=by have:=b.2;cases v<;>first|rfl|simp[Value.oneCell']at this
  rw[aA,d];simp only[c1];exact⟨v,[],rfl,⟨c,b.2⟩,rfl⟩
def Qg{P:cE}{aT:List (Nat×eJ)}(aM:hl P aT=true){t:Nat}{f:eJ}(e:eo aT t=some f)(w:World):∃z,(zeroValue t).run P w= .ok z w/\AI f.zero z=true/\z.cells.size=f.size:=by obtain⟨i,d,z,J,U,h,j,g,c,b,a⟩:=(vj aM e).ex;exact⟨z,by simp[zeroValue,typeInfo,J,c],b,a⟩
def Al{C:fb}{st:bn}{a:Act}{w:World}{Z:a8}(h:cZ C st a w Z):∀{xs:List dv} {os:List jk},wG xs os=true->cN w Z (xs.map (cg st.t)) (os.map a.eval)
 |[],[],_=>by simp[cN]
 |[],_::_,b=>by simp[wG]at b
 |_::_,[],b=>by simp[wG]at b
 |x::xs,o::os,b=>by simp only[wG,cD]at b;simp only[fG,cN];exact⟨_,_,rfl,eD h b.1,Al h b.2⟩
def aeM{P:cE}{w:World}{t:fF}(c:P.underlying t=some .bool)(d:Nat)(a b:Bool):(Op.equalIn (d+1) t (.bool a) (.bool b)).run P w= .ok (a==b) w:=by rw[Op.equalIn];simp only[fB,run_underlying c,fE,gx]
def aeN{P:cE}{w:World}{t:fF}{ms:Array (String×fF)}(a:P.underlying t=some (.interface ms))(d:Nat):(∀u x,(Op.equalIn (d+1) t (.iface u x) .nilIface).run P w= .ok false w)/\(Op.equalIn (d+1) t .nilIface .nilIface).run P w= .ok true w:=by
 constructor
 ·intro u x;simp[Op.equalIn,run_underlying a]
 ·simp[Op.equalIn,run_underlying a]
def Hg{P:cE}{w:World}{t:fF}{ms:Array (String×fF)}(a:P.underlying t=some (.interface ms)):(∀u x,(Op.equal t (.iface u x) .nilIface).run P w= .ok false w)/\(Op.equal t .nilIface .nilIface).run P w= .ok true w:=aeN a 9999
def aeO{P:cE}{w:World}{t:fF}(c:P.underlying t=some .bool)(a b:Bool):(Op.equal t (.bool a) (.bool b)).run P w= .ok (a==b) w:=aeM c _ a b
def Uv:∀{borns:List Nat} {kvs:List ah} {us:List Value},kvs.length=2*borns.length->us.length=kvs.length->(gi borns us).length=borns.length
 |[],_,us,_,_=>by simp[gi]
 |cf::a,kvs,[],J,U=>by rw[J]at U;simp at U
 |cf::a,kvs,[_],J,U=>by rw[J]at U;simp at U;omega
 |cf::a,kvs,k::v::us,J,U=>by simp only[gi,ik];rw[Uv (kvs:=kvs.drop 2) (us:=us) (borns:=a) (by simp at J⊢;omega) (by simp at J U⊢;omega)]
def aaC{w:World}{Z:a8}:∀{a:List ah} {bf:List Value},cN w Z a bf->bf.length=a.length
 |[],bf,h=>by simp only[cN]at h;subst h;rfl
 |p::a,bf,h=>by simp only[cN]at h;obtain⟨u,b,rfl,_,U⟩:=h;simp[aaC U]
def wV{P:cE}{w:World}{r:Nat}{o:Obj}(ae:w.heap[r]? =some o)(a:∀c e f,o≠ .cells c e f:=by simp):(getObj r).run P w= .ok o w:=by simp only[getObj,Sem.run,ae]
def rT(P:cE):Nat->List Bool->List Field->Prop
 |_,[],[]=>True
 |n,b::r,f::gs=>(f.offset=n/\f.name≠ "_" /\(if b=true then P.underlying f.type=some .string else∃k,P.underlying f.type=some (.int k)))/\rT P (n+1) r gs
 |_,_,_=>eF
def FA{P:cE}{t:fF}{b:Bool}(h:if b=true then P.underlying t=some .string else∃k,P.underlying t=some (.int k)):P.plainKey t=true:=by
 cases b
 ·obtain⟨k,h⟩:=(by simpa using h:∃k,P.underlying t=some (.int k));simp[Program.plainKey,h]
 ·have h:P.underlying t=some .string:=by simpa using h
  simp[Program.plainKey,h]
def adM{P:cE}{w:World}{Z:a8}(d:Nat){X Y:Array Value}(A:List Bool):∀(gs:List Field) (n:Nat) (asQ g:List ah) (us bf:List Value) (q:Bool),rT P n A gs->X.toList.drop n=us->Y.toList.drop n=bf->c1 w Z asQ us->c1 w Z g bf->kY A asQ g=some q->
  (Op.eqFields (d+1) X Y gs).run P w= .ok q w/\(q=true->us=bf)/\∀m,(us.zip us).all (fun(x,y)=>Instr.sameBits m x y)=true:=by
 induction A with
 |nil=>intro gs n asQ g us bf q a1 o s J U h;cases asQ<;>cases g<;>simp only[kY,dz,reduceCtorEq]at h;cases gs<;>simp only[rT]at a1;simp only[c1]at J U;rw[J,U,<-h];exact⟨by simp[Op.eqFields],fun _=>rfl,fun m=>rfl⟩
 |cons z r K=>
  intro gs n asQ g us bf q a1 o s J U h;cases gs with
  |nil=>simp only[rT]at a1
  |cons f gs=>
  simp only[rT]at a1;obtain⟨⟨L,H,l⟩,a1⟩:=a1;cases asQ with
  |nil=>cases z<;>cases g<;>simp[kY]at h
  |cons p asQ=>
  cases g with
  |nil=>cases z<;>cases p<;>simp[kY]at h
  |cons t g=>
  cases z with
  |false=>
   have aA:∃k a b c,p= .int k a/\t= .int k b/\kY r asQ g=some c/\q=((a==b)&&c):=by
    cases p<;>first|(simp[kY]at h;done)|skip
    cases t<;>first|(simp[kY]at h;done)|skip
    simp only[kY]at h;split at h
    ·rename_i O;subst O;simp only[gI]at h;obtain⟨c,j,D⟩:=h;exact⟨_,_,_,c,rfl,rfl,j,D.symm⟩
    ·cases h
   obtain⟨k,a,b,c,rfl,rfl,j,rfl⟩:=aA;simp only[c1,aV]at J U;obtain⟨u,B,rfl,⟨rfl,_⟩,J⟩:=J;obtain⟨v,vs',rfl,⟨rfl,_⟩,U⟩:=U;have G:X[n]? =some (.int k a):=by rw[<-uh,<-List.head?_drop,o];rfl
   have E:Y[n]? =some (.int k b):=by rw[<-uh,<-List.head?_drop,s];rfl
   obtain⟨i1,i2,i3⟩:=K gs (n+1) asQ g B vs' c a1 (by rw[<-List.tail_drop,o];rfl) (by rw[<-List.tail_drop,s];rfl) J U j;obtain⟨M,F⟩:=(by simpa using l:∃k,P.underlying f.type=some (.int k));refine⟨?_,?_,fun m=>?_⟩
   ·simp only[Op.eqFields,H,ne_eq,not_false_eq_true,if_true,fB,L,run_part_plain w (FA l) G,run_part_plain w (FA l) E,fE,run_equalIn_int w d f.type k M a b F];cases N:(a==b)
    ·simp
    ·simpa using i1
   ·intro i;simp only[cD,dW]at i;rw[i.1,i2 i.2]
   ·have:=i3 m;simp only[List.zip_cons_cons,List.all_cons,this,Bool.and_true];cases m<;>simp[Instr.sameBits]
  |true=>
   have aA:∃a b c,p= .str a/\t= .str b/\kY r asQ g=some c/\q=((a==b)&&c):=by
    cases p<;>first|(simp[kY]at h;done)|skip
    cases t<;>first|(simp[kY]at h;done)|skip
    simp only[kY,gI]at h;obtain⟨c,j,D⟩:=h;exact⟨_,_,c,rfl,rfl,j,D.symm⟩
   obtain⟨a,b,c,rfl,rfl,j,rfl⟩:=aA;simp only[c1,aV]at J U;obtain⟨u,B,rfl,⟨⟨rfl,_⟩,_⟩,J⟩:=J;obtain⟨v,vs',rfl,⟨⟨rfl,_⟩,_⟩,U⟩:=U;have G:X[n]? =some (.string ⟨a.toArray⟩):=by rw[<-uh,<-List.head?_drop,o];rfl
   have E:Y[n]? =some (.string ⟨b.toArray⟩):=by rw[<-uh,<-List.head?_drop,s];rfl
   obtain⟨i1,i2,i3⟩:=K gs (n+1) asQ g B vs' c a1 (by rw[<-List.tail_drop,o];rfl) (by rw[<-List.tail_drop,s];rfl) J U j;have F:P.underlying f.type=some .string:=by simpa using l
   refine⟨?_,?_,fun m=>?_⟩
   ·simp only[Op.eqFields,H,ne_eq,not_false_eq_true,if_true,fB,L,run_part_plain w (FA l) G,run_part_plain w (FA l) E,fE,run_equalIn_string w d f.type _ _ F];have e:((⟨a.toArray⟩:lK).toList==(⟨b.toArray⟩:lK).toList)=(a==b):=by rw[atH,atH]
    rw[e];cases N:(a==b)
    ·simp
    ·simpa using i1
   ·intro i;simp only[cD,dW]at i;rw[i.1,i2 i.2]
   ·have:=i3 m;simp only[List.zip_cons_cons,List.all_cons,this,Bool.and_true];cases m<;>simp only[Instr.sameBits]<;>exact(MapKept.bytes_beq _ _).2 rfl
def U6{P:cE}{aT:List (Nat×eJ)}(aM:hl P aT=true):∀(eg:List Bool) (gs:List Field) (n:Nat),Bn aT n eg (gs.map fun f=>(f.offset,f.type))=true->(gs.all (fun f=>match P.underlying f.type with|some (.int _)=>true|some .string=>true|_=>false)=true)/\((∀f∈gs,f.name≠ "_")->rT P n eg gs)
 |[],[],_,_=>⟨rfl,fun _=>trivial⟩
 |[],_::_,_,h=>by simp[Bn]at h
 |_::_,[],_,h=>by simp[Bn]at h
 |b::r,f::gs,n,h=>by
  simp only[fG,Bn,cD,dW]at h;obtain⟨⟨J,U⟩,aq⟩:=h;obtain⟨i1,i2⟩:=U6 aM r gs (n+1) aq;split at U
  ·rename_i aH;obtain⟨d,hu,aQ⟩:=ij aM aH;obtain rfl:=Dz aQ;refine⟨by simp only[List.all_cons,hu,i1,Bool.and_self],fun av=>⟨⟨J,av f Ψ,?_⟩,i2 fun g a1=>av g (by simp[a1])⟩⟩;have:b=false:=by simpa using U
   subst this;simpa using⟨_,hu⟩
  ·rename_i aH;obtain⟨d,hu,aQ⟩:=ij aM aH;obtain rfl:=xr aQ;refine⟨by simp only[List.all_cons,hu,i1,Bool.and_self],fun av=>⟨⟨J,av f Ψ,?_⟩,i2 fun g a1=>av g (by simp[a1])⟩⟩;subst U;simpa using hu
  ·cases U
def U8{P:cE}{aT:List (Nat×eJ)}(aM:hl P aT=true){a:List Bool}{t:Nat}(h:Hp aT a t=true):∃gs,P.underlying t=some (.struct gs)/\rT P 0 a gs.toList/\P.stoodInHeld t=false/\P.eqGuardType P.depth t=false:=by
 unfold Hp at h;split at h
 ·rename_i c;obtain⟨d,hu,b⟩:=ij aM c;have aA:=(vj aM c).cmp d hu;cases d<;>simp[kv]at b;rename_i gs;subst b;obtain⟨i1,i2⟩:=U6 aM a gs.toList 0 h;have e:U7 P gs=true:=i1;simp only[Lk,e,Bool.not_true,Bool.false_or,T8,cD,Bool.not_eq_true',iW,bne_iff_ne,ne_eq]at aA;exact⟨gs,hu,i2 aA.1.1,aA.1.2,aA.2⟩
 ·cases h
def Uz{P:cE}{w:World}{Z:a8}{t:fF}{gs:Array Field}{a:List Bool}(hu:P.underlying t=some (.struct gs))(a1:rT P 0 a gs.toList)(dd:P.stoodInHeld t=false){asQ b:List ah}{X Y:Array Value}(J:c1 w Z asQ X.toList)(U:c1 w Z b Y.toList){q:Bool}(h:kY a asQ b=some q):
  (Op.equalIn 10000 t (.agg X) (.agg Y)).run P w= .ok q w/\(q=true->X=Y)/\∀m,(X.toList.zip X.toList).all (fun(x,y)=>Instr.sameBits m x y)=true:=by
 have c:P.fieldsOf t=gs:=by simp[Program.fieldsOf,hu]
 obtain⟨i1,i2,i3⟩:=adM 9998 a gs.toList 0 asQ b _ _ q a1 rfl rfl J U h;refine⟨?_,fun e=>?_,?_⟩
 ·rw[run_equalIn_struct w 9999 t X Y (by rw[c];exact hu) dd,c];exact i1
 ·have:=i2 e;simpa using this
 ·simpa using i3
inductive vs (P:cE):ka->fF->Prop
 |i {t:fF} {k:IntKind}:P.underlying t=some (.int k)->vs P .i t
 |s {t:fF}:P.underlying t=some .string->vs P .s t
 |a {t:fF} {eg:List Bool} {gs:Array Field}:P.underlying t=some (.struct gs)->rT P 0 eg gs.toList->P.stoodInHeld t=false->vs P (.a eg) t
def NB{P:cE}{aT:List (Nat×eJ)}(aM:hl P aT=true){b:ka}{t:Nat}(h:zP aT b t=true):vs P b t:=by
 cases b with
 |i=>
  simp only[zP]at h;split at h
  ·rename_i e;obtain⟨d,hu,c⟩:=ij aM e;obtain rfl:=Dz c;exact .i hu
  ·cases h
 |s=>
  simp only[zP]at h;split at h
  ·rename_i e;obtain⟨d,hu,c⟩:=ij aM e;obtain rfl:=xr c;exact .s hu
  ·cases h
 |a g=>obtain⟨gs,J,U,f,_⟩:=U8 aM h;exact .a J U f
def uu(P:cE)(w:World)(c:ka)(t:fF)(a u:Value)(b:Bool):Prop:=match c with
 | .a _=>(Op.equal t a u).run P w= .ok b w
 |_=> ∀d,P.underlying t=some d->Instr.sameNow d a u=some b
def iN(P:cE)(w:World)(b:ka)(t:fF)(a:Value)(es:List MapEntry)(i:Nat)(r:aZ (Nat×Value)):Prop:=match b with
 | .a _=>(Instr.findAsking t a es i).run P w= .ok r w
 |_=> ∀d,P.underlying t=some d->Instr.findNow d a es i=some r
def iN.nil(P:cE)(w:World)(a:ka)(t:fF)(b:Value)(i:Nat):iN P w a t b [] i none:=by cases a<;>simp[iN,Instr.findAsking,Instr.findNow]
def iN.hit{P:cE}{w:World}{b:ka}{t:fF}{f:Value}{e:MapEntry}{es:List MapEntry}{i:Nat}(h:uu P w b t f e.key true):iN P w b t f (e::es) i (some (i,e.val)):=by
 cases b with
 |a g=>simp only[uu]at h;simp[iN,Instr.findAsking,h]
 |i=>simp only[uu]at h;simp only[iN];intro d c;simp[Instr.findNow,h d c]
 |s=>simp only[uu]at h;simp only[iN];intro d c;simp[Instr.findNow,h d c]
def iN.miss{P:cE}{w:World}{f:ka}{t:fF}{g:Value}{e:MapEntry}{es:List MapEntry}{i:Nat}{r:aZ (Nat×Value)}(h:uu P w f t g e.key false)(b:iN P w f t g es (i+1) r):iN P w f t g (e::es) i r:=by
 cases f with
 |a j=>simp only[uu]at h;simp only[iN]at b;simp[iN,Instr.findAsking,h,b]
 |i=>simp only[uu]at h;simp only[iN]at b⊢;intro d c;simp[Instr.findNow,h d c,b d c]
 |s=>simp only[uu]at h;simp only[iN]at b⊢;intro d c;simp[Instr.findNow,h d c,b d c]
def iN.run{P:cE}{w:World}{c:ka}{t:fF}(d:vs P c t){b:Value}{es:List MapEntry}{r:aZ (Nat×Value)}(h:iN P w c t b es 0 r):(Instr.findKey t b es).run P w= .ok r w:=by
 cases d with
 |i hu=>simp only[iN]at h;simp[Instr.findKey,run_underlying hu,h _ hu]
 |s hu=>simp only[iN]at h;simp[Instr.findKey,run_underlying hu,h _ hu]
 |a hu a1 dd=>
  simp only[iN]at h;cases es with
  |nil=>simp[Instr.findAsking]at h;simp[Instr.findKey,run_underlying hu,Instr.findNow,h]
  |cons e es=>
   rename_i gs;have:Instr.sameNow (.struct gs) b e.key=none:=by cases b<;>rfl
   simp only[Instr.findKey,fB,run_underlying hu,fE,Instr.findNow,this];exact h
def XD{P:cE}{w:World}{Z:a8}{h:ka}{t:fF}(c:vs P h t){k j:ah}{g u:Value}(f:aV w Z k g)(J:aV w Z j u){bb:Bool}(ae:uY h k j=some bb):
  uu P w h t g u bb/\(bb=true->u=g/\Instr.sameBits 10000 u g=true):=by
 unfold uY at ae;split at ae
 ·split at ae
  ·rename_i l;subst l;simp only[aV]at f J;subst f;subst J;cases c with
   |i hu=>refine⟨fun d c=>by rw[hu]at c;cases c;simpa[Instr.sameNow]using ae,fun e=>?_⟩;subst e;simp only[dz,dW]at ae;subst ae;exact⟨rfl,by simp[Instr.sameBits]⟩
  ·cases ae
 ·rename_i a b;simp only[aV]at f J;obtain⟨rfl,_⟩:=f;obtain⟨rfl,_⟩:=J;cases c with
  |s hu=>
   refine⟨fun d c=>?_,fun e=>?_⟩
   ·rw[hu]at c;cases c;simp only[Instr.sameNow];rw[<-ae];congr 1;rw[rO,MapKept.bytes_beq];simp
   ·subst e;simp only[dz,dW]at ae;subst ae;exact⟨rfl,by simp only[Instr.sameBits];exact(MapKept.bytes_beq _ _).2 rfl⟩
 ·simp only[aV]at f J;obtain⟨X,rfl,f⟩:=f;obtain⟨Y,rfl,J⟩:=J;cases c with
  |a hu a1 dd=>obtain⟨i1,i2,i3⟩:=Uz hu a1 dd f J ae;refine⟨by simpa[uu,Op.equal,Op.maxDepth]using i1,fun e=>?_⟩;have:=i2 e;subst this;exact⟨rfl,by simp[Instr.sameBits,i3]⟩
 ·cases ae
def N6{P:cE}{w:World}{Z:a8}{c:ka}{t:fF}(p:vs P c t){k:ah}{f:Value}(o:aV w Z k f):∀(borns:List Nat) (kvs:List ah) (us:List Value) (i:Nat) (r:aZ ah),cN w Z kvs us->kvs.length=2*borns.length->x9 c k kvs=some r->
  match r with
  |none=>iN P w c t f (gi borns us) i none
  |some v=> ∃j u,iN P w c t f (gi borns us) i (some (j,u))/\aV w Z v u
 |[],[],us,i,r,h,_,hm=>by simp only[x9]at hm;cases hm;simp only[cN]at h;subst h;simpa[gi]using iN.nil P w c t f i
 |[],_::_,_,_,_,_,a,_=>by simp at a
 |b::l,[],_,_,_,_,a,_=>by simp at a
 |b::l,[_],_,_,_,_,a,_=>by simp at a;omega
 |b::l,s::v::kvs,us,i,r,h,a,hm=>by
  simp only[cN]at h;obtain⟨g,y,rfl,J,d,q,rfl,U,x⟩:=h;simp only[x9]at hm;simp only[gi];cases m:uY c k s with
  |none=>simp[m]at hm
  |some bb=>
   obtain⟨s1,_⟩:=XD p o J m;simp only[m]at hm;cases bb with
   |true=>simp only[dz]at hm;subst hm;exact⟨i,d,iN.hit (e:=⟨g,d,b⟩) s1,U⟩
   |false=>
    simp only at hm;have n:=N6 p o l kvs q (i+1) r x (by simp at a;omega) hm;cases r with
    |none=>exact iN.miss (e:=⟨g,d,b⟩) s1 n
    |some v'=>obtain⟨j,u,g1,g2⟩:=n;exact⟨j,u,iN.miss (e:=⟨g,d,b⟩) s1 g1,g2⟩
def Lj{P:cE}{w:World}{t:Nat}{d:TypeDesc}(hu:P.underlying t=some d)(a:(∃k,d= .int k)\/d= .string)(e:Bool)(n:Nat)(v:Value):(Instr.checkKey e (n+1) t v).run P w= .ok () w:=by unfold Instr.checkKey;rcases a with⟨k,rfl⟩|rfl<;>simp[run_underlying hu]
def ahZ{P:cE}{w:World}{Z:a8}{X:Array Value}(i:List Bool):∀(gs:List Field) (n:Nat) (asQ:List ah),rT P n i gs->c1 w Z asQ (X.toList.drop n)->(kY i asQ asQ).isSome=true->
  ∀f∈gs,(∃v,(part f.type X f.offset).run P w= .ok v w)/\∃d,P.underlying f.type=some d/\((∃k,d= .int k)\/d= .string):=by
 induction i with
 |nil=>intro gs n asQ a1 _ _ f a;cases gs<;>simp only[rT]at a1;cases a
 |cons b r o=>
  intro gs n asQ a1 j aA f a;cases gs with
  |nil=>cases a
  |cons g gs=>
  simp only[rT]at a1;obtain⟨⟨t,y,c⟩,a1⟩:=a1;cases asQ with
  |nil=>cases b<;>simp[kY]at aA
  |cons p asQ=>
  have l:(kY r asQ asQ).isSome=true:=by cases b<;>cases p<;>simp[kY]at aA⊢ <;>exact aA
  simp only[c1]at j;obtain⟨u,q,e,_,m⟩:=j;have s:X.toList.drop (n+1)=q:=by rw[<-List.tail_drop,e];rfl
  have x:X[n]? =some u:=by rw[<-uh,<-List.head?_drop,e];rfl
  rcases gj.1 a with rfl|a
  ·refine⟨⟨u,by rw[t];exact run_part_plain w (FA c) x⟩,?_⟩;cases b
   ·obtain⟨k,h⟩:=(by simpa using c:∃k,P.underlying f.type=some (.int k));exact⟨_,h,.inl ⟨k,rfl⟩⟩
   ·exact⟨_,by simpa using c,.inr rfl⟩
  ·exact o gs (n+1) asQ a1 (by rw[s];exact m) l f a
def Vg{P:cE}{w:World}{α:Type}(body:α->PUnit->Sem (ForInStep PUnit)):∀(l:List α),(∀f∈l,(body f ⟨⟩).run P w= .ok (.yield ⟨⟩) w)->(forIn l PUnit.unit body).run P w= .ok PUnit.unit w
 |[],_=>by simp
 |f::l,h=>by simp only[List.forIn_cons,fB,h f Ψ,fE];exact Vg body l fun g a1=>h g (by simp[a1])
def PD{P:cE}{w:World}{Z:a8}{ct:ka}{t:Nat}(aQ:vs P ct t)(e:Bool){k:ah}{v:Value}(ad:aV w Z k v)(hi:x1 ct k=true):(Instr.checkKey e 10000 t v).run P w= .ok () w:=by
 cases aQ with
 |i hu=>exact Lj hu (.inl ⟨_,rfl⟩) e 9999 v
 |s hu=>exact Lj hu (.inr rfl) e 9999 v
 |a hu a1 dd=>
  rename_i eg gs;cases k<;>simp only[x1,hI]at hi;rename_i asQ;simp only[aV]at ad;obtain⟨X,rfl,ad⟩:=ad;unfold Instr.checkKey;simp only[fB,run_underlying hu,fE];rw[<-Array.forIn_toList];rw[Vg]
  ·simp
  ·intro f aH;obtain⟨⟨v,J⟩,d,U,aq⟩:=ahZ eg gs.toList 0 asQ a1 (by simpa using ad) hi f aH;have a6:=Lj (w:=w) U aq e 9998 v;by_cases av:f.name= "_"
   ·simp[av]
   ·simp[av,J,a6]
def Yo{w:World}{Z:a8}{n:Nat}:∀(borns:List Nat) (kvs:List ah) (us:List Value) (p:ah),cN w Z kvs us->nT n borns kvs=some p->∃e,(gi borns us).find? (·.born==n)=some e/\aV w Z p (.tuple #[e.key,e.val])
 |[],_,_,_,_,hm=>by simp[nT]at hm
 |_::_,[],_,_,_,hm=>by simp[nT]at hm
 |_::_,[_],_,_,_,hm=>by simp[nT]at hm
 |b::g,k::v::kvs,us,p,h,hm=>by
  simp only[cN]at h;obtain⟨d,j,rfl,J,c,f,rfl,U,i⟩:=h;simp only[nT]at hm;simp only[gi];by_cases e:b=n
  ·rw[if_pos e]at hm;cases hm;refine⟨⟨d,c,b⟩,by simp[List.find?,e],?_⟩;simp only[aV];exact⟨#[d,c],rfl,by simp only[cN];exact⟨_,_,rfl,J,_,_,rfl,U,rfl⟩⟩
  ·rw[if_neg e]at hm;obtain⟨x,g1,g2⟩:=Yo g kvs f p i hm;have a:(b==n)=false:=by simpa using e
   exact⟨x,by simp[List.find?,a,g1],g2⟩
def abp{P:cE}{aT:List (Nat×eJ)}(aM:hl P aT=true){C:fb}{st:bn}{a:Act}{w:World}{Z:a8}(B:cZ C st a w Z){i:gy}(ajt:∀ct z ok x k,i≠ .mgetB ct z ok x k){o:Oper}(al:Ga aT i o.op=true)
  {c:Prop} {p:ah} (he:ht st i=some (c,p)) (aA:c):∃v,(execOp a.eval o).run P w= .ok (.value v) w/\aV w Z p v:=by
 obtain⟨dst,op,type,pos,after,guard⟩:=o;simp only at al;unfold Ga at al;split at al
 ·rename_i x o;simp only[ht]at he;cases he;exact⟨_,rfl,eD B al⟩
 ·rename_i x o;simp only[ht]at he;cases he;exact⟨_,rfl,eD B al⟩
 ·rename_i cB x y at5 Gj aci;simp only[cD]at al;have J:=eD B al.1.1;have U:=eD B al.1.2;have H:=eD B al.2;simp only[ht,Jc]at he;split at he
  ·rename_i b ae;rw[ae]at J;simp only[aV]at J;split at he
   ·rename_i u v hu L;cases he;rw[hu]at U;rw[L]at H;simp only[aV]at U H;refine⟨.bool (cond b u v),?_,by simp[aV]⟩;simp only[execOp,J,U,H,asBool,fB,gx,fE];cases b<;>rfl
   ·split at he
    ·cases he;exact⟨_,by simp only[execOp,J,asBool,fB,gx,fE,if_true],U⟩
    ·cases he;exact⟨_,by simp only[execOp,J,asBool,fB,gx,fE,hI,if_false],H⟩
  ·cases he
 ·rename_i agg sz x t o;simp only[cD]at al;obtain⟨J,U⟩:=al;split at J
  ·rename_i f D;simp only[cD,dW]at J;obtain⟨rfl,rfl⟩:=J;obtain⟨v,g1,g2⟩:=IC aM B.good D (eD B U) pi aA;exact⟨v,k9 g1,g2⟩
  ·cases J
 ·rename_i off agg sz x s o i;simp only[cD]at al;obtain⟨J,U⟩:=al;split at J
  ·rename_i f D;split at J
   ·rename_i yd t Ea;simp only[cD,dW]at J;obtain⟨rfl,J⟩:=J;split at J
    ·rename_i g a1;simp only[cD,dW,bne_iff_ne,ne_eq]at J;obtain⟨⟨rfl,rfl⟩,M⟩:=J;obtain⟨v,g1,g2⟩:=ahT aM D rfl Ea a1 M (eD B U) pi aA;exact⟨v,k9 g1,g2⟩
    ·cases J
   ·cases J
  ·cases J
 ·rename_i off agg sz x s o i;simp only[cD]at al;obtain⟨J,U⟩:=al;split at J
  ·rename_i f D;split at J
   ·rename_i yd t Ea;simp only[cD,dW]at J;obtain⟨rfl,J⟩:=J;split at J
    ·rename_i g a1;simp only[cD,dW]at J;obtain⟨rfl,rfl⟩:=J;obtain⟨v,g1,g2⟩:=ah0 aM D rfl Ea a1 (eD B U) pi aA;exact⟨v,k9 g1,g2⟩
    ·cases J
   ·cases J
  ·cases J
 ·rename_i sz x i t o j;simp only[cD]at al;obtain⟨⟨J,U⟩,H⟩:=al;split at J
  ·rename_i e D;split at J
   ·rename_i g a1;simp only[dW]at J;subst J;obtain⟨v,g1,g2⟩:=akX aM D rfl a1 (eD B U) (eD B H) pi aA;exact⟨v,k9 g1,g2⟩
   ·cases J
  ·cases J
 ·rename_i x i t o j;simp only[cD]at al;obtain⟨⟨J,U⟩,H⟩:=al;split at J
  ·rename_i D;obtain⟨d,G,F⟩:=ij aM D;obtain rfl:=xr F;have A:=eD B U;have E:=eD B H;simp only[ht,JP]at he;split at he
   ·rename_i s k n ag O;cases he;rw[ag]at A;rw[O]at E;simp only[aV]at A E;obtain⟨vU,uI⟩:=aA;have bN:n.toNat<s.length:=Ω
    have ajQ:(⟨s.toArray⟩:lK)[n.toNat]? =some (s.getD n.toNat 0):=by exact ai4 s n.toNat bN
    refine⟨_,k9 (v:= .int .u8 (s.getD n.toNat 0).toNat) ?_,by simp[aV]⟩;simp only[Instr.index,E,asIntOf,A.1,fB,gx,fE,run_underlying G,vU,if_true,ajQ]
   ·cases he
  ·cases J
 ·rename_i x lo hi t o l h;simp only[cD]at al;obtain⟨⟨⟨J,U⟩,H⟩,a6⟩:=al;split at J
  ·rename_i D;obtain⟨d,G,F⟩:=ij aM D;obtain rfl:=xr F;have A:=eD B U;simp only[ht,JU]at he;split at he
   ·rename_i s ag;rw[ag]at A;simp only[aV]at A;split at he
    ·rename_i K Q ao MI;cases he;obtain⟨bP,c2,c3⟩:=aA;have V:=I3 B H ao;have bJ:=I3 B a6 MI;refine⟨_,k9 (v:= .string ⟨((s.take Q.toNat).drop K.toNat).toArray⟩) ?_,?_⟩
     ·have ae:=RA P w false s.length s.length (l.map a.eval) (h.map a.eval) K Q
       V bJ bP c2 c3 (e2 _)
      simp only[Instr.sliceAt,Instr.slice,A.1,fB,gx,fE,run_underlying G,Option.map_none,ny,hI,if_false,FV,ae,afL]
     ·simp only[aV];refine⟨trivial,?_⟩;have:=A.2;simp only[sO,oT];omega
    ·cases he
   ·cases he
  ·cases J
 ·rename_i sz x lo hi t o l h;simp only[cD]at al;obtain⟨⟨⟨J,U⟩,H⟩,a6⟩:=al;split at J
  ·rename_i e D;split at J
   ·rename_i g a1;simp only[dW]at J;subst J;obtain⟨d,G,F⟩:=ij aM D;obtain rfl:=r6 F;obtain⟨_,dS⟩:=w3 aM a1 w;have A:=eD B U;simp only[ht,ID]at he;split at he
    ·rename_i dO tag xs ag;split at he
     ·rename_i eu;subst eu;rw[ag]at A;simp only[aV]at A;obtain⟨⟨R,cap,L,S,W,gg⟩,_⟩:=A;split at he
      ·rename_i K Q ao MI;cases he;obtain⟨bP,c2,c3⟩:=aA;have V:=I3 B H ao;have bJ:=I3 B a6 MI;have ae:=RA P w true xs.length cap (l.map a.eval) (h.map a.eval) K Q
        V bJ bP c2 c3 S
       refine⟨_,k9 (v:= .slice (if cap=K.toNat then R else R.map (·.add (K.toNat*g.size))) (Q.toNat-K.toNat) (cap-K.toNat)) ?_,?_⟩
       ·simp only[Instr.sliceAt,Instr.slice,L,fB,gx,fE,run_underlying G,Option.map_none,ae,dS]
       ·simp only[aV];have hlen:((xs.take Q.toNat).drop K.toNat).length=Q.toNat-K.toNat:=by simp;omega
        refine⟨⟨_,_,by rw[hlen],by rw[hlen];omega,⟨Ω,by rw[hlen];omega⟩,?_⟩,(fun h=>by cases h),(fun g h=>by cases h),(fun _ _ h=>by cases h),(fun _ h=>by cases h)⟩;rcases gg with rfl|⟨b,off,us,rfl,g1,g2⟩
        ·left;simp
        ·by_cases tj:cap=K.toNat
         ·left;apply vn;rw[hlen];omega
         ·right;rw[if_neg tj];refine⟨b,off+K.toNat*g.size,(us.take (Q.toNat*g.size)).drop (K.toNat*g.size),by simp[pK],Iv _ (Ix _ g1),aat _ (aaw _ g2)⟩
      ·cases he
     ·cases he
    ·cases he
   ·cases J
  ·cases J
 ·rename_i op wr x y Zf ty o o' abl;simp only[cD,e3]at al;obtain⟨⟨rfl,J⟩,U⟩:=al;obtain⟨r,g1,g2⟩:=adp P w Z pi aA ty (eD B J) (eD B U) o o';exact⟨r,k9 g1,g2⟩
 ·rename_i x op ty o;simp only[cD,e3]at al;obtain⟨rfl,J⟩:=al;have A:=eD B J;simp only[ht]at he;unfold IX at he;split at he
  ·rename_i b ae;cases he;rw[ae]at A;simp only[aV]at A;exact⟨_,k9 (v:= .bool (!b)) (by simp[Op.unary,A]),by simp[aV]⟩
  ·cases he
 ·rename_i x op ty o;simp only[cD,e3]at al;obtain⟨rfl,J⟩:=al;have A:=eD B J;simp only[ht]at he;unfold IQ at he;split at he
  ·rename_i k n ae;cases he;rw[ae]at A;simp only[aV]at A;exact⟨_,k9 (v:= .int k (k.wrap (0-n))) (by simp[Op.unary,A,Op.intArith]),by simp[aV]⟩
  ·cases he
 ·rename_i k x s d o;simp only[cD]at al;obtain⟨J,U⟩:=al;split at J
  ·rename_i V bJ zj qB;simp only[e3]at J;subst J;obtain⟨d1,fI,Mt⟩:=ij aM zj;obtain rfl:=Dz Mt;obtain⟨d2,fc,Mu⟩:=ij aM qB;obtain rfl:=Dz Mu;have A:=eD B U;simp only[ht]at he;unfold G7 at he;split at he
   ·rename_i bt n ae;cases he;rw[ae]at A;simp only[aV]at A;exact⟨_,k9 (v:= .int k (k.wrap n)) (by simp[convert,A,run_underlying fI,run_underlying fc,Conv.intToInt]),by simp[aV]⟩
   ·cases he
  ·cases J
 ·rename_i i x o j;simp only[cD,dW]at al;obtain⟨rfl,J⟩:=al;have A:=eD B J;simp only[ht]at he;unfold Bc at he;split at he
  ·rename_i bf ae;simp only[gI]at he;obtain⟨q,N,he⟩:=he;cases he;rw[ae]at A;simp only[aV]at A;obtain⟨us,hu,U⟩:=A;obtain⟨v,g1,g2⟩:=JE i U N;have l4:us[i]? =some v:=by simpa using g1
   exact⟨v,k9 (by simp[Instr.extract,hu,l4]),g2⟩
  ·cases he
 ·rename_i x o t;simp only[cD]at al;obtain⟨J,U⟩:=al;have A:=eD B U;simp only[ht]at he;unfold B8 at he;split at he
  ·rename_i sz tag xs ae;cases he;rw[ae]at A;simp only[aV]at A;obtain⟨⟨R,cap,L,_⟩,_⟩:=A;refine⟨.int .i64 xs.length,?_,by simp[aV]⟩;split at J
   ·rename_i D;obtain⟨d,G,F⟩:=ij aM D;obtain rfl:=r6 F;simp[execOp,resolve,invoke,builtin,Builtin.len_,run_underlying G,L,goInt]
   ·cases J
  ·rename_i sz k n ae;cases he;rw[ae]at A;simp only[aV]at A;obtain⟨⟨R,cap,L⟩,_⟩:=A;refine⟨.int .i64 n,?_,by simp[aV]⟩;split at J
   ·rename_i D;obtain⟨d,G,F⟩:=ij aM D;obtain rfl:=r6 F;simp[execOp,resolve,invoke,builtin,Builtin.len_,run_underlying G,L,goInt]
   ·cases J
  ·rename_i R n cap ae;cases he;rw[ae]at A;simp only[aV]at A;refine⟨.int .i64 n,?_,by simp[aV]⟩;split at J
   ·rename_i D;obtain⟨d,G,F⟩:=ij aM D;obtain rfl:=r6 F;simp[execOp,resolve,invoke,builtin,Builtin.len_,run_underlying G,A,goInt]
   ·cases J
  ·cases he
 ·rename_i x o t;simp only[cD]at al;obtain⟨J,U⟩:=al;have A:=eD B U;simp only[ht]at he;unfold FW at he;split at he
  ·rename_i s ae;cases he;rw[ae]at A;simp only[aV]at A;refine⟨.int .i64 s.length,?_,by simp[aV]⟩;split at J
   ·rename_i D;obtain⟨d,G,F⟩:=ij aM D;obtain rfl:=xr F;simp[execOp,resolve,invoke,builtin,Builtin.len_,run_underlying G,A.1,goInt,FV]
   ·cases J
  ·rename_i s ae;cases he;rw[ae]at A;simp only[aV]at A;refine⟨.int .i64 s.size,?_,by simp[aV]⟩;split at J
   ·rename_i D;obtain⟨d,G,F⟩:=ij aM D;obtain rfl:=xr F;simp[execOp,resolve,invoke,builtin,Builtin.len_,run_underlying G,A,goInt]
   ·cases J
  ·cases he
 ·rename_i zero parts t cw;split at al
  ·rename_i eg z D;simp only[cD]at al;obtain⟨⟨J,U⟩,H⟩:=al;obtain⟨cU,bI,akW⟩:=atE J;obtain⟨i,d,atC,A,E,bo,cY,fQ,hc,r7,q7⟩:=(vj aM D).ex;obtain⟨gs,rfl,lp⟩:=Ln fQ;simp only at bI r7 q7;subst bI;have mE:(gs.toList.all fun f=>(eo aT f.type).isSome)=true:=by rw[<-lp]at U;simpa[List.all_map,Function.comp_def]using U
   obtain⟨places,da,dx⟩:=Zq aM gs.toList mE;rw[lp]at dx;cases atC<;>simp only[AI]at r7;case agg us=>
    simp only[ht]at he;cases ae:vD st.t zero parts with
    |none=>simp[ae]at he
    |some x=>obtain⟨cB,cs'⟩:=x;simp only[ae,nz]at he;cases he;obtain⟨b5,g1,g2⟩:=aaJ B dx parts cw.toList zero us c cs' H (ack akW (QQ w Z _ _ r7)) ae aA;refine⟨.agg b5,k9 (run_build w t _ b5 ?_),by simp only[aV];exact⟨b5,rfl,g2⟩⟩;simp only[Program.built,A,E,hc,da,nu];simpa using g1
   all_goals cases r7
  ·cases al
 ·rename_i x o;have A:=eD B al;simp only[ht]at he;unfold Cj at he;split at he
  ·rename_i k off ae;cases he;rw[ae]at A;have E:=A;simp only[aV]at A;obtain⟨b,_,L⟩:=A;exact⟨a.eval o,by simp[execOp,L],E⟩
  ·rename_i q ae;cases he;rw[ae]at A;have E:=A;simp only[aV]at A;obtain⟨b,off,u,L,_⟩:=A;exact⟨a.eval o,by simp[execOp,L],E⟩
  ·rename_i f cs ae;cases he;rw[ae]at A;have E:=A;simp only[aV]at A;obtain⟨us,L,_⟩:=A;have qH:a.eval o= .func (.func f) #[] us\/a.eval o= .func (.func (w5 f)) us #[]:=by rw[L];unfold uB;split;exact .inl rfl;exact .inr rfl
   exact⟨a.eval o,by rcases qH with qH|qH<;>simp[execOp,qH],E⟩
  ·cases he
 ·rename_i x y o o' t dP;simp only[cD]at al;have A:=eD B al.1;have E:=eD B al.2;simp only[ht]at he;unfold IP at he;split at he
  ·rename_i k m bt n hm O;split at he
   ·rename_i ad;subst ad;cases he;rw[hm]at A;rw[O]at E;simp only[aV]at A E;exact⟨.int k (if n<m then n else m),by simp[execOp,resolve,invoke,builtin,Builtin.min_,Builtin.min2,A,E],by simp[aV]⟩
   ·cases he
  ·cases he
 ·rename_i n xs m os;simp only[cD,e3]at al;obtain⟨⟨rfl,O⟩,al⟩:=al;simp only[ht]at he;cases he;have j3:=Al B al;refine⟨.func (.func n) #[] (os.map a.eval),by simp[execOp,Instr.makeFunc],?_⟩;simp only[aV];exact⟨os.map a.eval,by simp[uB,O],by simpa using j3⟩
 ·rename_i n xs m eW _;simp only[cD,e3]at al;obtain⟨rfl,al⟩:=al;simp only[ht]at he;cases he;have j3:=Al B al;refine⟨.func (.func m) (eW.map a.eval) #[],by simp[execOp,Instr.makeFunc],?_⟩;simp only[aV];exact⟨eW.map a.eval,(ah1 m _).symm,by simpa using j3⟩
 ·rename_i ct zero ok x k t o o' IY;simp only[cD,dW]at al;obtain⟨⟨⟨rfl,J⟩,U⟩,H⟩:=al;have A:=eD B U;have E:=eD B H;split at J
  ·rename_i sz l3 nQ qw z D;simp only[cD]at J;obtain⟨Ei,My⟩:=J;split at My
   ·rename_i auP HJ;have bI:=QS My;obtain⟨cX,hu,F⟩:=ij aM D;have uK:cX= .map nQ qw:=by cases cX<;>simp[kv]at F;obtain⟨rfl,rfl⟩:=F;rfl
    subst uK;obtain⟨bH,la,z2,_⟩:=Qg aM HJ w;rw[<-bI]at z2;have aa:=(QR w Z z2).1;have mX:=NB aM Ei;simp only[ht]at he;unfold pj at he;split at he
    ·rename_i key ab;rw[ab]at A;simp only[aV]at A;obtain⟨bl,S,W⟩:=A;split at he
     ·rename_i clock borns kvs iQ;obtain⟨jn,us,el,g1,g2,g3,g4,g5⟩:=B.good.box key _ iQ;rw[S]at g1;cases g1;simp only[jN]at g4;simp only[iI]at g5;have hL:(getObj bl).run P w= .ok (.map (gi borns us.toList).toArray clock) w:=wV g4;split at he
      ·cases he
      rename_i xJ;have xD:=PD (P:=P) (w:=w) mX ((gi borns us.toList).toArray.isEmpty) E (by simpa using xJ);split at he
      ·rename_i v hm;cases he;obtain⟨j,u,f1,f2⟩:=N6 mX E borns kvs us.toList 0 _ g5.1 g5.2.len hm;refine⟨if ok then .tuple #[u,.bool true]else u,?_,?_⟩
       ·simp only[execOp];refine k9 ?_;simp only[Instr.lookup,fB,run_underlying hu,fE,W,hL,gx,xD,f1.run mX]
       ·cases ok
        ·simpa using f2
        ·simp only[if_true,aV];exact⟨_,rfl,by simp only[cN];exact⟨_,_,rfl,f2,_,_,rfl,by simp[aV],rfl⟩⟩
      ·rename_i hm;cases he;have f1:=N6 mX E borns kvs us.toList 0 _ g5.1 g5.2.len hm;simp only at f1;refine⟨if ok then .tuple #[bH,.bool false]else bH,?_,?_⟩
       ·simp only[execOp];refine k9 ?_;simp only[Instr.lookup,fB,run_underlying hu,fE,W,hL,gx,xD,f1.run mX,la]
       ·cases ok
        ·simpa using aa
        ·simp only[if_true,aV];exact⟨_,rfl,by simp only[cN];exact⟨_,_,rfl,aa,_,_,rfl,by simp[aV],rfl⟩⟩
      ·cases he
     ·cases he
    ·cases he
   ·cases My
  ·cases J
 ·rename_i x o;have A:=eD B al;simp only[ht]at he;unfold qO at he;split at he
  ·rename_i fV ab;rw[ab]at A;simp only[aV]at A;obtain⟨bl,S,W⟩:=A;split at he
   ·rename_i since seen last mk iQ;obtain⟨jn,us,el,g1,g2,g3,g4,g5⟩:=B.good.box fV _ iQ;rw[S]at g1;cases g1;simp only[jN]at g4;simp only[iI,cN,aV]at g5;obtain⟨u,b5,pd,⟨mb,m1,rfl⟩,rfl⟩:=g5;rw[pd]at g4;simp only at g4;split at he
    ·rename_i clock borns kvs aj6;obtain⟨at3,qZ,auC,V,bJ,cz,fv,dw⟩:=B.good.box mk _ aj6;rw[m1]at V;cases V;simp only[jN]at fv;simp only[iI]at dw;split at he
     ·rename_i n O;simp only[gI]at he;obtain⟨q,N,he⟩:=he;cases he;obtain⟨e,f1,f2⟩:=Yo borns kvs qZ.toList p dw.1 N;refine⟨.tuple #[e.key,e.val],?_,f2⟩;simp only[execOp];refine k9 ?_;have ajM:(getObj bl).run P w= .ok (.mapIter (some mb) since seen.toArray last) w:=wV g4;have ajN:(getObj mb).run P w= .ok (.map (gi borns qZ.toList).toArray clock) w:=wV fv;have Mp:seen.toArray.back? =some n:=by simpa using O
      have Bx:(clock !=last)=false:=by simp[aA]
      have ajF:(gi borns qZ.toList).toArray.find? (·.born==n)=some e:=by simpa using f1
      simp only[Instr.entry,W,fB,ajM,fE,Mp,ajN,Bx,hI,if_false,ajF,gx]
     ·cases he
    ·cases he
   ·cases he
  ·cases he
 ·rename_i x o t;simp only[cD]at al;obtain⟨J,U⟩:=al;have A:=eD B U;simp only[ht]at he;unfold Ci at he;split at he
  ·rename_i key ae;rw[ae]at A;simp only[aV]at A;obtain⟨bl,S,W⟩:=A;split at he
   ·rename_i clock borns kvs iQ;cases he;obtain⟨jn,us,el,g1,g2,g3,g4,g5⟩:=B.good.box key _ iQ;rw[S]at g1;cases g1;simp only[jN]at g4;simp only[iI]at g5;have hL:(getObj bl).run P w= .ok (.map (gi borns us.toList).toArray clock) w:=wV g4;have hlen:(gi borns us.toList).length=borns.length:=Uv g5.2.len (aaC g5.1);refine⟨.int .i64 borns.length,?_,by simp[aV]⟩;split at J
    ·rename_i D;obtain⟨d,G,F⟩:=ij aM D;obtain⟨nQ,qw,rfl⟩:∃nQ qw,d= .map nQ qw:=by cases d<;>simp[kv]at F;exact⟨_,_,rfl⟩
     simp[execOp,resolve,invoke,builtin,Builtin.len_,run_underlying G,W,goInt,hL,hlen]
    ·cases J
   ·cases he
  ·cases he
 ·rename_i neg eg x y op t o o' abl;simp only[cD,e3]at al;obtain⟨⟨⟨rfl,M⟩,J⟩,U⟩:=al;have A:=eD B J;have E:=eD B U;simp only[ht]at he;unfold jm at he;split at he
  ·rename_i bu cf bD ae;simp only at M;cases he;rw[bD]at A;rw[ae]at E;simp only[aV]at A E;split at M
   ·rename_i D;obtain⟨d,G,F⟩:=ij aM D;obtain rfl:d= .bool:=by cases d<;>simp[kv]at F;rfl
    refine⟨.bool (if neg then bu !=cf else bu==cf),k9 ?_,by simp[aV]⟩;cases neg<;>simp[A,E,eqGuard,binOp,aeO G,bne]
   ·cases M
  ·rename_i auW asQ eW bD ae;simp only at M;simp only[gI]at he;obtain⟨q,N,he⟩:=he;cases he;rw[bD]at A;rw[ae]at E;simp only[aV]at A E;obtain⟨X,aeB,apb⟩:=A;obtain⟨Y,aeC,apc⟩:=E;obtain⟨gs,hu,a1,dd,jH⟩:=U8 aM M;obtain⟨i1,_,_⟩:=Uz hu a1 dd apb apc N;refine⟨.bool (if neg then !q else q),k9 ?_,by simp[aV]⟩;rw[aeB,aeC];cases neg
   ·simp only[hI,if_false,fB,run_eqGuard_agg w _ t o o' X Y jH,fE,run_eql_struct,i1]
   ·simp only[if_true,fB,run_eqGuard_agg w _ t o o' X Y jH,fE,run_neq_struct,i1]
  ·cases he
 ·rename_i x y o o' t dP;simp only[cD]at al;have A:=eD B al.1;have E:=eD B al.2;simp only[ht]at he;unfold IJ at he;split at he
  ·rename_i k m bt n hm O;split at he
   ·rename_i ad;subst ad;cases he;rw[hm]at A;rw[O]at E;simp only[aV]at A E;exact⟨.int k (if m<n then n else m),by simp[execOp,resolve,invoke,builtin,Builtin.max_,Builtin.max2,A,E],by simp[aV]⟩
   ·cases he
  ·cases he
 ·rename_i t x dP o;simp only[cD,dW]at al;obtain⟨⟨rfl,J⟩,U⟩:=al;have A:=eD B U;simp only[ht]at he;cases he;split at J
  ·rename_i D;obtain⟨d,G,F⟩:=ij aM D;obtain rfl:=r6 F;refine⟨.iface t (a.eval o),k9 (by simp[Instr.makeInterface,run_underlying G]),?_⟩;simp only[aV];exact⟨_,rfl,A⟩
  ·cases J
 ·rename_i agg sz x t o;simp only[cD]at al;obtain⟨J,U⟩:=al;split at J
  ·rename_i f D;simp only[cD,dW]at J;obtain⟨rfl,rfl⟩:=J;obtain⟨v,g1,g2⟩:=IC aM B.good D (eD B U) (alU pi) aA;exact⟨v,k9 g1,g2⟩
  ·cases J
 ·rename_i x s d o;simp only[cD]at al;obtain⟨J,U⟩:=al;split at J
  ·rename_i e _ _ zj qB;split at J
   ·rename_i ajE;obtain⟨d1,fI,Mt⟩:=ij aM zj;obtain rfl:=r6 Mt;obtain⟨d2,fc,Mu⟩:=ij aM qB;obtain rfl:=xr Mu;obtain⟨d3,gJ,ajB⟩:=ij aM ajE;obtain rfl:=Dz ajB;have A:=eD B U;simp only[ht]at he;unfold GG at he;split at he
    ·rename_i sz tag xs ae;simp only[gI]at he;obtain⟨eW,vS,he⟩:=he;cases he;rw[ae]at A;simp only[aV]at A;obtain⟨⟨R,cap,be,bC,bY,c8⟩,_⟩:=A;have ao:=RH vS;have ab:∃ns:List Int,ns.length=xs.length/\eW=ns.map AV/\(xs.length=0\/ ∃b off,R=some ⟨b,off,none⟩/\lB w Z.A b off (ns.map (pz .u8))):=by
      rcases c8 with rfl|⟨b,off,us,da,dx,ji⟩
      ·simp only[qq,dz]at vS;exact⟨[],rfl,by rw[<-vS];rfl,.inl rfl⟩
      ·obtain⟨ns,dN,ff,ks⟩:=RI vS ji;subst dN;exact⟨ns,by simpa using ks,ff,.inr ⟨b,off,da,dx⟩⟩
     obtain⟨ns,hh,rfl,iS⟩:=ab;refine⟨_,k9 (v:= .string ⟨(ns.map AV).toArray⟩) ?_,by simp only[aV];exact⟨trivial,by rw[ao];exact bY.2⟩⟩;rw[be];simp only[convert,fB,run_underlying fI,run_underlying fc,fE];simp only[run_underlying gJ,fB,fE,adl hh iS]
    ·cases he
   ·cases J
  ·cases J
 ·rename_i neg x op t o abl;simp only[cD,e3]at al;obtain⟨⟨rfl,M⟩,J⟩:=al;have A:=eD B J;split at M
  ·rename_i D;obtain⟨d,G,F⟩:=ij aM D;obtain⟨ms,rfl⟩:∃ms,d= .interface ms:=by cases d<;>simp[kv]at F;exact⟨_,rfl⟩
   simp only[ht]at he;unfold Ih at he;split at he
   ·rename_i ax5 q N;cases he;rw[N]at A;simp only[aV]at A;obtain⟨u,A,_⟩:=A;refine⟨.bool neg,k9 ?_,by simp[aV]⟩;rw[show a.eval (.const .nilIface)= .nilIface from rfl,A];cases neg<;>simp[eqGuard,binOp,(Hg (w:=w) G).1,(Hg (w:=w) G).2]
   ·rename_i N;cases he;rw[N]at A;simp only[aV]at A;refine⟨.bool (!neg),k9 ?_,by simp[aV]⟩;rw[show a.eval (.const .nilIface)= .nilIface from rfl,A];cases neg<;>simp[eqGuard,binOp,(Hg (w:=w) G).1,(Hg (w:=w) G).2]
   ·cases he
  ·cases M
 ·rename_i agg sz x t o;simp only[cD]at al;obtain⟨J,U⟩:=al;split at J
  ·rename_i f D;simp only[cD,dW]at J;obtain⟨rfl,rfl⟩:=J;obtain⟨v,g1,g2⟩:=IC aM B.good D (eD B U) (aia pi) aA;exact⟨v,k9 g1,g2⟩
  ·cases J
 ·exact absurd rfl (ajt _ _ _ _ _)
 ·cases al
def arX{P:cE}{aT:List (Nat×eJ)}(aM:hl P aT=true){C:fb}{st:bn}{a:Act}{w:World}{Z:a8}(d:cZ C st a w Z){i:gy}{o:Oper}(al:Ga aT i o.op=true)
  {c:Prop} {p:ah} (he:ht st i=some (c,p)) (aA:c):∃v,(execOp a.eval o).run P w= .ok (.value v) w/\aV w Z p v:=by
 by_cases ae:∃b z ok x k,i= .mgetB b z ok x k
 ·obtain⟨b,z,ok,x,k,rfl⟩:=ae;refine abp aM d (i:= .mget b z ok x k) (fun _ _ _ _ _ e=>by cases e) ?_ he aA;obtain⟨dst,op,type,pos,after,guard⟩:=o;cases op<;>first|exact al|simp[Ga]at al
 ·exact abp aM d (fun b z ok x k e=>ae ⟨b,z,ok,x,k,e⟩) al he aA
def T0{w:World}{o:Obj}{b i:Nat}(h:b<w.heap.size):(w.alloc o).cell? ⟨b,i,none⟩=w.cell? ⟨b,i,none⟩:=World.cell?_of_block (Below.heap_alloc w o b h)
def a8.withBox(Z:a8)(k:aB)(bl:Nat):a8:={Z with bx:=fun j=>if j=k then some bl else Z.bx j}
def a8.withOwn(Z:a8)(k:aB)(n:Nat)(v:Value):a8:={Z with ow:=fun j=>if j=k then some (n,v)else Z.ow j}
def cZ.lookNone{C:fb}{st:bn}{a:Act}{w:World}{Z:a8}(h:cZ C st a w Z){k:aB}(b:fresh st.n st.o k):look k st.b=none/\look k st.e=none:=by
 obtain⟨J,U,_⟩:=h.new k b;constructor
 ·cases ae:look k st.b with
  |none=>rfl
  |some cs=>obtain⟨bl,us,el,g1,_⟩:=h.good.box _ _ ae;rw[J]at g1;cases g1
 ·cases ae:look k st.e with
  |none=>rfl
  |some o=>obtain⟨v,us,g1,_⟩:=h.good.own _ _ ae;rw[U]at g1;cases g1
def Good.ownLt{pr:Nat->Prop}{w:World}{Z:a8}{b:List (aB×List ah)}{e:List (aB×er)}(h:Good pr w Z b e){g:aB}{o:er}(a1:look g e=some o){n:Nat}{v:Value}(a:Z.ow g=some (n,v)){bl:Nat}(ae:v.ownBlock=some bl):bl<w.heap.size:=by obtain⟨v',us,g1,g2,_⟩:=h.own g o a1;rw[a]at g1;cases g1;exact(g2.lt bl ae).2
def Good.boxLt{pr:Nat->Prop}{w:World}{Z:a8}{b:List (aB×List ah)}{e:List (aB×er)}(h:Good pr w Z b e){k:aB}{cs:List ah}(a:look k b=some cs){bl:Nat}(ae:Z.bx k=some bl):bl<w.heap.size:=by obtain⟨c,us,el,g1,_,_,g4,_⟩:=h.box k cs a;rw[ae]at g1;cases g1;exact(Array.getElem?_eq_some_iff.1 g4).1
def cZ.newBox{C:fb}{st:bn}{a:Act}{w:World}{Z:a8}(h:cZ C st a w Z){c:aB}(Q:Z.bx c=none/\Z.ow c=none/\∀j b,¬Z.tr c j b){n':Nat}{o':List aB}(E:∀j,fresh n' o' j->fresh st.n st.o j/\j≠c){cs:List ah}{us:Array Value}(el:Kk c)(aA:iI w Z cs us.toList):
  cZ C {st with b:=cG c cs st.b,n:=n',o:=o'} a (w.alloc (jN cs us el.1)) (Z.withBox c w.heap.size)/\
  aV (w.alloc (jN cs us el.1)) (Z.withBox c w.heap.size) (.ptr c 0) (.pointer (some ⟨w.heap.size,0,none⟩)):=by
 obtain⟨G,P,B⟩:=Q;have al:l1 w Z (w.alloc (jN cs us el.1)) (Z.withBox c w.heap.size):=by
  refine⟨fun b o bj=>⟨bj,T0 (h.good.alt b o bj)⟩,fun k b _ d=>?_,fun g n u _ a1=>⟨n,u,a1,.inl ⟨rfl,rfl⟩⟩,fun b o bj=>wX (Below.heap_alloc w _ b (h.good.alt b o bj)),fun _ _ _ _ h=>h⟩;have:k≠c:=fun e=>by subst e;rw[G]at d;cases d
  simp[a8.withBox,this,d]
 have z:(w.alloc (jN cs us el.1)).heap.size=w.heap.size+1:=Ψ
 have r:∀k,(look k (cG c cs st.b)).isSome->k=c\/(k≠c/\(look k st.b).isSome/\(Z.withBox c w.heap.size).bx k=Z.bx k):=by
  intro k d;by_cases e:k=c
  ·exact .inl e
  ·rw[jL,if_neg (lb e)]at d;exact .inr ⟨e,d,by simp[a8.withBox,e]⟩
 refine⟨h.over al rfl ⟨fun bl o bj=>by rw[z];have:=h.good.alt bl o bj;omega,fun k y d=>?_,fun k q bl d K l p=>?_,fun g o a1=>?_,h.good.oinj,fun g k n v bl a1 d F ae t=>?_,fun k=>?_,fun bl ae k j aM=>?_⟩
  ⟨h.fr.os,h.fr.tape,h.fr.output,by rw[z];have:=h.fr.size;omega,fun k d hm=>?_,fun b o bj=>?_,h.fr.fresh,fun n b ae=>?_,h.fr.obn,h.fr.row,h.fr.obr,h.fr.trd,fun k j b ae=>⟨(h.fr.trb k j b ae).1,by rw[z];have:=(h.fr.trb k j b ae).2;omega⟩,fun k j b ae=>?_,fun b o bj=>(al.sh b o (h.fr.keep b o bj).1).trans (h.fr.sh b o bj),h.fr.nrow⟩ (fun m hm=>?_) (fun m hm=>(E m hm).1),?_⟩
 ·simp only at d;rw[jL]at d;by_cases e:c=k
  ·rw[if_pos e]at d;cases d;subst e;refine⟨w.heap.size,us,el,by simp[a8.withBox],.inr h.fr.size,fun o bj=>?_,heap_alloc_new w _,qT al aA⟩;have:=h.good.alt _ o bj;omega
  ·rw[if_neg e]at d;obtain⟨bl,O,L,g1,g2,g3,g4,g5⟩:=h.good.box k y d;exact⟨bl,O,L,al.bx _ _ trivial g1,g2,g3,by rw[Below.heap_alloc w _ bl (Array.getElem?_eq_some_iff.1 g4).1];exact g4,qT al g5⟩
 ·rcases r k d with rfl|⟨D,i,f⟩<;>rcases r q K with rfl|⟨m1,m2,m3⟩
  ·rfl
  ·exfalso;simp only[a8.withBox,if_true,dz]at l;subst l;rw[m3]at p;obtain⟨y,x⟩:=gk.1 m2;have:=h.good.boxLt x p;omega
  ·exfalso;simp only[a8.withBox,if_true,dz]at p;subst p;rw[f]at l;obtain⟨y,x⟩:=gk.1 i;have:=h.good.boxLt x l;omega
  ·rw[f]at l;rw[m3]at p;exact h.good.inj k q bl i m2 l p
 ·obtain⟨v,xs,g1,g2,g3,g4⟩:=h.good.own g o a1;exact⟨v,xs,g1,g2.alloc _,g3,sy al (fun _ _ _ h=>h) g4⟩
 ·rcases r k d with rfl|⟨D,i,f⟩
  ·simp only[a8.withBox,if_true,dz]at t;subst t;obtain⟨o,H⟩:=gk.1 a1;have:=h.good.ownLt H F ae;omega
  ·rw[f]at t;exact h.good.obx g k n v bl a1 i F ae t
 ·by_cases e:k=c
  ·subst e;exact .inr P
  ·rcases h.good.one k with J|J
   ·exact .inl (by simp[a8.withBox,e,J])
   ·exact .inr J
 ·rcases ae with⟨q,N,a2⟩|ae
  ·rcases r q N with rfl|⟨D,i,f⟩
   ·simp[a8.withBox]at a2;subst a2;exact absurd (h.fr.trb k j _ aM).2 (Nat.lt_irrefl _)
   ·exact h.good.otr bl (.inl ⟨q,i,by rw[<-f];exact a2⟩) k j aM
  ·exact h.good.otr bl (.inr ae) k j aM
 ·rw[Below.heap_alloc w _ k (by have:=h.fr.size;omega)];exact h.fr.block k d hm
 ·obtain⟨s,A⟩:=h.fr.keep b o bj;exact⟨s,(T0 (h.good.alt b o s)).trans A⟩
 ·exact al.bx _ _ trivial (h.fr.obj n b ae)
 ·have M:k≠c:=fun e=>by subst e;exact B j b ae
  obtain⟨t1,t2⟩:=h.fr.trn k j b ae;exact⟨by simp[a8.withBox,M,t1],t2⟩
 ·obtain⟨f1,f2⟩:=E m hm;obtain⟨s,A⟩:=h.new m f1;refine⟨?_,A⟩;simp[a8.withBox,f2,s]
 ·simp[aV,a8.withBox]
def cZ.setBox{C:fb}{st:bn}{a:Act}{w w':World}{Z:a8}(h:cZ C st a w Z){k:aB}{cs cs':List ah}(m:look k st.b=some cs){bl:Nat}(ae:Z.bx k=some bl){us:Array Value}{el:Kk k}
  (y:w'.os=w.os) (L:w'.tape=w.tape) (K:w'.output=w.output) (f:∀j,j≠bl->w'.heap[j]? =w.heap[j]?) (q:w'.heap.size=w.heap.size) (z:w'.heap[bl]? =some (jN cs' us el.1)) (aA:iI w Z cs' us.toList):
  cZ C {st with b:=cG k cs' st.b} a w' Z/\l1 w Z w' Z:=by
 obtain⟨M,N,H,g1,g2,g3,g4,g5⟩:=h.good.box k cs m;rw[ae]at g1;cases g1;have al:l1 w Z w' Z:=by
  refine⟨fun b o bj=>⟨bj,World.cell?_of_block (f b fun e=>?_)⟩,fun _ _ _ h=>h,fun g n u _ a1=>⟨n,u,a1,.inl ⟨rfl,rfl⟩⟩,fun b o bj=>wX (f b fun e=>?_),fun _ _ _ _ h=>h⟩<;>
  (subst e;exact g3 o bj)
 have l:∀j,(look j (cG k cs' st.b)).isSome->(look j st.b).isSome:=by
  intro j c;rw[jL]at c;by_cases e:k=j
  ·subst e;simp[m]
  ·rwa[if_neg e]at c
 refine⟨h.over al rfl ⟨fun b o bj=>by rw[q];exact h.good.alt b o bj,fun j E c=>?_,fun j t b c A=>h.good.inj j t b (l j c) (l t A),fun g o a1=>?_,h.good.oinj,fun g j n v b a1 c=>h.good.obx g j n v b a1 (l j c),h.good.one,fun bl ae=>h.good.otr bl (ae.imp (fun⟨k,J,U⟩=>⟨k,l k J,U⟩) id)⟩
  ⟨y.trans h.fr.os,L.trans h.fr.tape,K.trans h.fr.output,by rw[q];exact h.fr.size,fun j c hm=>?_,fun b o bj=>?_,h.fr.fresh,h.fr.obj,h.fr.obn,h.fr.row,h.fr.obr,h.fr.trd,fun k j b ae=>⟨(h.fr.trb k j b ae).1,by rw[q];exact(h.fr.trb k j b ae).2⟩,h.fr.trn,fun b o bj=>(al.sh b o (h.fr.keep b o bj).1).trans (h.fr.sh b o bj),h.fr.nrow⟩ h.new,al⟩
 ·simp only at c;rw[jL]at c;by_cases e:k=j
  ·rw[if_pos e]at c;cases c;subst e;exact⟨bl,us,el,ae,g2,g3,z,qT al aA⟩
  ·rw[if_neg e]at c;obtain⟨b,G,B,i,d,s,r,D⟩:=h.good.box j E c;refine⟨b,G,B,i,d,s,?_,qT al D⟩;rw[f b fun p=>e (h.good.inj k j bl (by simp[m]) (by simp[c]) ae (by rw[<-p];exact i))];exact r
 ·obtain⟨v,xs,i,d,s,r⟩:=h.good.own g o a1;refine⟨v,xs,i,⟨d.1,?_⟩,s,sy al (fun _ _ _ h=>h) r⟩;rcases d.2 with d|⟨bb,cap,cur,f1,f2,f3,f4⟩
  ·exact .inl d
  ·refine .inr ⟨bb,cap,cur,f1,f2,?_,f4⟩;rw[f bb fun p=>h.good.obx g k o.n v bl (by simp[a1]) (by simp[m]) i (by rw[f1,<-p];rfl) ae];exact f3
 ·rw[f j fun e=>by subst e;exact g2.elim hm (fun g2=>Ω)];exact h.fr.block j c hm
 ·obtain⟨x,F⟩:=h.fr.keep b o bj;exact⟨x,(al.A b o x).2.trans F⟩
def cZ.storeBox{C:fb}{st:bn}{a:Act}{w:World}{Z:a8}(h:cZ C st a w Z){k:aB}{cs cs':List ah}(c:look k st.b=some cs){bl:Nat}(ae:Z.bx k=some bl)(f:gN cs=true){us:Array Value}(aA:c1 w Z cs' us.toList):
  cZ C {st with b:=cG k cs' st.b} a (w.setRow bl us) Z:=by
 obtain⟨i,e,el,g1,g2,g3,g4,g5⟩:=h.good.box k cs c;rw[ae]at g1;cases g1;rw[rE f]at g4;have d:=Ak aA;exact(h.setBox (w':=w.setRow bl us) c ae (us:=us) (el:=el) rfl rfl rfl (fun j g=>setRow_other w bl j us g) (setRow_size w bl us) (by rw[rE d];exact setRow_heap w bl e us el.1 _ g4) (by rw[qR d];exact aA)).1
def a8.withRowOf(Z:a8)(k:aB)(v:Value)(n cells:Nat):a8:={A:=fun b o=>Z.A b o\/(v.ownBlock=some b/\o<cells),bx:=Z.bx,ow:=fun j=>if j=k then some (n,v)else Z.ow j,tr:=Z.tr}
def Iw{w:World}{A:Nat->Nat->Prop}{b:Nat}:∀(us:List Value) (off:Nat),(∀j u,us[j]? =some u->A b (off+j)/\w.cell? ⟨b,off+j,none⟩=some u)->lB w A b off us
 |[],_,_=>trivial
 |u::us,off,h=>⟨h 0 u rfl,Iw us (off+1) fun j x a=>by have:=h (j+1) x (by simpa using a);rwa[show off+(j+1)=off+1+j from by omega]at this⟩
def G3{w w':World}(a1:w.grownBy w' none){b i:Nat}(h:b<w.heap.size):w'.cell? ⟨b,i,none⟩=w.cell? ⟨b,i,none⟩:=World.cell?_of_block (a1.block b h Ψ)
def cZ.newRowM{C:fb}{st:bn}{a:Act}{w w':World}{Z:a8}(h:cZ C st a w Z){k:aB}{xs:List ah}(f:(Z.bx k=none/\Z.ow k=none/\∀j b,¬Z.tr k j b)\/ ∃o,look k st.e=some o/\o.n<xs.length){el sz:Nat}{v:Value}{us:List Value}
  (a1:w.grownBy w' none) (F:w'.ownsRow w.heap.size el sz v xs.length us) (aA:dk w Z sz xs us) (eK:xs.length<=lim) {n':Nat} {o':List aB} (Q:∀j,fresh n' o' j->fresh st.n st.o j/\j≠k):
  cZ C {st with e:=cG k ⟨xs.length,el,sz,some xs⟩ st.e,n:=n',o:=o'} a w' (Z.withOwn k xs.length v)/\
  ((∃b cap,v= .slice (some ⟨b,0,none⟩) xs.length cap)->aV w' (Z.withOwn k xs.length v) (.row sz k xs.length) v):=by
 have l:∀bl,v.ownBlock=some bl->w.heap.size<=bl/\bl<w'.heap.size:=fun bl ae=>F.lt bl ae;have al:l1 w Z w' (Z.withOwn k xs.length v):=by
  refine⟨fun b o bj=>⟨bj,G3 a1 (h.good.alt b o bj)⟩,fun j b _ z=>z,fun g n u _ y=>?_,fun b o bj=>wX (a1.block b (h.good.alt b o bj) Ψ),fun _ _ _ _ h=>h⟩;by_cases e:g=k
  ·subst e;rcases f with f|⟨o,al,H⟩
   ·rw[f.2.1]at y;cases y
   ·obtain⟨v0,B,c,_⟩:=h.good.own g o al;rw[c]at y;cases y;exact⟨xs.length,v,by simp[a8.withOwn],.inr H⟩
  ·exact⟨n,u,by simp[a8.withOwn,e,y],.inl ⟨rfl,rfl⟩⟩
 have A:∀g,(look g (cG k ⟨xs.length,el,sz,some xs⟩ st.e)).isSome->g=k\/(g≠k/\(look g st.e).isSome/\(Z.withOwn k xs.length v).ow g=Z.ow g):=by
  intro g M;by_cases e:g=k
  ·exact .inl e
  ·rw[jL,if_neg (lb e)]at M;exact .inr ⟨e,M,by simp[a8.withOwn,e]⟩
 have V:∀bl,v.ownBlock=some bl->∀j,¬Z.A bl j:=fun bl ae j bj=>by have J:=h.good.alt bl j bj;have:=(l bl ae).1;omega
 have L:∀j b,¬Z.tr k j b:=fun j b ae=>by
  rcases f with f|⟨o,p,_⟩
  ·exact f.2.2 j b ae
  ·obtain⟨v0,B,c,_⟩:=h.good.own k o p;rw[(h.fr.trn k j b ae).2]at c;cases c
 refine⟨h.over al rfl ⟨fun bl o bj=>?_,fun j P z=>?_,h.good.inj,fun g o s=>?_,fun g O n n' u X bl J U d i x G=>?_,fun g j n u bl J U d i x=>?_,fun j=>?_,fun bl ae t j aM=>?_⟩
  ⟨a1.os.trans h.fr.os,a1.tape.trans h.fr.tape,a1.output.trans h.fr.output,j1 h.fr.size a1.size,fun j z hm=>?_,fun b o bj=>?_,h.fr.fresh,h.fr.obj,h.fr.obn,fun m n u hm=>FQ (h.fr.row m n u hm) (fun n u=>al.ow _ n u trivial),h.fr.obr,h.fr.trd,fun k j b ae=>⟨(h.fr.trb k j b ae).1,Nat.lt_of_lt_of_le (h.fr.trb k j b ae).2 a1.size⟩,fun t j b ae=>?_,fun b o bj=>(al.sh b o (h.fr.keep b o bj).1).trans (h.fr.sh b o bj),fun j n u b c E=>?_⟩ (fun m hm=>?_) (fun m hm=>(Q m hm).1),?_⟩
 ·have:=h.good.alt bl o bj;have:=a1.size;omega
 ·obtain⟨bl,b5,Y,g1,g2,g3,g4,g5⟩:=h.good.box j P z;have H:=(Array.getElem?_eq_some_iff.1 g4).1;exact⟨bl,b5,Y,g1,g2,g3,by rw[a1.block bl H Ψ];exact g4,qT al g5⟩
 ·simp only at s;rw[jL]at s;by_cases e:k=g
  ·rw[if_pos e]at s;cases s;subst e;refine⟨v,us,by simp[a8.withOwn],⟨F.1,?_⟩,fun bl ae=>⟨.inr (j1 h.fr.size (l bl ae).1),fun j bj=>absurd bj (V bl ae j)⟩,fun ys S=>?_⟩
   ·rcases F.2 with c|⟨bb,cap,cur,f1,f2,f3⟩
    ·exact .inl c
    ·exact .inr ⟨bb,cap,cur,f1,Ω,f3⟩
   ·simp only[dz]at S;subst S;exact⟨rfl,CJ al aA,V⟩
  ·rw[if_neg e]at s;obtain⟨v0,B,c,E,bo,cY⟩:=h.good.own g o s;exact⟨v0,B,by simp[a8.withOwn,lb e,c],E.kept a1 (by cases v0.ownBlock<;>simp),bo,sy al (fun _ _ _ h=>h) cY⟩
 ·rcases A g J with rfl|⟨N,r,q⟩<;>rcases A O U with rfl|⟨m1,m2,m3⟩
  ·rfl
  ·exfalso;simp only[a8.withOwn,if_true,dz,hW]at d;rw[m3]at i;obtain⟨o,p⟩:=gk.1 m2;have R:=h.good.ownLt p i G;have:=(l bl (by rw[d.2];exact x)).1;omega
  ·exfalso;simp only[a8.withOwn,if_true,dz,hW]at i;rw[q]at d;obtain⟨o,p⟩:=gk.1 r;have R:=h.good.ownLt p d x;have:=(l bl (by rw[i.2];exact G)).1;omega
  ·rw[q]at d;rw[m3]at i;exact h.good.oinj g O n n' u X bl r m2 d i x G
 ·rcases A g J with rfl|⟨N,r,q⟩
  ·simp only[a8.withOwn,if_true,dz,hW]at d;obtain⟨P,W⟩:=gk.1 U;have R:=h.good.boxLt W x;have:=(l bl (by rw[d.2];exact i)).1;omega
  ·rw[q]at d;exact h.good.obx g j n u bl r U d i x
 ·by_cases e:j=k
  ·subst e;rcases f with f|⟨o,p,_⟩
   ·exact .inl f.1
   ·obtain⟨v0,B,c,_⟩:=h.good.own j o p;rcases h.good.one j with J|J
    ·exact .inl J
    ·rw[J]at c;cases c
  ·rcases h.good.one j with J|J
   ·exact .inl J
   ·exact .inr (by simp[a8.withOwn,e,J])
 ·rcases ae with ae|⟨g,n,u,bL,a2,a3⟩
  ·exact h.good.otr bl (.inl ae) t j aM
  ·rcases A g bL with rfl|⟨N,r,q⟩
   ·simp only[a8.withOwn,if_true,dz,hW]at a2;have J:=(l bl (by rw[a2.2];exact a3)).1;have U:=(h.fr.trb t j _ aM).2;omega
   ·exact h.good.otr bl (.inr ⟨g,n,u,r,by rw[<-q];exact a2,a3⟩) t j aM
 ·rw[a1.block j (by have:=h.fr.size;omega) Ψ];exact h.fr.block j z hm
 ·obtain⟨D,K⟩:=h.fr.keep b o bj;exact⟨D,(al.A b o D).2.trans K⟩
 ·have cL:t≠k:=fun e=>by subst e;exact L j b ae
  obtain⟨t1,t2⟩:=h.fr.trn t j b ae;exact⟨t1,by simp[a8.withOwn,cL,t2]⟩
 ·by_cases e:aB.loc j=k
  ·subst e;simp only[a8.withOwn,if_true,dz,hW]at c;exact j1 h.fr.size (l b (by rw[c.2];exact E)).1
  ·simp only[a8.withOwn,if_neg e]at c;exact h.fr.nrow j n u b c E
 ·obtain⟨f1,f2⟩:=Q m hm;obtain⟨D,K,cz⟩:=h.new m f1;refine⟨D,?_,cz⟩;simp[a8.withOwn,f2,K]
 ·intro ME;simp only[aV];exact⟨ME,eK,xs.length,v,by simp[a8.withOwn],e2 _,fun _=>rfl⟩
def cZ.publish{C:fb}{st:bn}{a:Act}{w:World}{Z:a8}(h:cZ C st a w Z){k:aB}{o:er}{xs:List ah}(t:look k st.e=some o)(ab:o.xs=some xs){v:Value}(p:Z.ow k=some (o.n,v))(D:xs.length<=lim):
  cZ C {st with e:=cG k ⟨o.n,o.el,o.sz,none⟩ st.e} a w (Z.withRowOf k v o.n (o.n*o.sz))/\
  aV w (Z.withRowOf k v o.n (o.n*o.sz)) (.slice o.sz (.own k) xs) v:=by
 obtain⟨v0,us,H,q,x,V⟩:=h.good.own k o t;rw[p]at H;cases H;obtain⟨E,L,sw⟩:=V xs ab;have c:∀g,(Z.withRowOf k v o.n (o.n*o.sz)).ow g=Z.ow g:=fun g=>by
  simp only[a8.withRowOf];split
  ·rename_i e;subst e;exact p.symm
  ·rfl
 have al:l1 w Z w (Z.withRowOf k v o.n (o.n*o.sz)):=⟨fun b o bj=>⟨.inl bj,rfl⟩,fun j b _ f=>f,fun g n u _ M=>⟨n,u,by rw[c];exact M,.inl ⟨rfl,rfl⟩⟩,fun _ _ _=>rfl,fun _ _ _ _ h=>h⟩
 have s:∀g,(look g (cG k ⟨o.n,o.el,o.sz,none⟩ st.e)).isSome->(look g st.e).isSome:=by
  intro g K;by_cases e:k=g
  ·subst e;simp[t]
  ·rwa[jL,if_neg e]at K
 refine⟨h.over al rfl ⟨fun bl i bj=>?_,fun j Q f=>?_,h.good.inj,fun g o' d=>?_,fun g B n n' u O bl J U y a6=>h.good.oinj g B n n' u O bl (s g J) (s B U) (by rwa[c]at y) (by rwa[c]at a6),fun g j n u bl J U y=>h.good.obx g j n u bl (s g J) U (by rwa[c]at y),fun j=>?_,fun bl ae=>h.good.otr bl (ae.imp id (fun⟨g,n,v,X,a2,a3⟩=>⟨g,n,v,s g X,by rwa[c]at a2,a3⟩))⟩
  ⟨h.fr.os,h.fr.tape,h.fr.output,h.fr.size,h.fr.block,fun b i bj=>⟨.inl (h.fr.keep b i bj).1,(h.fr.keep b i bj).2⟩,fun b i bj=>?_,h.fr.obj,h.fr.obn,fun m n u hm=>FQ (h.fr.row m n u hm) (fun n u=>al.ow _ n u trivial),h.fr.obr,h.fr.trd,h.fr.trb,fun F j b ae=>⟨(h.fr.trn F j b ae).1,by rw[c];exact(h.fr.trn F j b ae).2⟩,h.fr.sh,fun j n u b l r=>h.fr.nrow j n u b (by rw[<-c];exact l) r⟩ (fun m hm=>?_),?_⟩
 ·rcases bj with bj|⟨bj,_⟩
  ·exact h.good.alt bl i bj
  ·exact(q.lt bl bj).2
 ·obtain⟨bl,b5,P,g1,g2,g3,g4,g5⟩:=h.good.box j Q f;refine⟨bl,b5,P,g1,g2,fun i bj=>?_,g4,qT al g5⟩;rcases bj with bj|⟨bj,_⟩
  ·exact g3 i bj
  ·exact h.good.obx k j o.n v bl (by simp[t]) (by simp[f]) p bj g1
 ·simp only at d;rw[jL]at d;by_cases e:k=g
  ·rw[if_pos e]at d;cases d;subst e;refine⟨v,us,by rw[c];exact p,q,fun bl ae=>⟨(x bl ae).1,fun j bj=>?_⟩,fun ys aO=>by cases aO⟩;rcases bj with bj|⟨_,bj⟩
   ·exact(x bl ae).2 j bj
   ·exact bj
  ·rw[if_neg e]at d;obtain⟨v0,N,l,r,G,S⟩:=h.good.own g o' d;have z:∀bl,v0.ownBlock=some bl->∀j,(Z.withRowOf k v o.n (o.n*o.sz)).A bl j->Z.A bl j:=fun bl ae j bj=>by
    rcases bj with bj|⟨bj,_⟩
    ·exact bj
    ·exact absurd (h.good.oinj k g o.n o'.n v v0 bl (by simp[t]) (by simp[d]) p l bj ae) e
   exact⟨v0,N,by rw[c];exact l,r,fun bl ae=>⟨(G bl ae).1,fun j bj=>(G bl ae).2 j (z bl ae j bj)⟩,sy al z S⟩
 ·rcases h.good.one j with J|J
  ·exact .inl J
  ·exact .inr (by rw[c];exact J)
 ·rcases bj with bj|⟨bj,_⟩
  ·exact h.fr.fresh b i bj
  ·exact .inr (x b bj).1
 ·obtain⟨W,Y,R⟩:=h.new m hm;exact⟨W,by rw[c];exact Y,R⟩
 ·simp only[aV];refine⟨?_,fun e=>(by cases e),fun g e=>?_,fun _ _ e=>(by cases e),fun _ e=>(by cases e)⟩
  ·rcases q.2 with⟨l,r⟩|⟨bb,cap,cur,f1,f2,f3,f4,f5,f6,f7⟩
   ·refine⟨none,0,by rw[l,E,r],Ω,⟨by simp[maxLen],D⟩,.inl (vn Ω)⟩
   ·refine⟨some ⟨bb,0,none⟩,cap,by rw[f1,E],Ω,⟨f5,D⟩,.inr ⟨bb,0,us,rfl,Iw us 0 fun j u f=>?_,CJ al L⟩⟩;have A:v.ownBlock=some bb:=by rw[f1];rfl
    have BF:j<us.length:=(fp.1 f).1;refine⟨.inr ⟨A,by rw[q.1]at BF;omega⟩,?_⟩;have:=q.cells A j u f;rwa[pK]at this
  ·cases e;exact⟨o.n,v,by rw[c];exact p,Ω,fun _=>rfl⟩
def abn{α:Type}(k:aB)(p q:α):∀l,cG k q (cG k p l)=cG k q l
 |[]=>by simp[cG]
 |(i,r)::l=>by
  by_cases e:i=k
  ·simp[cG,e]
  ·simp[cG,e,abn k p q l]
def cZ.newRow{C:fb}{st:bn}{a:Act}{w w':World}{Z:a8}(h:cZ C st a w Z){k:aB}{xs:List ah}(g:(Z.bx k=none/\Z.ow k=none/\∀j b,¬Z.tr k j b)\/ ∃o,look k st.e=some o/\o.n<xs.length){el sz:Nat}{v:Value}{us:List Value}
  (a1:w.grownBy w' none) (d:w'.ownsRow w.heap.size el sz v xs.length us) (aA:dk w Z sz xs us) (c:xs.length<=lim) {n':Nat} {o':List aB} (f:∀j,fresh n' o' j->fresh st.n st.o j/\j≠k):
  cZ C {st with e:=cG k ⟨xs.length,el,sz,none⟩ st.e,n:=n',o:=o'} a w' ((Z.withOwn k xs.length v).withRowOf k v xs.length (xs.length*sz))/\
  aV w' ((Z.withOwn k xs.length v).withRowOf k v xs.length (xs.length*sz)) (.slice sz (.own k) xs) v:=by
 have J:=(h.newRowM g a1 d aA c f).1;have U:=J.publish (k:=k) (o:=⟨xs.length,el,sz,some xs⟩) (xs:=xs) (v:=v) (by simp[jL]) rfl (by simp[a8.withOwn]) c;simpa only[abn]using U
def cZ.setRowM{C:fb}{st:bn}{a:Act}{w w':World}{Z:a8}(h:cZ C st a w Z){k:aB}{o:er}{xs xs':List ah}(G:look k st.e=some o)(ab:o.xs=some xs){bl:Nat}{v v':Value}(c:Z.ow k=some (o.n,v))(d:v.ownBlock=some bl)(A:v'.ownBlock=some bl)
  (av:(xs'.length=o.n/\v'=v)\/o.n<xs'.length) {us:List Value} (xP:w'.os=w.os) (EF:w'.tape=w.tape) (Ev:w'.output=w.output) (s:∀j,j≠bl->w'.heap[j]? =w.heap[j]?) (K:w'.heap.size=w.heap.size)
  (R:w'.ownsRow 0 o.el o.sz v' xs'.length us) (aA:dk w Z o.sz xs' us):
  cZ C {st with e:=cG k ⟨xs'.length,o.el,o.sz,some xs'⟩ st.e} a w' (Z.withOwn k xs'.length v')/\l1 w Z w' (Z.withOwn k xs'.length v')/\(xs'.length<=lim->aV w' (Z.withOwn k xs'.length v') (.row o.sz k xs'.length) v'):=by
 obtain⟨v0,V,X,bC,Y,c8⟩:=h.good.own k o G;rw[c]at X;cases X;obtain⟨df,kN,B⟩:=c8 xs ab;have al:l1 w Z w' (Z.withOwn k xs'.length v'):=by
  refine⟨fun b i bj=>⟨bj,World.cell?_of_block (s b fun e=>by subst e;exact B b d i bj)⟩,fun j b _ r=>r,fun g n u _ f=>?_,fun b i bj=>wX (s b fun e=>by subst e;exact B b d i bj),fun _ _ _ _ h=>h⟩;by_cases e:g=k
  ·subst e;rw[c]at f;cases f;refine⟨xs'.length,v',by simp[a8.withOwn],?_⟩;rcases av with⟨J,U⟩|J
   ·exact .inl ⟨J,U⟩
   ·exact .inr J
  ·exact⟨n,u,by simp[a8.withOwn,e,f],.inl ⟨rfl,rfl⟩⟩
 have D:∀g n u,(look g (cG k ⟨xs'.length,o.el,o.sz,some xs'⟩ st.e)).isSome->(Z.withOwn k xs'.length v').ow g=some (n,u)->∀b,u.ownBlock=some b->(look g st.e).isSome/\∃n u,Z.ow g=some (n,u)/\u.ownBlock=some b:=by
  intro g n u Q f b ae;by_cases e:g=k
  ·subst e;simp only[a8.withOwn,if_true,dz,hW]at f;rw[<-f.2,A]at ae;cases ae;exact⟨by simp[G],o.n,v,c,d⟩
  ·rw[jL,if_neg (lb e)]at Q;simp only[a8.withOwn,e,if_false]at f;exact⟨Q,n,u,f,ae⟩
 refine⟨h.over al rfl ⟨fun b i bj=>by rw[K];exact h.good.alt b i bj,fun j eA r=>?_,h.good.inj,fun g o' p=>?_,fun g S n n' u fl b J U O P N dq=>?_,fun g j n u b J U O P N=>?_,fun j=>?_,fun b ae=>h.good.otr b (ae.imp id (fun⟨g,n,v,z,a2,a3⟩=>by obtain⟨L,x,t,M,H⟩:=D g n v z a2 b a3;exact⟨g,x,t,L,M,H⟩))⟩
  ⟨xP.trans h.fr.os,EF.trans h.fr.tape,Ev.trans h.fr.output,by rw[K];exact h.fr.size,fun j r hm=>?_,fun b i bj=>?_,h.fr.fresh,h.fr.obj,h.fr.obn,fun m n u hm=>FQ (h.fr.row m n u hm) (fun n u=>al.ow _ n u trivial),h.fr.obr,h.fr.trd,fun k j b ae=>⟨(h.fr.trb k j b ae).1,by rw[K];exact(h.fr.trb k j b ae).2⟩,fun W j b ae=>?_,fun b o bj=>(al.sh b o (h.fr.keep b o bj).1).trans (h.fr.sh b o bj),fun j n u b q l=>(by
   by_cases e:aB.loc j=k
   ·subst e;simp only[a8.withOwn,if_true,dz,hW]at q;rw[<-q.2,A]at l;cases l;exact h.fr.nrow j o.n v bl c d
   ·simp only[a8.withOwn,if_neg e]at q;exact h.fr.nrow j n u b q l)⟩ (fun m hm=>?_),al,?_⟩
 ·obtain⟨b,b5,fi,g1,g2,g3,g4,g5⟩:=h.good.box j eA r;have y:b≠bl:=fun e=>h.good.obx k j o.n _ bl (by simp[G]) (by simp[r]) c d (by rw[<-e];exact g1);exact⟨b,b5,fi,g1,g2,g3,by rw[s b y];exact g4,qT al g5⟩
 ·simp only at p;rw[jL]at p;by_cases e:k=g
  ·rw[if_pos e]at p;cases p;subst e;refine⟨v',us,by simp[a8.withOwn],R,fun b ae=>?_,fun ys aO=>?_⟩
   ·rw[A]at ae;cases ae;exact⟨(Y bl d).1,fun j bj=>absurd bj (B bl d j)⟩
   ·simp only[dz]at aO;subst aO;exact⟨rfl,CJ al aA,fun b ae=>by rw[A]at ae;cases ae;exact B bl d⟩
  ·rw[if_neg e]at p;obtain⟨v0,V,q,l,bo,cY⟩:=h.good.own g o' p;have y:∀b,v0.ownBlock=some b->b≠bl:=fun b ae Ls=>e (h.good.oinj k g o.n o'.n _ v0 bl (by simp[G]) (by simp[p]) c q d (by rw[<-Ls];exact ae));refine⟨v0,V,by simp[a8.withOwn,lb e,q],⟨l.1,?_⟩,bo,sy al (fun _ _ _ h=>h) cY⟩;rcases l.2 with l|⟨bb,yU,nE,f1,f2,f3,f4⟩
   ·exact .inl l
   ·exact .inr ⟨bb,yU,nE,f1,f2,by rw[s bb (y bb (by rw[f1];rfl))];exact f3,f4⟩
 ·obtain⟨z,x,t,a2,a3⟩:=D g n u J O b N;obtain⟨L,fX,jy,M,H⟩:=D S n' fl U P b dq;exact h.good.oinj g S x fX t jy b z L a2 M a3 H
 ·obtain⟨z,x,t,a2,a3⟩:=D g n u J O b P;exact h.good.obx g j x t b z U a2 a3 N
 ·by_cases e:j=k
  ·subst e;rcases h.good.one j with J|J
   ·exact .inl J
   ·rw[J]at c;cases c
  ·rcases h.good.one j with J|J
   ·exact .inl J
   ·exact .inr (by simp[a8.withOwn,e,J])
 ·rw[s j fun e=>by subst e;exact(Y j d).1.elim hm (fun g2=>Ω)];exact h.fr.block j r hm
 ·obtain⟨E,F⟩:=h.fr.keep b i bj;exact⟨E,(al.A b i E).2.trans F⟩
 ·obtain⟨t1,t2⟩:=h.fr.trn W j b ae;have y:W≠k:=fun e=>by subst e;rw[t2]at c;cases c
  exact⟨t1,by simp[a8.withOwn,y,t2]⟩
 ·obtain⟨E,F,cz⟩:=h.new m hm;refine⟨E,?_,cz⟩;have:m≠k:=fun e=>by subst e;rw[F]at c;cases c
  simp[a8.withOwn,this,F]
 ·intro eK;simp only[aV];obtain⟨cap,ME⟩:=Zl R A;exact⟨⟨bl,cap,ME⟩,eK,xs'.length,v',by simp[a8.withOwn],e2 _,fun _=>rfl⟩
def cZ.inPlace{C:fb}{st:bn}{a:Act}{w:World}{Z:a8}(h:cZ C st a w Z){k:aB}{o:er}(v:look k st.e=some o){bl cap:Nat}{cur:Array Value}(d:Z.ow k=some (o.n,.slice (some ⟨bl,0,none⟩) o.n cap))
  (D:w.heap[bl]? =some (.cells cur o.el (0,0))) (X:cap<=maxLen) (dS:cur.size=cap*o.sz) {xs ys:List ah} {us ns:List Value} (Q:xs.length=o.n) (pd:cur.toList.take (o.n*o.sz)=us) (aA:dk w Z o.sz xs us) (Bz:dk w Z o.sz ys ns)
  (fR:0<ys.length) (Y:o.n+ys.length<=cap) (eK:xs.length+ys.length<=lim):
  cZ C {st with e:=cG k ⟨o.n+ys.length,o.el,o.sz,none⟩ st.e} a (w.setRow bl (us++ns++cur.toList.drop (o.n*o.sz+ns.length)).toArray)
   (Z.withRowOf k (.slice (some ⟨bl,0,none⟩) (o.n+ys.length) cap) (o.n+ys.length) ((o.n+ys.length)*o.sz))/\
  aV (w.setRow bl (us++ns++cur.toList.drop (o.n*o.sz+ns.length)).toArray) (Z.withRowOf k (.slice (some ⟨bl,0,none⟩) (o.n+ys.length) cap) (o.n+ys.length) ((o.n+ys.length)*o.sz))
   (.slice o.sz (.own k) (xs++ys)) (.slice (some ⟨bl,0,none⟩) (o.n+ys.length) cap):=by
 have O:=sx Bz;have E:=sx aA;rw[Q]at E;have hmul:(o.n+ys.length)*o.sz<=cap*o.sz:=Nat.mul_le_mul_right _ Y;rw[q2]at hmul;obtain⟨v0,fm,be,bC,bY,_⟩:=h.good.own k o v;rw[d]at be;cases be;obtain⟨S,df⟩:=bY bl rfl;generalize z:w.setRow bl (us++ns++cur.toList.drop (o.n*o.sz+ns.length)).toArray=w';have A:∀j,j≠bl->w'.heap[j]? =w.heap[j]?:=fun j c=>by rw[<-z];exact setRow_other w bl j _ c
 have G:w'.heap[bl]? =some (.cells (us++ns++cur.toList.drop (o.n*o.sz+ns.length)).toArray o.el (0,0)):=by rw[<-z];exact setRow_heap w bl cur _ o.el _ D
 have V:w'.heap.size=w.heap.size:=by rw[<-z];exact setRow_size w bl _
 have se:∀j,j<o.n*o.sz->w'.cell? ⟨bl,j,none⟩=w.cell? ⟨bl,j,none⟩:=by intro j c;simp only[World.cell?,G,D,ny,hI,if_false];rw[List.getElem?_toArray,List.append_assoc,rQ Ω,<-pd,List.getElem?_take,if_pos c];simp
 have al:l1 w Z w' (Z.withRowOf k (.slice (some ⟨bl,0,none⟩) (o.n+ys.length) cap) (o.n+ys.length) ((o.n+ys.length)*o.sz)):=by
  refine⟨fun b j bj=>⟨.inl bj,?_⟩,fun j b _ c=>c,fun g n u _ P=>?_,fun b j bj=>?_,fun _ _ _ _ h=>h⟩;rotate_left 2
  ·by_cases e:b=bl
   ·subst e;simp only[shape,G,D,List.size_toArray,ga,sO,Array.length_toList];congr 2;omega
   ·exact wX (A b e)
  ·by_cases e:b=bl
   ·subst e;exact se j (df j bj)
   ·exact World.cell?_of_block (A b e)
  ·by_cases e:g=k
   ·subst e;rw[d]at P;cases P;exact⟨o.n+ys.length,.slice (some ⟨bl,0,none⟩) (o.n+ys.length) cap,by simp[a8.withRowOf],.inr Ω⟩
   ·exact⟨n,u,by simp[a8.withRowOf,e,P],.inl ⟨rfl,rfl⟩⟩
 have F:∀g,(look g (cG k ⟨o.n+ys.length,o.el,o.sz,none⟩ st.e)).isSome->g=k\/(g≠k/\(look g st.e).isSome/\(Z.withRowOf k (.slice (some ⟨bl,0,none⟩) (o.n+ys.length) cap) (o.n+ys.length) ((o.n+ys.length)*o.sz)).ow g=Z.ow g):=by
  intro g lp;by_cases e:g=k
  ·exact .inl e
  ·rw[jL,if_neg (lb e)]at lp;exact .inr ⟨e,lp,by simp[a8.withRowOf,e]⟩
 have ava:bl<w.heap.size:=(Array.getElem?_eq_some_iff.1 D).1;have D7:∀j u,(us++ns)[j]? =some u->w'.cell? ⟨bl,j,none⟩=some u:=by intro j u c;have N:=(fp.1 c).1;simp only[World.cell?,G,ny,hI,if_false];rw[List.getElem?_toArray,rQ N];exact c
 refine⟨h.over al rfl ⟨fun b j bj=>?_,fun j eA c=>?_,h.good.inj,fun g o' r=>?_,fun g H n n' u fl b J U f l p B=>?_,fun g j n u b J U f l p=>?_,fun j=>?_,fun b ae=>h.good.otr b ?_⟩
  ⟨by rw[<-z];exact h.fr.os,by rw[<-z];exact h.fr.tape,by rw[<-z];exact h.fr.output,by rw[V];exact h.fr.size,fun j c hm=>?_,fun b j bj=>?_,fun b j bj=>?_,h.fr.obj,h.fr.obn,fun m n u hm=>FQ (h.fr.row m n u hm) (fun n u=>al.ow _ n u trivial),h.fr.obr,h.fr.trd,fun k j b ae=>⟨(h.fr.trb k j b ae).1,by rw[V];exact(h.fr.trb k j b ae).2⟩,fun bt j b ae=>?_,fun b o bj=>(al.sh b o (h.fr.keep b o bj).1).trans (h.fr.sh b o bj),fun j n u b t q=>(by
   by_cases e:aB.loc j=k
   ·subst e;simp only[a8.withRowOf,if_true,dz,hW]at t;rw[<-t.2]at q;have K:b=bl:=by simpa[oR]using q.symm
    subst K;exact h.fr.nrow j _ _ b d rfl
   ·simp only[a8.withRowOf,if_neg e]at t;exact h.fr.nrow j n u b t q)⟩ (fun m hm=>?_),?_⟩
 ·rw[V];rcases bj with bj|⟨bj,_⟩
  ·exact h.good.alt b j bj
  ·simp only[oR,dz]at bj;omega
 ·obtain⟨b,b5,fi,g1,g2,g3,g4,g5⟩:=h.good.box j eA c;have s:b≠bl:=fun e=>h.good.obx k j o.n _ bl (by simp[v]) (by simp[c]) d rfl (by rw[<-e];exact g1);refine⟨b,b5,fi,g1,g2,fun i bj=>?_,by rw[A b s];exact g4,qT al g5⟩;rcases bj with bj|⟨bj,_⟩
  ·exact g3 i bj
  ·simp only[oR,dz]at bj;exact s bj.symm
 ·simp only at r;rw[jL]at r;by_cases e:k=g
  ·rw[if_pos e]at r;cases r;subst e;refine⟨.slice (some ⟨bl,0,none⟩) (o.n+ys.length) cap,us++ns,by simp[a8.withRowOf],⟨by rw[ga,E,O,q2],.inr ⟨bl,cap,_,rfl,Nat.zero_le _,G,Y,X,?_,?_⟩⟩,fun b ae=>⟨?_,fun j bj=>?_⟩,fun ys aO=>by cases aO⟩
   ·simp only[List.size_toArray,ga,sO,Array.length_toList];omega
   ·have ao:(us++ns).length=(o.n+ys.length)*o.sz:=by rw[ga,E,O,q2]
    simp only[<-ao];rw[List.take_append_of_le_length (e2 _),lZ]
   ·simp only[oR,dz]at ae;subst ae;exact S
   ·simp only[oR,dz]at ae;subst ae;rcases bj with bj|⟨_,bj⟩
    ·have:=df j bj;simp only;rw[q2];omega
    ·exact bj
  ·rw[if_neg e]at r;obtain⟨v0,fm,t,q,K,cY⟩:=h.good.own g o' r;have s:∀b,v0.ownBlock=some b->b≠bl:=fun b ae Ls=>e (h.good.oinj k g o.n o'.n _ v0 bl (by simp[v]) (by simp[r]) d t rfl (by rw[<-Ls];exact ae));have W:∀b,v0.ownBlock=some b->∀j,(Z.withRowOf k (.slice (some ⟨bl,0,none⟩) (o.n+ys.length) cap) (o.n+ys.length) ((o.n+ys.length)*o.sz)).A b j->Z.A b j:=fun b ae j bj=>by
    rcases bj with bj|⟨bj,_⟩
    ·exact bj
    ·simp only[oR,dz]at bj;exact absurd bj.symm (s b ae)
   refine⟨v0,fm,by simp[a8.withRowOf,lb e,t],⟨q.1,?_⟩,fun b ae=>⟨(K b ae).1,fun j bj=>(K b ae).2 j (W b ae j bj)⟩,sy al W cY⟩;rcases q.2 with q|⟨bb,yU,nE,f1,f2,f3,f4⟩
   ·exact .inl q
   ·exact .inr ⟨bb,yU,nE,f1,f2,by rw[A bb (s bb (by rw[f1];rfl))];exact f3,f4⟩
 ·rcases F g J with rfl|⟨R,y,x⟩<;>rcases F H U with rfl|⟨m1,m2,m3⟩
  ·rfl
  ·exfalso;simp only[a8.withRowOf,if_true,dz,hW]at f;rw[m3]at l;rw[<-f.2]at p;simp only[oR,dz]at p;subst p;exact m1 (h.good.oinj H g n' o.n fl _ bl m2 (by simp[v]) l d B rfl)
  ·exfalso;simp only[a8.withRowOf,if_true,dz,hW]at l;rw[x]at f;rw[<-l.2]at B;simp only[oR,dz]at B;subst B;exact R (h.good.oinj g H n o.n u _ bl y (by simp[v]) f d p rfl)
  ·rw[x]at f;rw[m3]at l;exact h.good.oinj g H n n' u fl b y m2 f l p B
 ·rcases F g J with rfl|⟨R,y,x⟩
  ·simp only[a8.withRowOf,if_true,dz,hW]at f;rw[<-f.2]at l;simp only[oR,dz]at l;subst l;exact h.good.obx g j o.n _ bl (by simp[v]) U d rfl p
  ·rw[x]at f;exact h.good.obx g j n u b y U f l p
 ·by_cases e:j=k
  ·subst e;rcases h.good.one j with J|J
   ·exact .inl J
   ·rw[J]at d;cases d
  ·rcases h.good.one j with J|J
   ·exact .inl J
   ·exact .inr (by simp[a8.withRowOf,e,J])
 ·rcases ae with ae|⟨g,n,u,bL,a2,a3⟩
  ·exact .inl ae
  ·rcases F g bL with rfl|⟨R,y,x⟩
   ·simp only[a8.withRowOf,if_true,dz,hW]at a2;rw[<-a2.2]at a3;exact .inr ⟨g,_,_,by simp[v],d,a3⟩
   ·exact .inr ⟨g,n,u,y,by rw[<-x];exact a2,a3⟩
 ·rw[A j fun e=>by subst e;exact S.elim hm (fun g2=>Ω)];exact h.fr.block j c hm
 ·obtain⟨L,M⟩:=h.fr.keep b j bj;exact⟨.inl L,(al.A b j L).2.trans M⟩
 ·rcases bj with bj|⟨bj,_⟩
  ·exact h.fr.fresh b j bj
  ·simp only[oR,dz]at bj;subst bj;exact .inr S
 ·obtain⟨t1,t2⟩:=h.fr.trn bt j b ae;have s:bt≠k:=fun e=>by subst e;rw[t2]at d;cases d
  exact⟨t1,by simp[a8.withRowOf,s,t2]⟩
 ·obtain⟨L,M,cz⟩:=h.new m hm;refine⟨L,?_,cz⟩;have:m≠k:=fun e=>by subst e;rw[M]at d;cases d
  simp[a8.withRowOf,this,M]
 ·simp only[aV];refine⟨⟨some ⟨bl,0,none⟩,cap,by simp[Q],by simp;omega,⟨X,by simpa using eK⟩,.inr ⟨bl,0,us++ns,rfl,Iw _ 0 fun j u c=>?_,CI (CJ al aA) (CJ al Bz)⟩⟩,fun e=>(by cases e),fun g e=>?_,fun _ _ e=>(by cases e),fun _ e=>(by cases e)⟩
  ·have N:=(fp.1 c).1;rw[Nat.zero_add];refine⟨.inr ⟨rfl,?_⟩,D7 j u c⟩;rw[ga,E,O]at N;rw[q2];exact N
  ·cases e;exact⟨o.n+ys.length,.slice (some ⟨bl,0,none⟩) (o.n+ys.length) cap,by simp[a8.withRowOf],by simp[Q],fun _=>rfl⟩
def JK{P:cE}{w:World}{t ty e:fF}{i:TypeInfo}(aM:P.underlying t=some (.slice e))(hi:P.info? e=some i)(b:aZ Addr)(n cap:Nat)(a:n<=cap)(x:aZ Addr)(c:Nat):
  (ui #[t,t] ty #[.slice b n cap,.slice x 0 c]).run P w= .ok (.slice b n cap) w:=by
 cases b<;>cases x<;>simp[ui,run_underlying aM,sizeOf,typeInfo,hi,Builtin.lenOf,a,Builtin.firstCells,loadCells,loadCellsFrom,storeCells]
inductive ep where
 |v (d:Nat) (i:gy)
 |box (d:Nat) (key:aZ Nat) (x:dv)
 |alloc (d:Nat) (key:aZ Nat) (zero:ah)
 |store (sz:Nat) (x y:dv)
 |bsl (d:Nat) (sz el:Nat) (xs:List dv)
 |app (d:Nat) (sz el:Nat) (x y:dv)
 |bslm (d:Nat) (key:aZ Nat) (sz el:Nat) (xs:List dv)
 |appm (d:Nat) (key:aZ Nat) (sz el:Nat) (x y:dv)
 |mkmap (d:Nat) (key:aZ Nat)
 |mput (ct:ka) (x k v:dv)
 |range (d:Nat) (key:aZ Nat) (x:dv)
 |storeE (sz:Nat) (x y:dv)
 |mks (d:Nat) (key:aZ Nat) (sz el:Nat) (z:ah) (x:dv)
 |apps (d el:Nat) (x y:dv)
def jM(st:bn):aZ Nat->aB
 |none=>.loc st.n
 |some m=>.obj m
def rv(st:bn):aZ Nat->Prop
 |none=>.loc st.n∉st.o
 |some m=>.obj m∉st.o
def oF(st:bn):aZ Nat->Nat
 |none=>st.n+1
 |some _=>st.n
def oG(st:bn):aZ Nat->List aB
 |none=>st.o
 |some m=>.obj m::st.o
def ya{st:bn}{key:aZ Nat}(h:rv st key):fresh st.n st.o (jM st key):=by cases key<;>simp[jM,fresh,rv]at h⊢ <;>exact h
def yb{st:bn}{key:aZ Nat}:∀j,fresh (oF st key) (oG st key) j->fresh st.n st.o j/\j≠jM st key:=by
 intro j a;cases key<;>cases j<;>simp[fresh,oF,oG,jM]at a⊢
 ·exact⟨⟨Ω,a.2⟩,Ω⟩
 ·exact a
 ·exact a
 ·exact⟨a.2,a.1⟩
def sW(sz:Nat):List ah->Prop
 |[]=>True
 |p::a=>(fh p=true/\(cells p).length=sz)/\sW sz a
def p5(a:ka)(k v:ah):List ah->aZ (List ah)
 | .hdm clock borns::kvs=>if x1 a k=false then none else match wC a k v kvs with
  |some (some b)=>some (.hdm clock borns::b)
  |some none=>some (.hdm (clock+1) (borns++[clock])::(kvs++[k,v]))
  |none=>none
 |_=>none
def Ag(m:aB):List ah->aZ (List ah)
 | .hdm clock _::_=>some [.hdi clock [] clock,.gmap m]
 |_=>none
def nB(st:bn)(sz el:Nat)(x y:ah):aZ ((aZ (aB×List ah))×List ah):=
 match x,y with
 | .slice b .nil _,.slice a _ ys=>if b=sz/\a=sz then some (none,ys)else none
 | .row b k n,.slice a _ ys=>if b=sz/\a=sz then
   match look k st.e with
   |some ⟨n',d,c,some xs⟩=>if n'=n/\d=el/\c=sz then some (some (k,xs),ys)else none
   |_=>none
  else none
 |_,_=>none
def nW:ah->Nat->List ah->ah
 | .agg a,f,cs=>.agg (po a f cs)
 |_,_,[q]=>q
 |_,_,_=>.junk
def sF(st:bn)(sz:Nat)(p v:ah):aZ (Prop×bn):=
 match p with
 | .rptr b k n i f=>match look k st.e with
  |some ⟨n',el,a,some xs⟩=>if n'=n/\a=b then
    match xs[i]? with
    |some q=>some (fh q=true/\fh v=true/\(cells v).length=sz/\f+sz<=(cells q).length/\0<sz,{st with e:=cG k ⟨n',el,a,some (xs.set i (nW q f (cells v)))⟩ st.e})
    |none=>none
   else none
  |_=>none
 |_=>none
def gE(s:List b7):List ah:=s.map fun c=>.int .u8 c.toNat
def Dk(st:bn)(d el:Nat)(x y:ah):aZ (Prop×bn):=
 match x,y with
 | .row sz k n,.str s=>match look k st.e with
  |some ⟨n',a,c,some xs⟩=>if n'=n/\a=el/\c=1/\sz=1 then some (xs.length+s.length<=lim,
    {st with t:=put d (.row 1 k (xs.length+s.length)) st.t,e:=cG k ⟨xs.length+s.length,el,1,some (xs++gE s)⟩ st.e})else none
  |_=>none
 | .slice sz .nil _,.str s=>if sz=1 then some ((.obj 862∉st.o)/\s≠[]/\s.length<=lim,
   {t:=put d (.row 1 (.obj 862) s.length) st.t,b:=st.b,e:=cG (.obj 862) ⟨s.length,el,1,some (gE s)⟩ st.e,n:=st.n,o:= .obj 862::st.o})else none
 |_,_=>none
def mP(st:bn):ep->aZ (Prop×bn)
 | .mks d key sz el z x=>match cg st.t x with
  | .int _ n=>some (rv st key/\0<=n/\n<=lim,
    {t:=put d (.row sz (jM st key) n.toNat) st.t,b:=st.b,e:=cG (jM st key) ⟨n.toNat,el,sz,some (sR n.toNat z)⟩ st.e,n:=oF st key,o:=oG st key})
  |_=>none
 | .bslm d key sz el xs=>some (rv st key/\sW sz (xs.map (cg st.t)),
   {t:=put d (.row sz (jM st key) xs.length) st.t,b:=st.b,e:=cG (jM st key) ⟨xs.length,el,sz,some (xs.map (cg st.t))⟩ st.e,n:=oF st key,o:=oG st key})
 | .appm d key sz el x y=>match nB st sz el (cg st.t x) (cg st.t y)with
  |some (none,ys)=>some (rv st key/\ys.length<=lim/\ys≠[],
    {t:=put d (.row sz (jM st key) ys.length) st.t,b:=st.b,e:=cG (jM st key) ⟨ys.length,el,sz,some ys⟩ st.e,n:=oF st key,o:=oG st key})
  |some (some (k,xs),ys)=>some (xs.length+ys.length<=lim,{st with t:=put d (.row sz k (xs.length+ys.length)) st.t,e:=cG k ⟨xs.length+ys.length,el,sz,some (xs++ys)⟩ st.e})
  |none=>none
 | .mkmap d key=>some (rv st key,{t:=put d (.gmap (jM st key)) st.t,b:=cG (jM st key) [.hdm 0 []] st.b,e:=st.e,n:=oF st key,o:=oG st key})
 | .mput g x k v=>match cg st.t x with
  | .gmap m=>match look m st.b with
   |some cs=>match p5 g (cg st.t k) (cg st.t v) cs with
    |some cs'=>some (True,{st with b:=cG m cs' st.b})
    |none=>none
   |none=>none
  |_=>none
 | .range d key x=>match cg st.t x with
  | .gmap m=>match look m st.b with
   |some cs=>match Ag m cs with
    |some cs'=>some (rv st key,{t:=put d (.ptr (jM st key) 0) st.t,b:=cG (jM st key) cs' st.b,e:=st.e,n:=oF st key,o:=oG st key})
    |none=>none
   |none=>none
  |_=>none
 | .v d i=>match ht st i with
  |some (c,p)=>some (c,{st with t:=put d p st.t})
  |none=>none
 | .storeE sz x y=>sF st sz (cg st.t x) (cg st.t y)
 | .apps d el x y=>Dk st d el (cg st.t x) (cg st.t y)
 | .box d key x=>some (rv st key/\fh (cg st.t x)=true,
   {t:=put d (.ptr (jM st key) 0) st.t,b:=cG (jM st key) (cells (cg st.t x)) st.b,e:=st.e,n:=oF st key,o:=oG st key})
 | .alloc d key z=>some (rv st key,{t:=put d (.ptr (jM st key) 0) st.t,b:=cG (jM st key) (cells z) st.b,e:=st.e,n:=oF st key,o:=oG st key})
 | .store sz x y=>match cg st.t x with
  | .ptr k off=>match look k st.b with
   |some cs=>some (gN cs=true/\fh (cg st.t y)=true/\(cells (cg st.t y)).length=sz/\off+sz<=cs.length,{st with b:=cG k (po cs off (cells (cg st.t y))) st.b})
   |none=>none
  |p=>sF st sz p (cg st.t y)
 | .bsl d sz el xs=>some (rv st none/\sW sz (xs.map (cg st.t)),
   {st with t:=put d (.slice sz (.own (.loc st.n)) (xs.map (cg st.t))) st.t,e:=cG (.loc st.n) ⟨xs.length,el,sz,none⟩ st.e,n:=st.n+1})
 | .app d sz el x y=>match cg st.t x,cg st.t y with
  | .slice f tag xs,.slice a _ ys=>if f=sz/\a=sz then
    match tag with
    | .own k=>match look k st.e with
     |some o=>some (o.n=xs.length/\o.el=el/\o.sz=sz/\xs.length+ys.length<=lim,
       {st with t:=put d (.slice sz (.own k) (xs++ys)) st.t,e:=cG k ⟨xs.length+ys.length,el,sz,none⟩ st.e})
     |none=>none
    | .nil=>some (rv st none/\ys.length<=lim,{st with t:=put d (.slice sz (.own (.loc st.n)) ys) st.t,e:=cG (.loc st.n) ⟨ys.length,el,sz,none⟩ st.e,n:=st.n+1})
    |_=>none
   else none
  |_,_=>none
def eP(κ:aB)(n':Nat)(o':List aB)(st:bn):ep->aZ (Prop×bn)
 | .mks d _ sz el z x=>match cg st.t x with
  | .int _ n=>some (0<=n/\n<=lim,
    {t:=put d (.row sz κ n.toNat) st.t,b:=st.b,e:=cG κ ⟨n.toNat,el,sz,some (sR n.toNat z)⟩ st.e,n:=n',o:=o'})
  |_=>none
 | .bslm d _ sz el xs=>some (sW sz (xs.map (cg st.t)),
   {t:=put d (.row sz κ xs.length) st.t,b:=st.b,e:=cG κ ⟨xs.length,el,sz,some (xs.map (cg st.t))⟩ st.e,n:=n',o:=o'})
 | .appm d _ sz el x y=>match nB st sz el (cg st.t x) (cg st.t y)with
  |some (none,ys)=>some (ys.length<=lim/\ys≠[],
    {t:=put d (.row sz κ ys.length) st.t,b:=st.b,e:=cG κ ⟨ys.length,el,sz,some ys⟩ st.e,n:=n',o:=o'})
  |some (some (k,xs),ys)=>some (xs.length+ys.length<=lim,{st with t:=put d (.row sz k (xs.length+ys.length)) st.t,e:=cG k ⟨xs.length+ys.length,el,sz,some (xs++ys)⟩ st.e})
  |none=>none
 | .mkmap d _=>some (True,{t:=put d (.gmap κ) st.t,b:=cG κ [.hdm 0 []] st.b,e:=st.e,n:=n',o:=o'})
 | .mput g x k v=>match cg st.t x with
  | .gmap m=>match look m st.b with
   |some cs=>match p5 g (cg st.t k) (cg st.t v) cs with
    |some cs'=>some (True,{st with b:=cG m cs' st.b})
    |none=>none
   |none=>none
  |_=>none
 | .range d _ x=>match cg st.t x with
  | .gmap m=>match look m st.b with
   |some cs=>match Ag m cs with
    |some cs'=>some (True,{t:=put d (.ptr κ 0) st.t,b:=cG κ cs' st.b,e:=st.e,n:=n',o:=o'})
    |none=>none
   |none=>none
  |_=>none
 | .v d i=>match ht st i with
  |some (c,p)=>some (c,{st with t:=put d p st.t})
  |none=>none
 | .storeE sz x y=>sF st sz (cg st.t x) (cg st.t y)
 | .apps d el x y=>Dk st d el (cg st.t x) (cg st.t y)
 | .box d _ x=>some (fh (cg st.t x)=true,{t:=put d (.ptr κ 0) st.t,b:=cG κ (cells (cg st.t x)) st.b,e:=st.e,n:=n',o:=o'})
 | .alloc d _ z=>some (True,{t:=put d (.ptr κ 0) st.t,b:=cG κ (cells z) st.b,e:=st.e,n:=n',o:=o'})
 | .store sz x y=>match cg st.t x with
  | .ptr k off=>match look k st.b with
   |some cs=>some (gN cs=true/\fh (cg st.t y)=true/\(cells (cg st.t y)).length=sz/\off+sz<=cs.length,{st with b:=cG k (po cs off (cells (cg st.t y))) st.b})
   |none=>none
  |p=>sF st sz p (cg st.t y)
 | .bsl d sz el xs=>some (sW sz (xs.map (cg st.t)),
   {st with t:=put d (.slice sz (.own κ) (xs.map (cg st.t))) st.t,e:=cG κ ⟨xs.length,el,sz,none⟩ st.e,n:=n',o:=o'})
 | .app d sz el x y=>match cg st.t x,cg st.t y with
  | .slice f tag xs,.slice a _ ys=>if f=sz/\a=sz then
    match tag with
    | .own k=>match look k st.e with
     |some o=>some (o.n=xs.length/\o.el=el/\o.sz=sz/\xs.length+ys.length<=lim,
       {st with t:=put d (.slice sz (.own k) (xs++ys)) st.t,e:=cG k ⟨xs.length+ys.length,el,sz,none⟩ st.e})
     |none=>none
    | .nil=>some (ys.length<=lim,{st with t:=put d (.slice sz (.own κ) ys) st.t,e:=cG κ ⟨ys.length,el,sz,none⟩ st.e,n:=n',o:=o'})
    |_=>none
   else none
  |_,_=>none
def yf:Nat->List dv->List (Nat×jk)->Bool
 |_,[],[]=>true
 |i,x::xs,(j,o)::os=>i==j&&eC x o&&yf (i+1) xs os
 |_,_,_=>false
def ep.bok(κ:aB):ep->Prop
 | .mkmap _ _| .range _ _ _=>κ≠ .obj 861
 | .alloc _ key _| .box _ key _=>κ= .obj 861->key=some 861
 |_=>True
def IS{st:bn}{key:aZ Nat}(h:jM st key= .obj 861):key=some 861:=by cases key<;>simp[jM]at h⊢;exact h
def sA(N:Nat)(aT:List (Nat×eJ))(i:ep)(o:Oper):Bool:=
 match i,o.op with
 | .mkmap d key,.makeMap _ none=>o.dst==some d&&decide (d<N)&&key !=some 861
 | .mput l x k v,.mapUpdate t c j g=>o.dst==none&&(match eo aT t with|some ⟨_,_,.map h _,_⟩=>zP aT l h|_=>false)&&eC x c&&eC k j&&eC v g
 | .mput l x k v,.insert t c j g=>o.dst==none&&(match eo aT t with|some ⟨_,_,.map h _,_⟩=>zP aT l h|_=>false)&&eC x c&&eC k j&&eC v g
 | .range d key x,.range t c=>o.dst==some d&&decide (d<N)&&(match eo aT t with|some ⟨_,_,.map _ _,_⟩=>true|_=>false)&&eC x c&&key !=some 861
 | .v d i,op=>o.dst==some d&&decide (d<N)&&Ga aT i op
 | .box d key x,.box el o'=>o.dst==some d&&decide (d<N)&&eC x o'&&(key !=some 861||el==F5)
 | .alloc d key z,.alloc el=>o.dst==some d&&decide (d<N)&&(match eo aT el with|some f=>C3 z f.zero|none=>false)&&(key !=some 861||el==F5)
 | .store sz x y,.store t o' a=>o.dst==none&&(match eo aT t with|some f=>f.size==sz|none=>false)&&eC x o'&&eC y a
 | .bsl d sz el xs,.buildSlice t len parts=>o.dst==some d&&decide (d<N)&&(match eo aT t with|some ⟨_,_,.slice b,_⟩=>el==b|_=>false)&&(match eo aT el with|some f=>f.size==sz&&decide (0<sz)|none=>false)
   &&len==xs.length&&decide (len*sz<=16777216)&&yf 0 xs parts.toList
 | .app d sz el x y,.call ⟨.builtin .append,⟨[o',a]⟩,⟨[t,e]⟩⟩=>o.dst==some d&&decide (d<N)&&t==e&&(match eo aT t with|some ⟨_,_,.slice b,_⟩=>el==b|_=>false)
   &&(match eo aT el with|some f=>f.size==sz&&decide (0<sz)&&decide (f.bytes<=2048)|none=>false)&&eC x o'&&eC y a
 | .bslm d _ sz el xs,.buildSlice t len parts=>o.dst==some d&&decide (d<N)&&(match eo aT t with|some ⟨_,_,.slice b,_⟩=>el==b|_=>false)&&(match eo aT el with|some f=>f.size==sz&&decide (0<sz)|none=>false)
   &&len==xs.length&&decide (len*sz<=16777216)&&yf 0 xs parts.toList
 | .appm d _ sz el x y,.call ⟨.builtin .append,⟨[o',a]⟩,⟨[t,e]⟩⟩=>o.dst==some d&&decide (d<N)&&t==e&&(match eo aT t with|some ⟨_,_,.slice b,_⟩=>el==b|_=>false)
   &&(match eo aT el with|some f=>f.size==sz&&decide (0<sz)&&decide (f.bytes<=2048)|none=>false)&&eC x o'&&eC y a
 | .storeE sz x y,.store t o' a=>o.dst==none&&(match eo aT t with|some f=>f.size==sz|none=>false)&&eC x o'&&eC y a
 | .apps d el x y,.call ⟨.builtin .append,⟨[o',a]⟩,⟨[t,e]⟩⟩=>o.dst==some d&&decide (d<N)&&(match eo aT t with|some ⟨_,_,.slice b,_⟩=>el==b|_=>false)&&(match eo aT e with|some ⟨_,_,.str,_⟩=>true|_=>false)
   &&(match eo aT el with|some f=>f.size==1&&decide (f.bytes<=2048)|none=>false)&&eC x o'&&eC y a
 | .mks d _ sz el z x,.makeSlice t o' a=>o.dst==some d&&decide (d<N)&&(match eo aT t with|some ⟨_,_,.slice b,_⟩=>el==b|_=>false)
   &&(match eo aT el with|some f=>f.size==sz&&decide (0<sz)&&decide (f.bytes<=2048)&&C3 z f.zero|none=>false)&&eC x o'&&eC x a
 |_,_=>false
def aaK{w:World}{Z:a8}{C:fb}{st:bn}{a:Act}(p:cZ C st a w Z){sz:Nat}:
  ∀(xs:List dv) (i:Nat) (os:List (Nat×jk)) (pre:List ah) (us:Array Value) (bf:List Value),yf i xs os=true->sW sz (xs.map (cg st.t))->us.toList.take (i*sz)=bf->dk w Z sz pre bf->i=pre.length->us.size=(i+xs.length)*sz->
  ∃e:Array Value,Instr.fill (fun i=>some (i*sz,sz)) us (os.map fun(x:Nat×jk)=>(x.1,a.eval x.2))=some e/\dk w Z sz (pre++xs.map (cg st.t)) e.toList/\e.size=us.size
 |[],i,[],pre,us,bf,_,_,g,h,hi,f=>by refine⟨us,by simp[Instr.fill],?_,rfl⟩;have u:=sx h;have:us.toList.take (i*sz)=us.toList:=gv (by simp at f⊢;omega);rw[this]at g;simpa[g]using h
 |[],_,_::_,_,_,_,b,_,_,_,_,_=>by simp[yf]at b
 |_::_,_,[],_,_,_,b,_,_,_,_,_=>by simp[yf]at b
 |x::xs,i,(j,o)::os,pre,us,bf,b,k,g,h,hi,f=>by
  simp only[yf,cD,dW]at b;obtain⟨⟨rfl,J⟩,U⟩:=b;simp only[fG,sW]at k;obtain⟨⟨s,hlen⟩,k⟩:=k;have n:=eD p J;have m:=wP n s;have q:=qU m;have c:(a.eval o).cells.size=sz:=by rw[hlen]at q;simpa using q
  have hmul:i*sz+sz<=us.size:=by rw[f,ik,show i+(xs.length+1)=(i+1)+xs.length from by omega,q2,Nat.succ_mul];omega
  have l:=LW (w:=w) (Z:=Z) (a.eval o).cells.toList 0 (i*sz) us (by simp[c];omega);have t:dk w Z sz (pre++[cg st.t x]) (bf++(a.eval o).cells.toList):=by refine CI h ?_;simp only[dk];exact⟨a.eval o,[],Ψ,⟨n,c,CL m⟩,rfl⟩
  have r:bf.length=i*sz:=by rw[<-g];simp;omega
  obtain⟨e,g1,g2,g3⟩:=aaK p xs (i+1) os (pre++[cg st.t x]) (((a.eval o).cells.toList.zipIdx 0).foldl (fun cs (x:Value×Nat)=>cs.setIfInBounds (i*sz+x.2) x.1) us) (bf++(a.eval o).cells.toList) U k
   (by
    rw[l];simp only[Nat.add_zero];rw[g];have:(bf++(a.eval o).cells.toList).length=(i+1)*sz:=by rw[ga,r,Nat.succ_mul];simp[c]
    rw[<-this,List.take_append_of_le_length (e2 _),lZ]) t (by simp[hi])
   (by have d:=eG List.length l;simp only[Array.length_toList,ga,oT,sO,c]at d;rw[d,f,ik,show i+(xs.length+1)=i+1+xs.length from by omega];rw[f,ik,show i+(xs.length+1)=i+1+xs.length from by omega]at hmul;omega)
  refine⟨e,?_,by simpa using g2,?_⟩
  ·simp only[fG,Instr.fill];rw[if_neg (by simp[c];omega),<-g1];congr 1;rw[<-Array.foldl_toList];simp
  ·rw[g3];have d:=eG List.length l;simp only[Array.length_toList,ga,oT,sO,c]at d;rw[d];omega
def aqy{P:cE}(w:World)(t d ty e:fF)(i:TypeInfo)(aM:P.underlying t=some (.slice e))(hu:P.underlying d=some .string)(hi:P.info? e=some i)(f:i.size=1)
  (g a b:Nat) (cur:Array Value) (a1:w.heap[g]? =some (.cells cur e (0,0))) (s:lK) (h:a+s.size<=b) (j:a+s.size<=cur.size):
  (ui #[t,d] ty #[.slice (some ⟨g,0,none⟩) a b,.string s]).run P w=
   .ok (.slice (some ⟨g,0,none⟩) (a+s.size) b) (w.setRow g (cur.toList.take a++byteCells s++cur.toList.drop (a+s.size)).toArray):=by
 have c:=Src.ofString (P:=P) w hu s;have dd:=run_storeCells_at P g a e (byteCells s) 0 cur w a1 (by simpa[byteCells_length]using j) c.one;simp only[Nat.add_zero,byteCells_length]at dd;simp[ui,run_underlying aM,run_underlying hu,sizeOf,typeInfo,hi,f,c.len,h,c.cells,Addr.add_lit,dd]
def aaH{P:cE}(w:World)(t c ty e:fF)(i:TypeInfo)(z:Value)(aM:P.underlying t=some (.slice e))(hu:P.underlying c=some .string)(hi:P.info? e=some i)(x:i.zero=some z)(f:i.size=1)(p:z.cells.size=1)
  (v:Value) (n:Nat) (xs:List Value) (d:w.ownsRow 0 e 1 v n xs) (s:lK) (cap:Nat) (base:aZ Addr) (B:v= .slice base n cap) (m:cap<n+s.size) (h:n+s.size<=maxLen) (q:(n+s.size)*i.bytes<=140737488355328):
  ∃v' w',(ui #[t,c] ty #[v,.string s]).run P w= .ok v' w'/\w'.ownsRow w.heap.size e 1 v' (n+s.size) (xs++byteCells s)/\w.grownBy w' none:=by
 subst B;have F:=Src.ofString (P:=P) w hu s;have b:xs.length=n:=by simpa using d.1
 have hold:(Builtin.firstCells i.size n (.slice base n cap)).run P w.drew= .ok xs.toArray w.drew:=by
  rw[f];rcases d.2 with⟨a,rfl⟩|⟨g,G,cur,a,L,a1,M,l,H,J⟩
  ·injection a with a E r;subst a;have:xs=[]:=vn b;subst this;exact run_firstCells_none w.drew 1 0 0 cap
  ·have K:=a;injection a with a E r;subst a;refine run_firstCells_some w.drew 1 n _ n cap xs Ω fun j u y=>?_;have:=d.cells (g:=g) rfl j u y;simpa using this
 have D:=run_append_grow_src (P:=P) w t c ty e i z aM hi x base n cap xs hold (.string s) s.size (byteCells s) (by rw[f];exact F) m (by simp only[maxLen]at h;omega) (growslice_fits Ω q);have o:=grownCap_ge w (n+s.size) cap e;have l:grownCap w (n+s.size) cap e<=maxLen:=grownCap_le_maxLen w (n+s.size) cap e h;refine⟨_,_,D,⟨by simp[byteCells_length,b],.inr ⟨w.heap.size,_,_,rfl,e2 _,heap_alloc_new w.drew _,o,l,?_,?_⟩⟩,⟨rfl,rfl,rfl,Ψ,fun k A _=>heap_alloc_old w.drew _ A⟩⟩
 ·simp only[Array.size_append,List.size_toArray,size_zeroCells,p,ga,byteCells_length,b];omega
 ·simp only[Array.toList_append,List.toList_toArray];rw[List.take_left' (by simp[byteCells_length,b])]
def Ps(w:World)(Z:a8):∀s:List b7,dk w Z 1 (gE s) (s.map fun c=>pz .u8 c.toNat)
 |[]=>by simp[gE,dk]
 |c::s=>by have:=Ps w Z s;simp only[gE,fG,dk]at this⊢;exact⟨.int .u8 c.toNat,_,rfl,⟨by simp[aV],rfl,by intro x a;simp[nu]at a;subst a;rfl⟩,this⟩
end
end Go.Pv
