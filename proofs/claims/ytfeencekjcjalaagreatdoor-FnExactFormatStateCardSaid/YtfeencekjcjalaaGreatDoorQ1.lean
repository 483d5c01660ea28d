/- Rows of the call's own: a new one, and one that is appended to in place. -/
import Derived.WalkKit
import Derived.Orders
import Derived.KernelRfl
import Derived.IntWalk
import Derived.Laws.StructEq
import Derived.ChangeKeysEq
import Derived.MapKept
import Derived.ArgAppend
set_option linter.all false
set_option maxHeartbeats 4000000
set_option maxRecDepth 4000
namespace Go
theorem an{p:Prop}(h:p:=by kernel_rfl):p:=h
theorem bi{p:Prop}(h:p:=by simp only[aO,aE,aF,bX,b3];exact aL):p:=h
theorem bv{p:Prop}(h:p:=by first|exact cm _|exact cm ‹_› _):p:=h
theorem ci{p:Prop}(h:p:=by simp only[cd,b8,bf,br];exact aL):p:=h
theorem co{p:Prop}(h:p:=by simp[aO,aE,aF]):p:=h
theorem dg{p:Prop}(h:p:=by simp[inObs,Pv.look,cd,b8,bf,br,aA,av]):p:=h
theorem d6{p:Prop}(h:p:=by simp only[bf,br];exact aL):p:=h
theorem d7{p:Prop}(h:p:=by simp;omega):p:=h
theorem d8{p:Prop}(h:p:=by simp[inObs,Pv.look,aO,aE,aF]):p:=h
theorem d9{p:Prop}(h:p:=by simp[av]):p:=h
theorem gc{p:Prop}(h:p:=by first|exact iO _|exact iO ‹_› _):p:=h
theorem ge{p:Prop}(h:p:=by simp[hb,bf,inObs,Pv.look]):p:=h
theorem go{p:Prop}(h:p:=by simp only[gw,aE,aF,bX,b3];exact aL):p:=h
theorem gt{p:Prop}(h:p:=by simp[fresh,aA,av,b0,inObs,Pv.look,ft]):p:=h
theorem g8{p:Prop}(h:p:=by simp[fresh,aA,av,dH,inObs,Pv.look,ft]):p:=h
theorem g9{p:Prop}(h:p:=by simp[aA,av,inObs,Pv.look]):p:=h
theorem hV{p:Prop}(h:p:=by simp[Pv.look]):p:=h
theorem ii{p:Prop}(h:p:=by simp[fresh,aA,av,b0,inObs,Pv.look,hI]):p:=h
theorem io{p:Prop}(h:p:=by simp[fresh,aA,av,dH,inObs,Pv.look,hI]):p:=h
theorem ip{p:Prop}(h:p:=by simp only[eY,aE,aF,bX,b3];exact aL):p:=h
theorem i6{p:Prop}(h:p:=by simp[fresh,aA,av,b0,inObs,Pv.look,kA]):p:=h
theorem i7{p:Prop}(h:p:=by simp[fresh,aA,av,dH,inObs,Pv.look,kA]):p:=h
theorem i8{p:Prop}(h:p:=by simp only[gJ,aE,aF,bX,b3];exact aL):p:=h
theorem jp{p:Prop}(h:p:=by simp only[aO,aE];exact aL):p:=h
theorem kH{p:Prop}(h:p:=by simp[fresh,aA,av,b0,inObs,Pv.look,aF,aE]):p:=h
theorem li{p:Prop}(h:p:=by simp[fresh,aA,av,dH,inObs,Pv.look,aF,aE]):p:=h
theorem lm{p:Prop}(h:p:=by simp[fresh,aA,av,b0,inObs,Pv.look,gC,rO,rN,rM,rL]):p:=h
theorem lw{p:Prop}(h:p:=by simp[fresh,aA,av,dH,inObs,Pv.look,gC,rO,rN,rM,rL]):p:=h
theorem md{p:Prop}(h:p:=by simp only[binOp,Op.intBits,ne_eq,not_true_eq_false,if_false,gn]):p:=h
theorem mn{p:Prop}(h:p:=by simp[fresh,aA,av,b0,inObs,Pv.look,lO]):p:=h
theorem mp{p:Prop}(h:p:=by simp[fresh,aA,av,dH,inObs,Pv.look,lO]):p:=h
theorem mE{p:Prop}(h:p:=by first|exact qO _|exact qO ‹_› _):p:=h
theorem m6{p:Prop}(h:p:=by first|exact rG _|exact rG ‹_› _):p:=h
theorem m7{p:Prop}(h:p:=by simp only[jt,bX,b3];exact aL):p:=h
theorem m8{p:Prop}(h:p:=by simp only[ju,bX,b3];exact aL):p:=h
theorem m9{p:Prop}(h:p:=by simp only[gJ,aE,aF,bD.grey,bX,b3];exact aL):p:=h
theorem nq{p:Prop}(h:p:=by simpa only[hh]using he):p:=h
theorem n8{p:Prop}(h:p:=by simp[gw,aE,aF]):p:=h
theorem ol{p:Prop}(h:p:=by unfold e3;omega):p:=h
theorem ou{p:Prop}(h:p:=by simp only[eA]):p:=h
theorem o4{p:Prop}(h:p:=by simp[av];omega):p:=h
theorem pi{p:Prop}(h:p:=by simp[av,aA]):p:=h
theorem pl{p:Prop}(h:p:=by simp[eY,aE,aF]):p:=h
theorem Ω{p:Prop}(h:p:=by omega):p:=h
theorem Ψ{p:Prop}(h:p:=by simp):p:=h
end Go
open Array renaming getElem?_toList->tN
open BitVec renaming ofInt->rv
open Bool renaming and_eq_true->cD,eq_iff_iff->ry,false_eq_true->hz
open ByteArray renaming empty->awc,ext->arN,push->awd,size->abe
open Go renaming Operand->jb,Program->cz,TypeId->fF
open Go.ByteArray renaming toList_eq->arO
open Go.IntKind renaming i64->oz
open Go.IntWalk renaming i64_in->lT
open Go.Op renaming bytesLess->hX
open Go.Result renaming andThen_ok->fx
open Go.Sem renaming run_bind->fq,run_pure->gn
open Go.Value renaming cells->nM,int->pf,ownBlock->oA
open Go.Value.pointer renaming injEq->awm
open List renaming all_eq_true->jL,cons_append->bX,eq_nil_of_length_eq_zero->u6,getElem?_eq_getElem->cl,getElem?_eq_some_iff->fy,length_append->hq,length_cons->jc,length_drop->sq,length_nil->qM,map_cons->fA,mem_append->kr,mem_cons->gp
open List.cons renaming injEq->rA
open Nat renaming le_refl->eR,le_trans->jM,mul_le_mul_right->tR
open Ne renaming symm->k8
open Option renaming isSome_iff_exists->gd,isSome_none->nh,map_eq_some_iff->gD,map_some->ni
open Option.some renaming injEq->dv
open Prod.mk renaming injEq->hN
open UInt8 renaming ofNat->sw
open _root_ renaming ByteArray->lG,False->et,Option->aW,UInt8->bV,beq_iff_eq->dS,congrArg->eu,decide_eq_true_eq->e8
namespace Go.Pv
section
open Go Go.RowKit
inductive aB where
 |loc (s:Nat)
 |obj (n:Nat)
 deriving DecidableEq,Inhabited
inductive Ax where
 |no
 |nil
 |own (k:aB)
 |tr (k:aB) (j:Nat)
 |lo (k:aB)
 deriving DecidableEq,Inhabited
inductive ah where
 |junk
 |int (k:IntKind) (n:Int)
 |bool (b:Bool)
 |str (s:List bV)
 |slice (sz:Nat) (tag:Ax) (xs:List ah)
 |agg (cs:List ah)
 |ptr (key:aB) (off:Nat)
 |eptr (x:ah)
 |iface (t:Nat) (x:ah)
 |nilp
 |tuple (ba:List ah)
 |func (f:Nat) (cZ:List ah)
 |gmap (key:aB)
 |row (sz:Nat) (key:aB) (n:Nat)
 |rptr (sz:Nat) (key:aB) (n i f:Nat)
 |hdm (clock:Nat) (borns:List Nat)
 |hdi (since:Nat) (seen:List Nat) (last:Nat)
 |cst (v:Value)
 deriving Inhabited
structure aZ where
 A:Nat->Nat->Prop
 bx:aB->aW Nat
 ow:aB->aW (Nat×Value)
 tr:aB->Nat->Nat->Prop
def lim:Nat:=68719476736
def ly(w:World)(A:Nat->Nat->Prop)(b:Nat):Nat->List Value->Prop
 |_,[]=>True
 |off,u::us=>(A b off/\w.cell? ⟨b,off,none⟩=some u)/\ly w A b (off+1) us
def shape(w:World)(b:Nat):aW (Nat×fF×(Nat×Nat)):=
 match w.heap[b]? with
 |some (.cells cur el fz)=>some (cur.size,el,fz)
 |_=>none
theorem wE{w w':World}{b:Nat}(h:w'.heap[b]? =w.heap[b]?):shape w' b=shape w b:=by unfold shape;rw[h]
mutual
def dZ(t:Bool)(w:World)(A:Nat->Nat->Prop)(F:Nat->Prop):ah->Value->Prop
 | .int k n,v=>v= .int k n
 | .bool b,v=>v= .bool b
 | .str s,v=>v= .string ⟨s.toArray⟩/\s.length<=lim
 | .slice sz _ xs,v=> ∃a cap,v= .slice a xs.length cap/\xs.length<=cap/\(cap<=maxLen/\xs.length<=lim)/\
   (xs=[]\/ ∃b off us G,a=some ⟨b,off,none⟩/\F b/\(∀c,G c->F c/\(t=true->c≠b))/\ly w A b off us/\(t=true->off=0/\0<us.length/\∃el,shape w b=some (cap*sz,el,(0,0)))/\pC t w A G sz xs us)
 | .agg cs,v=> ∃us:Array Value,v= .agg us/\pD t w A F cs us.toList
 |_,_=>et
def pD(t:Bool)(w:World)(A:Nat->Nat->Prop)(F:Nat->Prop):List ah->List Value->Prop
 |[],us=>us=[]
 |c::cs,us=> ∃u e d a,us=u::e/\((∀b,d b->F b)/\(∀b,a b->F b)/\(t=true->∀b,d b->¬a b))/\(dZ t w A d c u/\u.oneCell'=true)/\pD t w A a cs e
def pC(t:Bool)(w:World)(A:Nat->Nat->Prop)(F:Nat->Prop)(sz:Nat):List ah->List Value->Prop
 |[],us=>us=[]
 |x::xs,us=> ∃u e d a,us=u.cells.toList++e/\((∀b,d b->F b)/\(∀b,a b->F b)/\(t=true->∀b,d b->¬a b))/\(dZ t w A d x u/\u.cells.size=sz/\(∀c∈u.cells.toList,c.oneCell'=true))/\pC t w A a sz xs e
end
def wL(f:Nat):Nat:=f-1000000
def ub(f:Nat)(us:Array Value):Value:=if f<1000000 then .func (.func f) #[] us else .func (.func (wL f)) us #[]
theorem yN{f:Nat}(h:f<1000000)(us:Array Value):ub f us= .func (.func f) #[] us:=if_pos h
theorem agK{f:Nat}(h:¬f<1000000)(us:Array Value):ub f us= .func (.func (wL f)) us #[]:=if_neg h
theorem agJ(m:Nat)(us:Array Value):ub (m+1000000) us= .func (.func m) us #[]:=by unfold ub wL;rw[if_neg Ω,Nat.add_sub_cancel]
mutual
def aS(w:World)(Z:aZ):ah->Value->Prop
 | .junk,_=>True
 | .int k n,v=>v= .int k n
 | .bool b,v=>v= .bool b
 | .str s,v=>v= .string ⟨s.toArray⟩/\s.length<=lim
 | .slice sz tag xs,v=>
   (∃a cap,v= .slice a xs.length cap/\xs.length<=cap/\(cap<=maxLen/\xs.length<=lim)/\(xs=[]\/ ∃b off us,a=some ⟨b,off,none⟩/\ly w Z.A b off us/\di w Z sz xs us))/\
   (tag= .nil->v= .slice none 0 0)/\
   (∀g,tag= .own g->∃n u,Z.ow g=some (n,u)/\xs.length<=n/\(xs.length=n->v=u))/\
   (∀k j,tag= .tr k j->dZ true w Z.A (Z.tr k j) (.slice sz tag xs) v)/\(∀k,tag= .lo k->dZ false w Z.A (Z.tr k 0) (.slice sz tag xs) v)
 | .agg cs,v=> ∃us:Array Value,v= .agg us/\cW w Z cs us.toList
 | .ptr key off,v=> ∃b,Z.bx key=some b/\v= .pointer (some ⟨b,off,none⟩)
 | .eptr x,v=> ∃b off u,v= .pointer (some ⟨b,off,none⟩)/\aS w Z x u/\ly w Z.A b off u.cells.toList
 | .iface t x,v=> ∃u,v= .iface t u/\aS w Z x u
 | .nilp,v=>v= .pointer none
 | .tuple ba,v=> ∃us:Array Value,v= .tuple us/\cH w Z ba us.toList
 | .func f cZ,v=> ∃us:Array Value,v=ub f us/\cH w Z cZ us.toList
 | .gmap key,v=> ∃b,Z.bx key=some b/\v= .map (some b)
 | .row _ key n,v=>(∃b cap,v= .slice (some ⟨b,0,none⟩) n cap)/\n<=lim/\∃n' u,Z.ow key=some (n',u)/\n<=n'/\(n=n'->v=u)
 | .rptr sz key n i f,v=>(∃b o,v= .pointer (some ⟨b,o,none⟩))/\i<n/\∃n' u,Z.ow key=some (n',u)/\n<=n'/\(n=n'->∃b,u.ownBlock=some b/\v= .pointer (some ⟨b,i*sz+f,none⟩))
 | .hdm _ _,_=>et
 | .hdi _ _ _,_=>et
 | .cst c,v=>v=c
def cW(w:World)(Z:aZ):List ah->List Value->Prop
 |[],us=>us=[]
 |c::cs,us=> ∃u a,us=u::a/\(aS w Z c u/\u.oneCell'=true)/\cW w Z cs a
def cH(w:World)(Z:aZ):List ah->List Value->Prop
 |[],us=>us=[]
 |c::cs,us=> ∃u a,us=u::a/\aS w Z c u/\cH w Z cs a
def di(w:World)(Z:aZ)(sz:Nat):List ah->List Value->Prop
 |[],us=>us=[]
 |x::xs,us=> ∃u a,us=u.cells.toList++a/\(aS w Z x u/\u.cells.size=sz/\(∀c∈u.cells.toList,c.oneCell'=true))/\di w Z sz xs a
end
theorem xL{w w':World}{A A':Nat->Nat->Prop}{b:Nat}(be:∀b o,A b o->A' b o/\w'.cell? ⟨b,o,none⟩=w.cell? ⟨b,o,none⟩):
  ∀(us:List Value) (off:Nat),ly w A b off us->ly w' A' b off us
 |[],_,_=>trivial
 |_::us,off,h=>⟨⟨(be _ _ h.1.1).1,(be _ _ h.1.1).2.trans h.1.2⟩,xL be us (off+1) h.2⟩
mutual
theorem yQ{t:Bool}{w w':World}{A A':Nat->Nat->Prop}(be:∀b o,A b o->A' b o/\w'.cell? ⟨b,o,none⟩=w.cell? ⟨b,o,none⟩)(f:∀b o,A b o->shape w' b=shape w b):∀(p:ah) (F d:Nat->Prop) (v:Value),(∀b,F b->d b)->dZ t w A F p v->dZ t w' A' d p v
 | .int k n,_,_,_,_,h=>by simp only[dZ]at h⊢;exact h
 | .bool b,_,_,_,_,h=>by simp only[dZ]at h⊢;exact h
 | .str s,_,_,_,_,h=>by simp only[dZ]at h⊢;exact h
 | .slice sz tag xs,F,d,v,e,h=>by
  simp only[dZ]at h⊢;obtain⟨a,cap,J,U,q,g⟩:=h;refine⟨a,cap,J,U,q,?_⟩;rcases g with g|⟨b,off,us,G,r,x,j,i,m,l⟩
  ·exact .inl g
  ·refine .inr ⟨b,off,us,G,r,e _ x,fun c ax=>⟨e _ (j c ax).1,(j c ax).2⟩,xL be _ _ i,fun aM=>?_,Ha be f xs G G _ (fun _ h=>h) l⟩;obtain⟨f1,f2,el,f3⟩:=m aM;refine⟨f1,f2,el,?_⟩;cases us with
   |nil=>simp at f2
   |cons u us=>rw[f b off i.1.1];exact f3
 | .agg cs,F,d,v,e,h=>by simp only[dZ]at h⊢;obtain⟨us,J,U⟩:=h;exact⟨us,J,Ur be f cs F d _ e U⟩
 | .junk,_,_,_,_,h=>by simp[dZ]at h
 | .ptr _ _,_,_,_,_,h=>by simp[dZ]at h
 | .eptr _,_,_,_,_,h=>by simp[dZ]at h
 | .iface _ _,_,_,_,_,h=>by simp[dZ]at h
 | .nilp,_,_,_,_,h=>by simp[dZ]at h
 | .tuple _,_,_,_,_,h=>by simp[dZ]at h
 | .func _ _,_,_,_,_,h=>by simp[dZ]at h
 | .gmap _,_,_,_,_,h=>by simp[dZ]at h
 | .row _ _ _,_,_,_,_,h=>by simp[dZ]at h
 | .rptr _ _ _ _ _,_,_,_,_,h=>by simp[dZ]at h
 | .hdm _ _,_,_,_,_,h=>by simp[dZ]at h
 | .hdi _ _ _,_,_,_,_,h=>by simp[dZ]at h
 | .cst _,_,_,_,_,h=>by simp[dZ]at h
theorem Ur{t:Bool}{w w':World}{A A':Nat->Nat->Prop}(be:∀b o,A b o->A' b o/\w'.cell? ⟨b,o,none⟩=w.cell? ⟨b,o,none⟩)(i:∀b o,A b o->shape w' b=shape w b):∀(cs:List ah) (F a:Nat->Prop) (us:List Value),(∀b,F b->a b)->pD t w A F cs us->pD t w' A' a cs us
 |[],_,_,_,_,h=>by simp only[pD]at h⊢;exact h
 |c::cs,F,a,us,f,h=>by simp only[pD]at h⊢;obtain⟨u,g,e,d,J,⟨U,m,n⟩,⟨l,j⟩,k⟩:=h;exact⟨u,g,e,d,J,⟨fun b ae=>f _ (U b ae),fun b ae=>f _ (m b ae),n⟩,⟨yQ be i c e e u (fun _ h=>h) l,j⟩,Ur be i cs d d g (fun _ h=>h) k⟩
theorem Ha{t:Bool}{w w':World}{A A':Nat->Nat->Prop}(be:∀b o,A b o->A' b o/\w'.cell? ⟨b,o,none⟩=w.cell? ⟨b,o,none⟩)(i:∀b o,A b o->shape w' b=shape w b){sz:Nat}:∀(cs:List ah) (F a:Nat->Prop) (us:List Value),(∀b,F b->a b)->pC t w A F sz cs us->pC t w' A' a sz cs us
 |[],_,_,_,_,h=>by simp only[pC]at h⊢;exact h
 |c::cs,F,a,us,f,h=>by simp only[pC]at h⊢;obtain⟨u,g,e,d,J,⟨U,m,n⟩,⟨l,j⟩,k⟩:=h;exact⟨u,g,e,d,J,⟨fun b ae=>f _ (U b ae),fun b ae=>f _ (m b ae),n⟩,⟨yQ be i c e e u (fun _ h=>h) l,j⟩,Ha be i cs d d g (fun _ h=>h) k⟩
end
mutual
def av(S:aB->Prop):ah->Prop
 | .slice _ tag xs=>(match tag with| .own k=>S k| .tr k _=>S k| .lo k=>S k|_=>True)/\aA S xs
 | .agg cs=>aA S cs
 | .ptr k _=>S k
 | .eptr x=>av S x
 | .iface _ x=>av S x
 | .tuple ba=>aA S ba
 | .func _ cZ=>aA S cZ
 | .gmap k=>S k
 | .row _ k _=>S k
 | .rptr _ k _ _ _=>S k
 |_=>True
def aA(S:aB->Prop):List ah->Prop
 |[]=>True
 |x::xs=>av S x/\aA S xs
end
mutual
theorem tl{S T:aB->Prop}(h:∀k,S k->T k):∀p:ah,av S p->av T p
 | .junk,_=>by simp[av]
 | .int _ _,_=>by simp[av]
 | .bool _,_=>by simp[av]
 | .str _,_=>by simp[av]
 | .slice sz tag xs,a=>by simp only[av]at a⊢;exact⟨by cases tag<;>first|trivial|exact h _ a.1,kB h xs a.2⟩
 | .agg cs,a=>by simp only[av]at a⊢;exact kB h cs a
 | .ptr k _,a=>by simp only[av]at a⊢;exact h _ a
 | .eptr x,a=>by simp only[av]at a⊢;exact tl h x a
 | .iface _ x,a=>by simp only[av]at a⊢;exact tl h x a
 | .nilp,_=>by simp[av]
 | .tuple ba,a=>by simp only[av]at a⊢;exact kB h ba a
 | .func _ cZ,a=>by simp only[av]at a⊢;exact kB h cZ a
 | .gmap k,a=>by simp only[av]at a⊢;exact h _ a
 | .row _ k _,a=>by simp only[av]at a⊢;exact h _ a
 | .rptr _ k _ _ _,a=>by simp only[av]at a⊢;exact h _ a
 | .hdm _ _,_=>by simp[av]
 | .hdi _ _ _,_=>by simp[av]
 | .cst _,_=>by simp[av]
theorem kB{S T:aB->Prop}(h:∀k,S k->T k):∀b:List ah,aA S b->aA T b
 |[],_=>by simp[aA]
 |x::xs,a=>by simp only[aA]at a⊢;exact⟨tl h x a.1,kB h xs a.2⟩
end
mutual
theorem H7:∀p:ah,av (fun _=>True) p
 | .junk=>by simp[av]
 | .int _ _=>by simp[av]
 | .bool _=>by simp[av]
 | .str _=>by simp[av]
 | .slice sz tag xs=>by simp only[av];exact⟨by cases tag<;>trivial,vV xs⟩
 | .agg cs=>by simp only[av];exact vV cs
 | .ptr k _=>by simp[av]
 | .eptr x=>by simp only[av];exact H7 x
 | .iface _ x=>by simp only[av];exact H7 x
 | .nilp=>by simp[av]
 | .tuple ba=>by simp only[av];exact vV ba
 | .func _ cZ=>by simp only[av];exact vV cZ
 | .gmap k=>by simp[av]
 | .row _ k _=>by simp[av]
 | .rptr _ k _ _ _=>by simp[av]
 | .hdm _ _=>by simp[av]
 | .hdi _ _ _=>by simp[av]
 | .cst _=>by simp[av]
theorem vV:∀a:List ah,aA (fun _=>True) a
 |[]=>by simp[aA]
 |x::xs=>by simp only[aA];exact⟨H7 x,vV xs⟩
end
def ga:List Nat->List Value->List MapEntry
 |b::a,k::v::r=>⟨k,v,b⟩::ga a r
 |_,_=>[]
def jI(cs:List ah)(us:Array Value)(el:fF):Obj:=
 match cs with
 | .hdm clock borns::_=>.map (ga borns us.toList).toArray clock
 | .hdi since seen last::_=>.mapIter (match us.toList with|[.map m]=>m|_=>none) since seen.toArray last
 |_=>.cells us el
structure akw (clock:Nat) (borns:List Nat) (r:List ah):Prop where
 len:r.length=2*borns.length
 inc:borns.Pairwise (· < ·)
 lt:∀b∈borns,b<clock
def iz(w:World)(Z:aZ)(cs:List ah)(us:List Value):Prop:=
 match cs with
 | .hdm clock borns::r=>cH w Z r us/\akw clock borns r
 | .hdi _ _ _::r=>cH w Z r us
 |cs=>cW w Z cs us
def ik:List ah->Bool
 | .hdm _ _::_=>false
 | .hdi _ _ _::_=>false
 |_=>true
theorem zV{w:World}{Z:aZ}{cs:List ah}{us:List Value}(h:cW w Z cs us):ik cs=true:=by
 unfold ik;split
 ·simp only[cW,aS]at h;obtain⟨_,_,_,⟨h,_⟩,_⟩:=h;exact h.elim
 ·simp only[cW,aS]at h;obtain⟨_,_,_,⟨h,_⟩,_⟩:=h;exact h.elim
 ·rfl
theorem rk{cs:List ah}(h:ik cs=true)(us:Array Value)(el:fF):jI cs us el= .cells us el:=by
 unfold ik at h;unfold jI;split at h<;>first|cases h|skip
 rfl
theorem qC{w:World}{Z:aZ}{cs:List ah}(h:ik cs=true)(us:List Value):iz w Z cs us=cW w Z cs us:=by
 unfold ik at h;unfold iz;split at h<;>first|cases h|skip
 rfl
structure pn (S:aB->Prop) (w:World) (Z:aZ) (w':World) (Z':aZ):Prop where
 A:∀b o,Z.A b o->Z'.A b o/\w'.cell? ⟨b,o,none⟩=w.cell? ⟨b,o,none⟩
 bx:∀k b,S k->Z.bx k=some b->Z'.bx k=some b
 ow:∀g n u,S g->Z.ow g=some (n,u)->∃n' fp,Z'.ow g=some (n',fp)/\(n'=n/\fp=u\/n<n')
 sh:∀b o,Z.A b o->shape w' b=shape w b
 tr:∀k j b,S k->Z.tr k j b->Z'.tr k j b
abbrev lU:=pn (fun _=>True)
mutual
theorem tE{S:aB->Prop}{w w':World}{Z Z':aZ}(ak:pn S w Z w' Z'):∀(p:ah) (v:Value),av S p->aS w Z p v->aS w' Z' p v
 | .junk,_,_,_=>by simp[aS]
 | .int k n,_,_,h=>by simp only[aS]at h⊢;exact h
 | .bool b,_,_,h=>by simp only[aS]at h⊢;exact h
 | .str s,_,_,h=>by simp only[aS]at h⊢;exact h
 | .slice sz tag xs,v,d,h=>by
  simp only[aS,av]at h d⊢;obtain⟨⟨a,cap,J,U,m,l⟩,q,z,B,A⟩:=h;refine⟨⟨a,cap,J,U,m,?_⟩,q,fun g aY=>?_,fun k j o=>?_,fun k o=>?_⟩
  ·rcases l with l|⟨b,off,us,l,z,E⟩
   ·exact .inl l
   ·exact .inr ⟨b,off,us,l,xL ak.A _ _ z,I9 ak sz xs us d.2 E⟩
  ·obtain⟨n,u,G,H,F⟩:=z g aY;subst aY;obtain⟨n',D,f1,f2⟩:=ak.ow g n u d.1 G;refine⟨n',D,f1,?_⟩;rcases f2 with⟨rfl,rfl⟩|f2
   ·exact⟨H,F⟩
   ·exact⟨Ω,fun e=>Ω⟩
  ·have:=B k j o;subst o;exact yQ ak.A ak.sh _ _ _ _ (fun b=>ak.tr k j b d.1) this
  ·have:=A k o;subst o;exact yQ ak.A ak.sh _ _ _ _ (fun b=>ak.tr k 0 b d.1) this
 | .agg cs,v,d,h=>by simp only[aS,av]at h d⊢;obtain⟨us,J,U⟩:=h;exact⟨us,J,Jc ak cs _ d U⟩
 | .ptr key off,v,d,h=>by simp only[aS,av]at h d⊢;obtain⟨b,J,U⟩:=h;exact⟨b,ak.bx _ _ d J,U⟩
 | .iface t x,v,d,h=>by simp only[aS,av]at h d⊢;obtain⟨u,J,U⟩:=h;exact⟨u,J,tE ak x u d U⟩
 | .eptr x,v,d,h=>by simp only[aS,av]at h d⊢;obtain⟨b,off,u,J,U,m⟩:=h;exact⟨b,off,u,J,tE ak x u d U,xL ak.A _ _ m⟩
 | .nilp,_,_,h=>by simp only[aS]at h⊢;exact h
 | .tuple ba,v,d,h=>by simp only[aS,av]at h d⊢;obtain⟨us,J,U⟩:=h;exact⟨us,J,zX ak ba _ d U⟩
 | .func f cZ,v,d,h=>by simp only[aS,av]at h d⊢;obtain⟨us,J,U⟩:=h;exact⟨us,J,zX ak cZ _ d U⟩
 | .gmap key,v,d,h=>by simp only[aS,av]at h d⊢;obtain⟨b,J,U⟩:=h;exact⟨b,ak.bx _ _ d J,U⟩
 | .row sz key n,v,d,h=>by
  simp only[aS,av]at h d⊢;obtain⟨J,U,n',u,m,l,q⟩:=h;obtain⟨y,r,f1,f2⟩:=ak.ow key n' u d m;refine⟨J,U,y,r,f1,?_⟩;rcases f2 with⟨rfl,rfl⟩|f2
  ·exact⟨l,q⟩
  ·exact⟨Ω,fun e=>Ω⟩
 | .rptr sz key n i f,v,d,h=>by
  simp only[aS,av]at h d⊢;obtain⟨J,U,n',u,m,l,q⟩:=h;obtain⟨y,r,f1,f2⟩:=ak.ow key n' u d m;refine⟨J,U,y,r,f1,?_⟩;rcases f2 with⟨rfl,rfl⟩|f2
  ·exact⟨l,q⟩
  ·exact⟨Ω,fun e=>Ω⟩
 | .hdm _ _,_,_,h=>by simp only[aS]at h
 | .hdi _ _ _,_,_,h=>by simp only[aS]at h
 | .cst c,_,_,h=>by simp only[aS]at h⊢;exact h
theorem Jc{S:aB->Prop}{w w':World}{Z Z':aZ}(ak:pn S w Z w' Z'):∀(cs:List ah) (us:List Value),aA S cs->cW w Z cs us->cW w' Z' cs us
 |[],_,_,h=>by simp only[cW]at h⊢;exact h
 |c::cs,us,a,h=>by simp only[cW,aA]at h a⊢;obtain⟨u,b,J,U,d⟩:=h;exact⟨u,b,J,⟨tE ak c u a.1 U.1,U.2⟩,Jc ak cs b a.2 d⟩
theorem zX{S:aB->Prop}{w w':World}{Z Z':aZ}(ak:pn S w Z w' Z'):∀(cs:List ah) (us:List Value),aA S cs->cH w Z cs us->cH w' Z' cs us
 |[],_,_,h=>by simp only[cH]at h⊢;exact h
 |c::cs,us,a,h=>by simp only[cH,aA]at h a⊢;obtain⟨u,b,J,U,d⟩:=h;exact⟨u,b,J,tE ak c u a.1 U,zX ak cs b a.2 d⟩
theorem I9{S:aB->Prop}{w w':World}{Z Z':aZ}(ak:pn S w Z w' Z')(sz:Nat):∀(xs:List ah) (us:List Value),aA S xs->di w Z sz xs us->di w' Z' sz xs us
 |[],_,_,h=>by simp only[di]at h⊢;exact h
 |x::xs,us,a,h=>by simp only[di,aA]at h a⊢;obtain⟨u,b,J,⟨U,d,e⟩,c⟩:=h;exact⟨u,b,J,⟨tE ak x u a.1 U,d,e⟩,I9 ak sz xs b a.2 c⟩
end
theorem Zn{S:aB->Prop}{w w':World}{Z Z':aZ}(ak:pn S w Z w' Z'){cs:List ah}{us:List Value}(a:aA S cs)(h:iz w Z cs us):iz w' Z' cs us:=by
 unfold iz at h⊢;split
 ·simp only[aA]at a;exact⟨zX ak _ _ a.2 h.1,h.2⟩
 ·simp only[aA]at a;exact zX ak _ _ a.2 h
 ·rename_i J U;split at h
  ·exact absurd rfl (J _ _ _)
  ·exact absurd rfl (U _ _ _ _)
  ·exact Jc ak _ _ a h
section
variable {w w':World} {Z Z':aZ} (ak:lU w Z w' Z')
include ak
theorem wx{p:ah}{v:Value}(h:aS w Z p v):aS w' Z' p v:=tE ak p v (H7 p) h
theorem Zt{p:List ah}{v:List Value}(h:cW w Z p v):cW w' Z' p v:=Jc ak p v (vV p) h
theorem Jf{p:List ah}{v:List Value}(h:cH w Z p v):cH w' Z' p v:=zX ak p v (vV p) h
theorem qE{p:List ah}{v:List Value}(h:iz w Z p v):iz w' Z' p v:=Zn ak (vV p) h
theorem Cq{sz:Nat}{p:List ah}{v:List Value}(h:di w Z sz p v):di w' Z' sz p v:=I9 ak sz p v (vV p) h
end
end
section
open Go Go.RowKit
def get(k:Nat):List (Nat×ah)->ah
 |[]=>.junk
 |(i,p)::r=>if i=k then p else get k r
def put(k:Nat)(p:ah):List (Nat×ah)->List (Nat×ah)
 |[]=>[(k,p)]
 |(i,q)::r=>if i=k then(i,p)::r else(i,q)::put k p r
def look{α:Type}(k:aB):List (aB×α)->aW α
 |[]=>none
 |(i,p)::r=>if i=k then some p else look k r
def cB{α:Type}(k:aB)(p:α):List (aB×α)->List (aB×α)
 |[]=>[(k,p)]
 |(i,q)::r=>if i=k then(i,p)::r else(i,q)::cB k p r
theorem pE(k j:Nat)(p:ah):∀l,get j (put k p l)=if k=j then p else get j l
 |[]=>by simp[get,put]
 |(i,q)::r=>by
  by_cases h:i=k
  ·subst h;by_cases U:i=j<;>simp[get,put,U]
  ·by_cases U:i=j
   ·subst U;simp[get,put,h,k8 h]
   ·simp[get,put,h,U,pE k j p r]
theorem jG{α:Type}(k j:aB)(p:α):∀l,look j (cB k p l)=if k=j then some p else look j l
 |[]=>by simp[look,cB]
 |(i,q)::r=>by
  by_cases h:i=k
  ·subst h;by_cases U:i=j<;>simp[look,cB,U]
  ·by_cases U:i=j
   ·subst U;simp[look,cB,h,k8 h]
   ·simp[look,cB,h,U,jG k j p r]
structure ec where
 n:Nat
 el:Nat
 sz:Nat
 xs:aW (List ah)
def O0(w:World)(Z:aZ)(o:ec)(v:Value)(us:List Value):Prop:=∀xs,o.xs=some xs->xs.length=o.n/\di w Z o.sz xs us/\∀bl,v.ownBlock=some bl->∀j,¬Z.A bl j
theorem sb{w w':World}{Z Z':aZ}(ak:lU w Z w' Z'){o:ec}{v:Value}{us:List Value}(be:∀bl,v.ownBlock=some bl->∀j,Z'.A bl j->Z.A bl j)(h:O0 w Z o v us):O0 w' Z' o v us:=fun xs a=>⟨(h xs a).1,Cq ak (h xs a).2.1,fun bl ae j b=>(h xs a).2.2 bl ae j (be bl ae j b)⟩
def dH(S:aB->Prop)(o:ec):Prop:= ∀xs,o.xs=some xs->aA S xs
structure bh where
 t:List (Nat×ah)
 b:List (aB×List ah)
 e:List (aB×ec)
 n:Nat
 o:List aB
def fresh(n:Nat)(o:List aB)(k:aB):Prop:=(match k with| .loc m=>n<=m| .obj _=>True)/\k∉o
theorem yP{n n':Nat}{o o':List aB}(b:n<=n')(ak:∀k∈o,k∈o'){k:aB}(h:fresh n' o' k):fresh n o k:=by unfold fresh at h⊢;exact⟨by cases k<;>simp at h⊢;omega,fun a=>h.2 (ak k a)⟩
def PB(Z:aZ)(b:List (aB×List ah))(e:List (aB×ec))(bl:Nat):Prop:=(∃k,(look k b).isSome/\Z.bx k=some bl)\/(∃g n v,(look g e).isSome/\Z.ow g=some (n,v)/\v.ownBlock=some bl)
def FO:Nat:=137
def JV(k:aB):={el:fF//k= .obj 861->el=FO}
structure Good (pr:Nat->Prop) (w:World) (Z:aZ) (b:List (aB×List ah)) (e:List (aB×ec)):Prop where
 alt:∀bl o,Z.A bl o->bl<w.heap.size
 box:∀k cs,look k b=some cs->∃(bl:Nat) (us:Array Value) (el:JV k),Z.bx k=some bl/\pr bl/\(∀o,¬Z.A bl o)/\w.heap[bl]? =some (jI cs us el.1)/\iz w Z cs us.toList
 inj:∀k bn bl,(look k b).isSome->(look bn b).isSome->Z.bx k=some bl->Z.bx bn=some bl->k=bn
 own:∀g o,look g e=some o->∃v us,Z.ow g=some (o.n,v)/\w.ownsRow 0 o.el o.sz v o.n us/\(∀bl,v.ownBlock=some bl->pr bl/\(∀j,Z.A bl j->j<o.n*o.sz))/\O0 w Z o v us
 oinj:∀g fm n n' v v' bl,(look g e).isSome->(look fm e).isSome->Z.ow g=some (n,v)->Z.ow fm=some (n',v')->v.ownBlock=some bl->v'.ownBlock=some bl->g=fm
 obx:∀g k n v bl,(look g e).isSome->(look k b).isSome->Z.ow g=some (n,v)->v.ownBlock=some bl->Z.bx k=some bl->et
 one:∀k,Z.bx k=none\/Z.ow k=none
 otr:∀bl,PB Z b e bl->∀k j,¬Z.tr k j bl
def A7:List (Nat×Nat×Nat×(Value->Prop)):=((List.range 20).map fun i=>(0,i,20,fun v=>v=pf .u64 ((10 ^ i:Nat):Int)))++[]
def nQ(w:World)(Z:aZ):Prop:= ∀x∈A7,Z.A x.1 x.2.1/\(∃v,w.cell? ⟨x.1,x.2.1,none⟩=some v/\x.2.2.2 v)/\∃el,shape w x.1=some (x.2.2.1,el)
structure e0 where
 w0:World
 Z0:aZ
 mt:Nat->Prop
 N:Nat
 ob:List aB
 gl:nQ w0 Z0
 ex:List (ah×Value)
def e0.pr(C:e0)(bl:Nat):Prop:=C.mt bl\/C.w0.heap.size<=bl
def uS:aB:= .obj 990001
def gv:aB:= .obj 990002
structure qa (C:e0) (w:World) (Z:aZ):Prop where
 os:w.os=C.w0.os
 tape:w.tape=C.w0.tape
 output:w.output=C.w0.output
 size:C.w0.heap.size<=w.heap.size
 block:∀k,k<C.w0.heap.size->¬C.mt k->w.heap[k]? =C.w0.heap[k]?
 keep:∀b o,C.Z0.A b o->Z.A b o/\w.cell? ⟨b,o,none⟩=C.w0.cell? ⟨b,o,none⟩
 fresh:∀b o,Z.A b o->C.Z0.A b o\/C.pr b
 obj:∀n b,C.Z0.bx (.obj n)=some b->Z.bx (.obj n)=some b
 obn:∀n b,C.Z0.bx (.obj n)=some b-> .obj n∈C.ob
 row:∀m n u,C.Z0.ow (.obj m)=some (n,u)->∃n' fp,Z.ow (.obj m)=some (n',fp)/\(n'=n/\fp=u\/n<n')
 obr:∀m n u,C.Z0.ow (.obj m)=some (n,u)-> .obj m∈C.ob
 trd:∀k j bn df b,Z.tr k j b->Z.tr bn df b->k=bn/\j=df
 trb:∀k j b,Z.tr k j b->(k=uS\/C.w0.heap.size<=b)/\b<w.heap.size
 trn:∀k j b,Z.tr k j b->Z.bx k=none/\Z.ow k=none
 sh:∀b o,C.Z0.A b o->shape w b=shape C.w0 b
 nrow:∀j n u b,Z.ow (.loc j)=some (n,u)->u.ownBlock=some b->C.w0.heap.size<=b
theorem qa.gl{C:e0}{w:World}{Z:aZ}(h:qa C w Z):nQ w Z:=fun x a=>⟨(h.keep _ _ (C.gl x a).1).1,(C.gl x a).2.1.imp fun _ b=>⟨(h.keep _ _ (C.gl x a).1).2.trans b.1,b.2⟩,(C.gl x a).2.2.imp fun _ b=>(h.sh _ _ (C.gl x a).1).trans b⟩
theorem FA{Z Z':aZ}{g:aB}{n:Nat}{u:Value}(h:∃n' a,Z.ow g=some (n',a)/\(n'=n/\a=u\/n<n'))(ak:∀n u,Z.ow g=some (n,u)->∃n' a,Z'.ow g=some (n',a)/\(n'=n/\a=u\/n<n')):
  ∃n' a,Z'.ow g=some (n',a)/\(n'=n/\a=u\/n<n'):=by
 obtain⟨e,d,i,b⟩:=h;obtain⟨f,c,f1,f2⟩:=ak e d i;refine⟨f,c,f1,?_⟩;rcases b with⟨rfl,rfl⟩|b
 ·exact f2
 ·rcases f2 with⟨rfl,rfl⟩|f2
  ·exact .inr b
  ·exact .inr Ω
structure cS (C:e0) (st:bh) (a:Act) (w:World) (Z:aZ):Prop where
 good:Good C.pr w Z st.b st.e
 fr:qa C w Z
 defers:a.defers=[]
 size:a.tmps.size=C.N
 slot:∀i,aS w Z (get i st.t) (a.tmps.getD i undef)
 new:∀k,fresh st.n st.o k->Z.bx k=none/\Z.ow k=none/\∀j b,¬Z.tr k j b
 ext:∀x∈C.ex,aS w Z x.1 x.2/\av (fun k=>k∈C.ob) x.1
 obk:∀m∈C.ob,¬fresh st.n st.o m
def eP(d:aW Nat)(p:ah)(t:List (Nat×ah)):List (Nat×ah):=
 match d with
 |some d=>put d p t
 |none=>t
def h1(N:Nat)(d:aW Nat):Bool:=match d with|some d=>decide (d<N)|none=>true
theorem cS.put{C:e0}{st:bh}{a:Act}{w:World}{Z:aZ}(h:cS C st a w Z){d:aW Nat}(f:h1 C.N d=true){p:ah}{v:Value}(b:aS w Z p v):
  cS C {st with t:=eP d p st.t} (a.put d v) w Z:=by
 cases d with
 |none=>exact h
 |some d=>
  have c:d<a.tmps.size:=by rw[h.size];simpa[h1]using f
  refine⟨h.good,h.fr,h.defers,by simpa[Act.put]using h.size,fun i=>?_,h.new,h.ext,h.obk⟩;simp only[eP,pE];by_cases e:d=i
  ·subst e;simpa[Act.put,Array.getD_eq_getD_getElem?,c]using b
  ·have:=h.slot i;simpa[e,Act.put,Array.getD_eq_getD_getElem?,Array.getElem?_setIfInBounds_ne e]using this
theorem cS.over{C:e0}{st st':bh}{a:Act}{w w':World}{Z Z':aZ}(h:cS C st a w Z)(ak:lU w Z w' Z')(aM:st'.t=st.t)(aY:Good C.pr w' Z' st'.b st'.e)(c:qa C w' Z')
  (f:∀k,fresh st'.n st'.o k->Z'.bx k=none/\Z'.ow k=none/\∀j b,¬Z'.tr k j b) (e:∀m,fresh st'.n st'.o m->fresh st.n st.o m:=by exact fun _ h=>h):cS C st' a w' Z':=
 ⟨aY,c,h.defers,h.size,fun i=>by rw[aM];exact wx ak (h.slot i),f,fun x d=>⟨wx ak (h.ext x d).1,(h.ext x d).2⟩,fun m hm c=>h.obk m hm (e m c)⟩
inductive ds where
 |t (i:Nat)
 |c (p:ah)
 deriving Inhabited
def cc(t:List (Nat×ah)):ds->ah
 | .t i=>get i t
 | .c p=>p
def Gr:ah->Value->Bool
 | .int k n,.int a n'=>decide (k=a/\n=n')
 | .bool b,.bool cb=>b==cb
 | .str s,.string l=>decide (l.data.toList=s/\s.length<=lim)
 | .slice _ .nil [],.slice none 0 0=>true
 | .nilp,.pointer none=>true
 | .tuple [],.tuple ⟨[]⟩=>true
 | .func f [],.func (.func g) ⟨[]⟩ ⟨[]⟩=>decide (f=g/\f<1000000)
 | .junk,_=>true
 |_,_=>false
theorem Q0(w:World)(Z:aZ){p:ah}{v:Value}(h:Gr p v=true):aS w Z p v:=by
 unfold Gr at h;split at h
 ·simp at h;obtain⟨rfl,rfl⟩:=h;simp[aS]
 ·simp at h;subst h;simp[aS]
 ·rename_i s l;simp at h;obtain⟨J,U⟩:=h;refine⟨?_,U⟩;subst J;simp
 ·simp only[aS];refine⟨⟨none,0,rfl,Ψ,Ψ,Ψ⟩,Ψ,(fun _ h=>by cases h),(fun _ _ h=>by cases h),(fun _ h=>by cases h)⟩
 ·simp[aS]
 ·simp[aS,cH]
 ·simp at h;obtain⟨rfl,h⟩:=h;simp[aS,cH,ub,h]
 ·simp[aS]
 ·cases h
def AH:List ah->List Value->Bool
 |[],[]=>true
 |p::a,v::ba=>Gr p v&&v.oneCell'&&AH a ba
 |_,_=>false
def AG:ah->Value->Bool
 | .agg cs,.agg us=>AH cs us.toList
 |p,v=>Gr p v
theorem Q1(w:World)(Z:aZ):∀(a:List ah) (ba:List Value),AH a ba=true->cW w Z a ba
 |[],[],_=>by simp[cW]
 |[],_::_,h=>by simp[AH]at h
 |_::_,[],h=>by simp[AH]at h
 |p::a,v::ba,h=>by simp only[AH,cD]at h;simp only[cW];exact⟨v,ba,rfl,⟨Q0 w Z h.1.1,h.1.2⟩,Q1 w Z a ba h.2⟩
theorem Kq(w:World)(Z:aZ){p:ah}{v:Value}(h:AG p v=true):aS w Z p v:=by
 unfold AG at h;split at h
 ·simp only[aS];exact⟨_,rfl,Q1 w Z _ _ h⟩
 ·exact Q0 w Z h
def ep:ds->jb->Bool
 | .t i,.tmp j=>i==j
 | .c p,.const v=>AG p v
 | .c (.func f []),.func g=>decide (f=g/\f<1000000)
 |_,_=>false
theorem er{C:e0}{st:bh}{a:Act}{w:World}{Z:aZ}(h:cS C st a w Z){x:ds}{o:jb}(b:ep x o=true):aS w Z (cc st.t x) (a.eval o):=by
 unfold ep at b;split at b
 ·simp at b;subst b;simpa[cc,Act.eval]using h.slot _
 ·simpa[cc,Act.eval]using Kq w Z b
 ·simp at b;obtain⟨rfl,b⟩:=b;simp[cc,Act.eval,aS,cH,ub,b]
 ·cases b
inductive C2 where
 |int (k:IntKind)
 |bool
 |str
 |slice (e:Nat)
 |struct (dX:List (Nat×Nat))
 |map (k e:Nat)
 |other
 |iface
 deriving DecidableEq
structure dE where
 size:Nat
 bytes:Nat
 kind:C2
 zero:ah
def C2.isAgg:C2->Bool
 | .struct _=>true
 |_=>false
def CP:List ah->List Value->Bool
 |[],[]=>true
 |p::a,v::ba=>AG p v&&v.oneCell'&&CP a ba
 |_,_=>false
def Ap:ah->Value->Bool
 | .agg cs,.agg us=>CP cs us.toList
 | .agg _,_=>false
 |p,v=>AG p v&&v.oneCell'
def ks:C2->TypeDesc->Bool
 | .int k,.int b=>decide (k=b)
 | .bool,.bool=>true
 | .str,.string=>true
 | .slice e,.slice a=>e==a
 | .struct c,.struct gs=>decide (gs.toList.map (fun f=>(f.offset,f.type))=c)
 | .map k e,.map b a=>k==b&&e==a
 | .iface,.interface _=>true
 | .other,d=>match d with| .struct _| .array _ _| .int _| .bool| .string| .slice _=>false|_=>true
 |_,_=>false
def Uf(P:cz)(gs:Array Field):Bool:=gs.toList.all fun f=>match P.underlying f.type with|some (.int _)=>true|some .string=>true|_=>false
def Tk(P:cz)(t:Nat)(gs:Array Field):Bool:=gs.toList.all (fun f=>f.name != "_")&& !P.stoodInHeld t&& !P.eqGuardType P.depth t
def KR(P:cz)(t:Nat):TypeDesc->Bool
 | .struct gs=> !Uf P gs||Tk P t gs
 |_=>true
def PF(P:cz)(t:Nat)(f:dE):Bool:=
 match P.info? t,P.underlying t with
 |some i,some d=>KR P t d&&i.size==f.size&&i.bytes==f.bytes&&ks f.kind d&&(match i.zero with|some z=>Ap f.zero z&&z.cells.size==f.size|none=>false)
 |_,_=>false
def e6(P:cz)(bu:List (Nat×dE)):Bool:=(bu.all fun x=>PF P x.1 x.2)&&decide (P.funcs.size<=1000000)
theorem e6.sz{P:cz}{bu:List (Nat×dE)}(h:e6 P bu=true):P.funcs.size<=1000000:=by unfold e6 at h;rw[cD,e8]at h;exact h.2
def ea(bu:List (Nat×dE))(t:Nat):aW dE:=(bu.find? fun x=>x.1==t).map (·.2)
theorem apW{P:cz}{bu:List (Nat×dE)}(h:e6 P bu=true){t:Nat}{f:dE}(b:ea bu t=some f):PF P t f=true:=by
 unfold ea at b;cases a:bu.find? fun x=>x.1==t with
 |none=>simp[a]at b
 |some x=>simp[a]at b;have J:=List.find?_some a;simp at J;have U:=List.mem_of_find?_eq_some a;have c:=jL.1 (by unfold e6 at h;rw[cD]at h;exact h.1) x U;rw[<-b,<-J];exact c
structure abE (P:cz) (t:Nat) (f:dE):Prop where
 cmp:∀d,P.underlying t=some d->KR P t d=true
 ex:∃i d z,P.info? t=some i/\P.underlying t=some d/\i.size=f.size/\i.bytes=f.bytes/\ks f.kind d=true/\i.zero=some z/\Ap f.zero z=true/\z.cells.size=f.size
theorem uZ{P:cz}{bu:List (Nat×dE)}(h:e6 P bu=true){t:Nat}{f:dE}(k:ea bu t=some f):abE P t f:=by
 have h:=apW h k;unfold PF at h;split at h
 ·rename_i i d J U;simp only[cD,dS]at h;obtain⟨⟨⟨⟨c,j⟩,l⟩,e⟩,a⟩:=h;split at a
  ·rename_i z g;simp only[cD,dS]at a;exact⟨fun m b=>by rw[U]at b;cases b;exact c,i,d,z,J,U,j,l,e,g,a.1,a.2⟩
  ·cases a
 ·cases h
theorem pt(b o j:Nat):(⟨b,o,none⟩:Addr).add j=⟨b,o+j,none⟩:=by
 unfold Addr.add;split
 ·rename_i h;subst h;rfl
 ·rfl
theorem P7(w:World)(Z:aZ):∀(a:List ah) (ba:List Value),CP a ba=true->cW w Z a ba
 |[],[],_=>by simp[cW]
 |[],_::_,h=>by simp[CP]at h
 |_::_,[],h=>by simp[CP]at h
 |p::a,v::ba,h=>by simp only[CP,cD]at h;simp only[cW];exact⟨v,ba,rfl,⟨Kq w Z h.1.1,h.1.2⟩,P7 w Z a ba h.2⟩
def cells:ah->List ah
 | .agg cs=>cs
 |p=>[p]
def e5:ah->Bool
 | .junk| .tuple _=>false
 | .cst (.slice _ _ _)| .cst (.string _)=>true
 | .cst _=>false
 |_=>true
theorem OW{w:World}{Z:aZ}{p:ah}{v:Value}(h:aS w Z p v)(d:e5 p=true)(e:∀cs,p≠ .agg cs):v.oneCell'=true/\v.cells= #[v]:=by
 cases p<;>simp only[aS,e5]at h d;case junk=>cases d
 case tuple=>cases d
 case cst c=>subst h;cases v<;>first|exact⟨rfl,rfl⟩|cases d
 case agg cs=>exact absurd rfl (e cs)
 case int=>subst h;exact⟨rfl,rfl⟩
 case bool=>subst h;exact⟨rfl,rfl⟩
 case str=>rw[h.1];exact⟨rfl,rfl⟩
 case slice=>obtain⟨⟨a,cap,J,_⟩,_⟩:=h;subst J;exact⟨rfl,rfl⟩
 case ptr=>obtain⟨b,_,J⟩:=h;subst J;exact⟨rfl,rfl⟩
 case eptr=>obtain⟨b,o,u,J,_⟩:=h;subst J;exact⟨rfl,rfl⟩
 case iface=>obtain⟨u,J,_⟩:=h;subst J;exact⟨rfl,rfl⟩
 case nilp=>subst h;exact⟨rfl,rfl⟩
 case func=>obtain⟨us,J,_⟩:=h;subst J;unfold ub;split<;>exact⟨rfl,rfl⟩
 case gmap=>obtain⟨b,_,J⟩:=h;subst J;exact⟨rfl,rfl⟩
 case row=>obtain⟨⟨a,cap,J⟩,_⟩:=h;subst J;exact⟨rfl,rfl⟩
 case rptr=>obtain⟨⟨a,o,J⟩,_⟩:=h;subst J;exact⟨rfl,rfl⟩
theorem wv{w:World}{Z:aZ}{p:ah}{v:Value}(h:aS w Z p v)(c:e5 p=true):cW w Z (cells p) v.cells.toList:=by
 by_cases b:∃cs,p= .agg cs
 ·obtain⟨cs,rfl⟩:=b;simp only[aS]at h;obtain⟨us,rfl,U⟩:=h;simpa[cells,nM]using U
 ·have a:∀cs,p≠ .agg cs:=fun cs e=>b ⟨cs,e⟩;obtain⟨J,U⟩:=OW h c a;have ax:cells p=[p]:=by cases p<;>first|rfl|exact absurd rfl (a _)
  rw[ax,U];simp only[cW];exact⟨v,[],rfl,⟨h,J⟩,rfl⟩
theorem Cs{w:World}{Z:aZ}:∀{a:List ah} {ba:List Value},cW w Z a ba->∀c∈ba,c.oneCell'=true
 |[],ba,h=>by simp only[cW]at h;subst h;simp
 |p::a,ba,h=>by
  simp only[cW]at h;obtain⟨u,b,rfl,J,U⟩:=h;intro c ax;rcases gp.1 ax with rfl|ax
  ·exact J.2
  ·exact Cs U c ax
theorem qF{w:World}{Z:aZ}:∀{a:List ah} {ba:List Value},cW w Z a ba->ba.length=a.length
 |[],ba,h=>by simp only[cW]at h;subst h;rfl
 |p::a,ba,h=>by simp only[cW]at h;obtain⟨u,b,rfl,_,U⟩:=h;simp[qF U]
theorem Cr{w:World}{Z:aZ}:∀(n:Nat) {a:List ah} {ba:List Value},cW w Z a ba->cW w Z (a.drop n) (ba.drop n)
 |0,_,_,h=>by simpa using h
 |n+1,[],ba,h=>by simp only[cW]at h;subst h;simp[cW]
 |n+1,p::a,ba,h=>by simp only[cW]at h;obtain⟨u,b,rfl,_,U⟩:=h;simpa using Cr n U
theorem Fw{w:World}{Z:aZ}:∀(n:Nat) {a:List ah} {ba:List Value},cW w Z a ba->cW w Z (a.take n) (ba.take n)
 |0,_,_,_=>by simp[cW]
 |n+1,[],ba,h=>by simp only[cW]at h;subst h;simp[cW]
 |n+1,p::a,ba,h=>by simp only[cW]at h;obtain⟨u,b,rfl,J,U⟩:=h;simp only[List.take_succ_cons,cW];exact⟨u,_,rfl,J,Fw n U⟩
theorem zU{w:World}{Z:aZ}:∀{a b7:List ah} {ba us:List Value},cW w Z a ba->cW w Z b7 us->cW w Z (a++b7) (ba++us)
 |[],b7,ba,us,h,b=>by simp only[cW]at h;subst h;simpa using b
 |p::a,b7,ba,us,h,b=>by simp only[cW]at h;obtain⟨u,c,rfl,J,U⟩:=h;simp only[bX,cW];exact⟨u,_,rfl,J,zU U b⟩
theorem Fv{w:World}{Z:aZ}:∀(n:Nat) {b:List ah} {ba:List Value} {p:ah},cW w Z b ba->b[n]? =some p->∃v,ba[n]? =some v/\aS w Z p v/\v.oneCell'=true
 |n,[],_,p,_,a=>by simp at a
 |0,q::b,ba,p,h,a=>by simp only[cW]at h;obtain⟨u,c,rfl,J,_⟩:=h;simp at a;subst a;exact⟨u,rfl,J.1,J.2⟩
 |n+1,q::b,ba,p,h,a=>by simp only[cW]at h;obtain⟨u,c,rfl,_,U⟩:=h;simpa using Fv n U (by simpa using a)
theorem Jd{w:World}{Z:aZ}:∀(n:Nat) {b:List ah} {ba:List Value} {p:ah},cH w Z b ba->b[n]? =some p->∃v,ba[n]? =some v/\aS w Z p v
 |n,[],_,p,_,a=>by simp at a
 |0,q::b,ba,p,h,a=>by simp only[cH]at h;obtain⟨u,c,rfl,J,_⟩:=h;simp at a;subst a;exact⟨u,rfl,J⟩
 |n+1,q::b,ba,p,h,a=>by simp only[cH]at h;obtain⟨u,c,rfl,_,U⟩:=h;simpa using Jd n U (by simpa using a)
theorem vZ{w:World}{A:Nat->Nat->Prop}{b:Nat}:∀{us:List Value} {off j:Nat} {u:Value},ly w A b off us->us[j]? =some u->A b (off+j)/\w.cell? ⟨b,off+j,none⟩=some u
 |[],_,_,_,_,h=>by simp at h
 |x::us,off,0,u,a,h=>by simp at h;subst h;exact a.1
 |x::us,off,j+1,u,a,h=>by have:=vZ (j:=j) a.2 (by simpa using h);rwa[show off+1+j=off+(j+1)from by omega]at this
theorem H9{w:World}{A:Nat->Nat->Prop}{b:Nat}:∀(n:Nat) {us:List Value} {off:Nat},ly w A b off us->ly w A b (off+n) (us.drop n)
 |0,_,_,h=>by simpa using h
 |n+1,[],_,_=>by simp[ly]
 |n+1,x::us,off,h=>by have:=H9 n h.2;rw[show off+(n+1)=off+1+n from by omega];simpa using this
theorem Ib{w:World}{A:Nat->Nat->Prop}{b:Nat}:∀(n:Nat) {us:List Value} {off:Nat},ly w A b off us->ly w A b off (us.take n)
 |0,_,_,_=>by simp[ly]
 |n+1,[],_,_=>by simp[ly]
 |n+1,x::us,off,h=>by simp only[List.take_succ_cons];exact⟨h.1,Ib n h.2⟩
theorem ZH{P:cz}{w:World}{A:Nat->Nat->Prop}{b off:Nat}{us:List Value}(h:ly w A b off us):(loadCells ⟨b,off,none⟩ us.length).run P w= .ok us.toArray w:=run_loadCells_list w _ us fun j v a=>by rw[pt];exact(vZ h a).2
theorem aoY{P:cz}{w:World}{b off n:Nat}{us:Array Value}{el:fF}{fr:Nat×Nat}(h:w.heap[b]? =some (.cells us el fr))(e:off+n<=us.size):
  (loadCells ⟨b,off,none⟩ n).run P w= .ok ((us.toList.drop off).take n).toArray w:=by
 have d:((us.toList.drop off).take n).length=n:=by simp;omega
 have:=run_loadCells_list (P:=P) w ⟨b,off,none⟩ ((us.toList.drop off).take n) fun j v c=>by
  rw[pt];have a:j<n:=by have:=(fy.1 c).1;omega
  simp only[World.cell?,h,nh,hz,if_false];rw[List.getElem?_take]at c;simpa[a]using c
 rw[d]at this;exact this
theorem TB{α:Type}(l r:List α)(n sz:Nat)(h:l.length=sz):(l++r).drop ((n+1)*sz)=r.drop (n*sz):=by
 have e:(n+1)*sz=l.length+n*sz:=by rw[h,Nat.succ_mul,Nat.add_comm]
 rw[e,<-List.drop_drop];simp
theorem aaa{α:Type}(l r:List α)(n sz:Nat)(h:l.length=sz):(l++r).take ((n+1)*sz)=l++r.take (n*sz):=by
 have e:(n+1)*sz=l.length+n*sz:=by rw[h,Nat.succ_mul,Nat.add_comm]
 rw[e,List.take_length_add_append]
theorem I8{w:World}{Z:aZ}{sz:Nat}:∀(i:Nat) {xs:List ah} {us:List Value} {p:ah},di w Z sz xs us->xs[i]? =some p->
  ∃u,aS w Z p u/\u.cells.size=sz/\u.cells.toList=(us.drop (i*sz)).take sz
 |i,[],_,p,_,a=>by simp at a
 |0,x::xs,us,p,h,a=>by
  simp only[di]at h;obtain⟨u,b,rfl,⟨J,U,d⟩,_⟩:=h;simp at a;subst a;refine⟨u,J,U,?_⟩;have:u.cells.toList.length=sz:=by simpa using U
  simp[<-this]
 |i+1,x::xs,us,p,h,a=>by
  simp only[di]at h;obtain⟨u,b,rfl,⟨_,U,_⟩,c⟩:=h;obtain⟨v,g1,g2,g3⟩:=I8 i c (by simpa using a);refine⟨v,g1,g2,?_⟩;have:u.cells.toList.length=sz:=by simpa using U
  rw[g3,TB _ _ _ _ this]
theorem r9{w:World}{Z:aZ}{sz:Nat}:∀{xs:List ah} {us:List Value},di w Z sz xs us->us.length=xs.length*sz
 |[],us,h=>by simp only[di]at h;subst h;simp
 |x::xs,us,h=>by
  simp only[di]at h;obtain⟨u,b,rfl,⟨_,U,_⟩,a⟩:=h;have:u.cells.toList.length=sz:=by simpa using U
  rw[hq,this,r9 a,jc,Nat.succ_mul];omega
theorem zT{w:World}{Z:aZ}{sz:Nat}:∀{xs:List ah} {us:List Value},di w Z sz xs us->∀c∈us,c.oneCell'=true
 |[],us,h=>by simp only[di]at h;subst h;simp
 |x::xs,us,h=>by
  simp only[di]at h;obtain⟨u,d,rfl,⟨_,_,b⟩,a⟩:=h;intro c ax;rcases kr.1 ax with ax|ax
  ·exact b c ax
  ·exact zT a c ax
theorem Cp{w:World}{Z:aZ}{sz:Nat}:∀{a b7:List ah} {ba us:List Value},di w Z sz a ba->di w Z sz b7 us->di w Z sz (a++b7) (ba++us)
 |[],b7,ba,us,h,b=>by simp only[di]at h;subst h;simpa using b
 |p::a,b7,ba,us,h,b=>by simp only[di]at h;obtain⟨u,c,rfl,J,U⟩:=h;simp only[bX,di];exact⟨u,c++us,Ψ,J,Cp U b⟩
theorem Zp{w:World}{Z:aZ}{sz:Nat}:∀(n:Nat) {xs:List ah} {us:List Value},di w Z sz xs us->di w Z sz (xs.drop n) (us.drop (n*sz))
 |0,_,_,h=>by simpa using h
 |n+1,[],us,h=>by simp only[di]at h;subst h;simp[di]
 |n+1,x::xs,us,h=>by
  simp only[di]at h;obtain⟨u,b,rfl,⟨_,U,_⟩,a⟩:=h;have:u.cells.toList.length=sz:=by simpa using U
  rw[TB _ _ _ _ this];simpa using Zp n a
theorem Zs{w:World}{Z:aZ}{sz:Nat}:∀(n:Nat) {xs:List ah} {us:List Value},di w Z sz xs us->di w Z sz (xs.take n) (us.take (n*sz))
 |0,_,_,_=>by simp[di]
 |n+1,[],us,h=>by simp only[di]at h;subst h;simp[di]
 |n+1,x::xs,us,h=>by
  simp only[di]at h;obtain⟨u,a,rfl,⟨J,U,c⟩,b⟩:=h;have:u.cells.toList.length=sz:=by simpa using U
  simp only[List.take_succ_cons,di];refine⟨u,a.take (n*sz),?_,⟨J,U,c⟩,Zs n b⟩;rw[aaa _ _ _ _ this]
def isAgg(sz:Nat)(p:ah):Prop:= ∃cs,p= .agg cs/\cs.length=sz
def zZ(agg:Bool)(sz b n i f:Nat):aW ec->aW (Prop×ah)
 |some ⟨n',_,a,some xs⟩=>if n'=n/\a=b then
   (match xs[i]? with
    |some p=>if agg then some (e5 p=true/\f+sz<=(cells p).length,.agg (((cells p).drop f).take sz))else((cells p)[f]?).map fun q=>(e5 p=true,q)
    |none=>none)else none
 |_=>none
def nC(b:List (aB×List ah))(e:List (aB×ec))(agg:Bool)(sz:Nat):ah->aW (Prop×ah)
 | .rptr a k n i f=>zZ agg sz a n i f (look k e)
 | .ptr k off=>
  match look k b with
  |some cs=>if agg then some (ik cs=true/\off+sz<=cs.length,.agg ((cs.drop off).take sz))else(cs[off]?).map fun p=>(ik cs=true,p)
  |none=>none
 | .eptr p=>if agg then some (isAgg sz p,p)else some (e5 p=true/\cells p=[p],p)
 |_=>none
def DC(agg:Bool)(sz:Nat):ah->aW (Prop×ah)
 | .eptr p=>if agg then some (isAgg sz p,p)else some (e5 p=true/\cells p=[p],p)
 |_=>none
theorem agQ{b:List (aB×List ah)}{e:List (aB×ec)}{agg:Bool}{sz:Nat}{p:ah}{r:Prop×ah}(h:DC agg sz p=some r):nC b e agg sz p=some r:=by
 cases p<;>simp only[DC]at h<;>first|cases h;done|skip
 simpa only[nC]using h
theorem akq{b:List (aB×List ah)}{e:List (aB×ec)}{agg:Bool}{sz:Nat}{p:ah}{r:Prop×ah}(h:nC b [] agg sz p=some r):nC b e agg sz p=some r:=by cases p<;>simp only[nC]at h⊢ <;>first|exact h|(simp[look,zZ]at h)
def sG(off:Nat)(agg:Bool)(sz:Nat):ah->aW (Prop×ah)
 | .ptr k o=>some (True,.ptr k (o+off))
 | .rptr a k n i f=>some (True,.rptr a k n i (f+off))
 | .eptr (.agg cs)=>if agg then some (off+sz<=cs.length,.eptr (.agg ((cs.drop off).take sz)))else(cs[off]?).map fun p=>(e5 p=true/\cells p=[p],.eptr p)
 |_=>none
def vu(off:Nat)(agg:Bool)(sz:Nat):ah->aW (Prop×ah)
 | .agg cs=>if agg then some (off+sz<=cs.length,.agg ((cs.drop off).take sz))else(cs[off]?).map fun p=>(True,p)
 |_=>none
def BE(sz:Nat):ah->ah->aW (Prop×ah)
 | .slice a _ xs,.int _ i=>if a=sz then some (0<=i/\i<xs.length,.eptr (xs.getD i.toNat .junk))else none
 | .row a k n,.int _ i=>if a=sz then some (0<=i/\i<n,.rptr a k n i.toNat 0)else none
 |_,_=>none
def Jo:ah->ah->aW (Prop×ah)
 | .str s,.int _ i=>some (0<=i/\i<s.length,.int .u8 (s.getD i.toNat 0).toNat)
 |_,_=>none
def r6(a:Int):aW ah->aW Int
 |none=>some a
 |some (.int _ i)=>some i
 |_=>none
def Jt(x:ah)(lo hi:aW ah):aW (Prop×ah):=
 match x with
 | .str s=>match r6 0 lo,r6 s.length hi with
  |some l,some h=>some (0<=l/\l<=h/\h<=s.length,.str ((s.take h.toNat).drop l.toNat))
  |_,_=>none
 |_=>none
def Ii(sz:Nat)(x:ah)(lo hi:aW ah):aW (Prop×ah):=
 match x with
 | .slice a _ xs=>if a=sz then match r6 0 lo,r6 xs.length hi with
  |some l,some h=>some (0<=l/\l<=h/\h<=xs.length,.slice sz .no ((xs.take h.toNat).drop l.toNat))
  |_,_=>none else none
 |_=>none
def e3(n:Int):Prop:= -9223372036854775808<=n/\n<=9223372036854775807
def HT(op:BinOp)(wr:Bool)(k:IntKind)(a b:Int):aW (Prop×ah):=
 match op with
 | .add=>if wr then some (True,.int k (k.wrap (a+b)))else some (k= .i64/\e3 (a+b),.int .i64 (a+b))
 | .sub=>if wr then some (True,.int k (k.wrap (a-b)))else some (k= .i64/\e3 (a-b),.int .i64 (a-b))
 | .mul=>if wr then some (True,.int k (k.wrap (a*b)))else some (k= .i64/\e3 (a*b),.int .i64 (a*b))
 | .quo=>some (b≠0,.int k (k.wrap (a.tdiv b)))
 | .rem=>some (b≠0,.int k (a.tmod b))
 | .eql=>some (True,.bool (a==b))
 | .neq=>some (True,.bool (a !=b))
 | .lss=>some (True,.bool (decide (a<b)))
 | .leq=>some (True,.bool (decide (a<=b)))
 | .gtr=>some (True,.bool (decide (b<a)))
 | .geq=>some (True,.bool (decide (b<=a)))
 | .and=>some (True,.int k (k.wrap (rv k.bits a&&& rv k.bits b).toNat))
 | .or=>some (True,.int k (k.wrap (rv k.bits a|||rv k.bits b).toNat))
 | .xor=>some (True,.int k (k.wrap (rv k.bits a ^^^ rv k.bits b).toNat))
 |_=>none
def Jv(op:BinOp)(a b:List bV):aW (Prop×ah):=
 match op with
 | .add=>some (a.length+b.length<=lim,.str (a++b))
 | .eql=>some (True,.bool (a==b))
 | .neq=>some (True,.bool (!(a==b)))
 | .lss=>some (True,.bool (hX a b))
 | .leq=>some (True,.bool (hX a b||a==b))
 | .gtr=>some (True,.bool (!(hX a b||a==b)))
 | .geq=>some (True,.bool (!hX a b))
 |_=>none
def C9(op:BinOp)(wr:Bool):ah->ah->aW (Prop×ah)
 | .int k a,.int c b=>match op with
  | .shl=>some (0<=b,.int k (k.wrap (a*2 ^ (min b.toNat k.bits))))
  | .shr=>some (0<=b,.int k (a.fdiv (2 ^ (min b.toNat k.bits))))
  |_=>if k=c then HT op wr k a b else none
 | .str a,.str b=>Jv op a b
 |_,_=>none
def o6(cs:List ah)(off:Nat)(a:List ah):List ah:=cs.take off++a++cs.drop (off+a.length)
def vm(t:List (Nat×ah)):List ah->List (Nat×Nat×ds)->aW (Prop×List ah)
 |cs,[]=>some (True,cs)
 |cs,(off,sz,x)::r=>
  let p:=cc t x
  match vm t (o6 cs off (cells p)) r with
  |some (c,cs')=>some ((e5 p=true/\(cells p).length=sz/\off+sz<=cs.length)/\c,cs')
  |none=>none
def IJ(c x y:ah):aW (Prop×ah):=
 match c with
 | .bool b=>match x,y with
  | .bool u,.bool v=>some (True,.bool (cond b u v))
  |p,q=>match b with
   |true=>some (True,p)
   |false=>some (True,q)
 |_=>none
def Ix:ah->aW (Prop×ah)
 | .bool b=>some (True,.bool (!b))
 |_=>none
def Is:ah->aW (Prop×ah)
 | .int k n=>some (True,.int k (k.wrap (0-n)))
 |_=>none
def AT(i:Nat):ah->aW (Prop×ah)
 | .tuple ba=>(ba[i]?).map fun p=>(True,p)
 |_=>none
def BQ:ah->aW (Prop×ah)
 | .slice _ _ xs=>some (True,.int .i64 xs.length)
 | .row _ _ n=>some (True,.int .i64 n)
 | .cst (.slice _ n _)=>some (True,.int .i64 n)
 |_=>none
def FF:ah->aW (Prop×ah)
 | .str s=>some (True,.int .i64 s.length)
 | .cst (.string s)=>some (True,.int .i64 s.size)
 |_=>none
def GM(k:IntKind):ah->aW (Prop×ah)
 | .int _ n=>some (True,.int k (k.wrap n))
 |_=>none
def qf:List ah->aW (List bV)
 |[]=>some []
 | .int .u8 n::r=>(qf r).map (sw n.toNat:: ·)
 |_=>none
def Gm:ah->aW (Prop×ah)
 | .slice _ _ xs=>(qf xs).map fun s=>(True,.str s)
 |_=>none
def HW(neg:Bool):ah->aW (Prop×ah)
 | .iface _ _=>some (True,.bool neg)
 | .cst .nilIface=>some (True,.bool (!neg))
 |_=>none
def B1:ah->aW (Prop×ah)
 | .ptr k o=>some (True,.ptr k o)
 | .eptr p=>some (True,.eptr p)
 | .func f cs=>some (True,.func f cs)
 |_=>none
def Ir:ah->ah->aW (Prop×ah)
 | .int k a,.int c b=>if k=c then some (True,.int k (if b<a then b else a))else none
 |_,_=>none
def kR:List Bool->List ah->List ah->aW Bool
 |[],[],[]=>some true
 |false::r,.int k a::asQ,.int d b::c=>if k=d then(kR r asQ c).map fun q=>(a==b)&&q else none
 |true::r,.str a::asQ,.str b::c=>(kR r asQ c).map fun q=>(a==b)&&q
 |_,_,_=>none
inductive j8 where
 |i
 |s
 |a (dX:List Bool)
 deriving DecidableEq
def uB:j8->ah->ah->aW Bool
 | .i,.int k a,.int e b=>if k=e then some (a==b)else none
 | .s,.str a,.str b=>some (a==b)
 | .a d,.agg asQ,.agg c=>kR d asQ c
 |_,_,_=>none
def xH:j8->ah->Bool
 | .a a,.agg asQ=>(kR a asQ asQ).isSome
 | .a _,_=>false
 |_,_=>true
@[simp]theorem WI(k:ah):xH .i k=true:=by cases k<;>rfl
def xO(a:j8)(k:ah):List ah->aW (aW ah)
 |b::v::r=>match uB a k b with
  |some true=>some (some v)
  |some false=>xO a k r
  |none=>none
 |_=>some none
def o2(b:aB->aW (List ah))(a:j8)(zero:ah)(ok:Bool)(x k:ah):aW (Prop×ah):=
 match x with
 | .gmap key=>match b key with
  |some (.hdm _ _::kvs)=>if xH a k=false then none else match xO a k kvs with
   |some (some v)=>some (True,if ok then .tuple [v,.bool true]else v)
   |some none=>some (True,if ok then .tuple [zero,.bool false]else zero)
   |none=>none
  |_=>none
 |_=>none
def B0(b:aB->aW (List ah))(x:ah):aW (Prop×ah):=
 match x with
 | .gmap key=>match b key with
  |some (.hdm _ borns::_)=>some (True,.int .i64 borns.length)
  |_=>none
 |_=>none
def je(neg:Bool):aW (List Bool)->ah->ah->aW (Prop×ah)
 |none,.bool a,.bool b=>some (True,.bool (if neg then a !=b else a==b))
 |some d,.agg asQ,.agg c=>(kR d asQ c).map fun q=>(True,.bool (if neg then !q else q))
 |_,_,_=>none
def Il:ah->ah->aW (Prop×ah)
 | .int k a,.int c b=>if k=c then some (True,.int k (if a<b then b else a))else none
 |_,_=>none
def wb(a:j8)(k v:ah):List ah->aW (aW (List ah))
 |b::v'::r=>match uB a k b with
  |some true=>some (some (k::v::r))
  |some false=>match wb a k v r with
   |some (some c)=>some (some (b::v'::c))
   |some none=>some none
   |none=>none
  |none=>none
 |_=>some none
def nD(n:Nat):List Nat->List ah->aW ah
 |b::a,k::v::r=>if b=n then some (.tuple [k,v])else nD n a r
 |_,_=>none
def qz(b:aB->aW (List ah))(x:ah):aW (Prop×ah):=
 match x with
 | .ptr fS 0=>match b fS with
  |some [.hdi _ seen last,.gmap mk]=>match b mk with
   |some (.hdm clock borns::kvs)=>match seen.getLast? with
    |some n=>(nD n borns kvs).map fun p=>(clock=last,p)
    |none=>none
   |_=>none
  |_=>none
 |_=>none
theorem Xy{f g:aB->aW (List ah)}(h:∀k,f k≠none->g k=f k){b:j8}{zero:ah}{ok:Bool}{x k:ah}{r:Prop×ah}(he:o2 f b zero ok x k=some r):o2 g b zero ok x k=some r:=by
 unfold o2 at he⊢;split at he
 ·rename_i key;cases a:f key with
  |none=>simp[a]at he
  |some cs=>rw[h key (by rw[a];simp),a];rw[a]at he;exact he
 ·cases he
theorem akY{f g:aB->aW (List ah)}(h:∀k,f k≠none->g k=f k){x:ah}{r:Prop×ah}(he:B0 f x=some r):B0 g x=some r:=by
 unfold B0 at he⊢;split at he
 ·rename_i key;cases a:f key with
  |none=>simp[a]at he
  |some cs=>rw[h key (by rw[a];simp),a];rw[a]at he;exact he
 ·cases he
theorem akD{f g:aB->aW (List ah)}(h:∀k,f k≠none->g k=f k){x:ah}{r:Prop×ah}(he:qz f x=some r):qz g x=some r:=by
 unfold qz at he⊢;split at he
 ·rename_i fS;cases b:f fS with
  |none=>simp[b]at he
  |some cs=>
   simp only[h fS (by rw[b];simp),b]at he⊢;split at he
   ·rename_i since seen last mk d;cases a:f mk with
    |none=>simp[a]at he
    |some c=>simp only[h mk (by rw[a];simp),a]at he⊢;exact he
   ·cases he
 ·cases he
inductive gq where
 |mov (x:ds)
 |pick (c x y:ds)
 |load (agg:Bool) (sz:Nat) (x:ds)
 |faddr (off:Nat) (agg:Bool) (sz:Nat) (x:ds)
 |fld (off:Nat) (agg:Bool) (sz:Nat) (x:ds)
 |iaddr (sz:Nat) (x i:ds)
 |sidx (x i:ds)
 |ssl (x:ds) (lo hi:aW ds)
 |lsl (sz:Nat) (x:ds) (lo hi:aW ds)
 |bin (op:BinOp) (wr:Bool) (x y:ds)
 |notB (x:ds)
 |neg (x:ds)
 |conv (k:IntKind) (x:ds)
 |ext (i:Nat) (x:ds)
 |len (x:ds)
 |slen (x:ds)
 |build (zero:List ah) (parts:List (Nat×Nat×ds))
 |nck (x:ds)
 |min2 (x y:ds)
 |mkf (n:Nat) (xs:List ds)
 |mget (ck:j8) (zero:ah) (ok:Bool) (x k:ds)
 |ment (x:ds)
 |mlen (x:ds)
 |beq (neg:Bool) (dX:aW (List Bool)) (x y:ds)
 |max2 (x y:ds)
 |mkif (t:Nat) (x:ds)
 |loadB (agg:Bool) (sz:Nat) (x:ds)
 |mgetB (ck:j8) (zero:ah) (ok:Bool) (x k:ds)
 |loadZ (agg:Bool) (sz:Nat) (x:ds)
 |b2s (x:ds)
 |isn (neg:Bool) (x:ds)
def hh(st:bh):gq->aW (Prop×ah)
 | .mov x=>some (True,cc st.t x)
 | .pick c x y=>IJ (cc st.t c) (cc st.t x) (cc st.t y)
 | .load agg sz x=>nC st.b st.e agg sz (cc st.t x)
 | .faddr off agg sz x=>sG off agg sz (cc st.t x)
 | .fld off agg sz x=>vu off agg sz (cc st.t x)
 | .iaddr sz x i=>BE sz (cc st.t x) (cc st.t i)
 | .sidx x i=>Jo (cc st.t x) (cc st.t i)
 | .ssl x lo hi=>Jt (cc st.t x) (lo.map (cc st.t)) (hi.map (cc st.t))
 | .lsl sz x lo hi=>Ii sz (cc st.t x) (lo.map (cc st.t)) (hi.map (cc st.t))
 | .bin op wr x y=>C9 op wr (cc st.t x) (cc st.t y)
 | .notB x=>Ix (cc st.t x)
 | .neg x=>Is (cc st.t x)
 | .conv k x=>GM k (cc st.t x)
 | .ext i x=>AT i (cc st.t x)
 | .len x=>BQ (cc st.t x)
 | .slen x=>FF (cc st.t x)
 | .build zero parts=>(vm st.t zero parts).map fun(c,cs)=>(c,.agg cs)
 | .nck x=>B1 (cc st.t x)
 | .min2 x y=>Ir (cc st.t x) (cc st.t y)
 | .mkf n xs=>some (True,.func n (xs.map (cc st.t)))
 | .mget a zero ok x k=>o2 (fun k=>look k st.b) a zero ok (cc st.t x) (cc st.t k)
 | .ment x=>qz (fun k=>look k st.b) (cc st.t x)
 | .mlen x=>B0 (fun k=>look k st.b) (cc st.t x)
 | .beq neg b x y=>je neg b (cc st.t x) (cc st.t y)
 | .max2 x y=>Il (cc st.t x) (cc st.t y)
 | .mkif t x=>some (True,.iface t (cc st.t x))
 | .loadB agg sz x=>nC st.b [] agg sz (cc st.t x)
 | .mgetB a zero ok x k=>o2 (fun k=>look k st.b) a zero ok (cc st.t x) (cc st.t k)
 | .loadZ agg sz x=>DC agg sz (cc st.t x)
 | .b2s x=>Gm (cc st.t x)
 | .isn neg x=>HW neg (cc st.t x)
def Cc(bu:List (Nat×dE))(a:List (Nat×Nat)):List (Nat×Nat×ds)->List (Nat×jb)->Bool
 |[],[]=>true
 |(off,sz,x)::r,(i,o)::s=>(match a[i]? with|some (b,t)=>off==b&&((ea bu t).map (·.size))==some sz|none=>false)&&ep x o&&Cc bu a r s
 |_,_=>false
def F6:ah->ah->Bool
 | .int k n,.int c n'=>decide (k=c/\n=n')
 | .bool b,.bool cb=>b==cb
 | .str [],.str []=>true
 | .slice a .nil [],.slice b .nil []=>a==b
 | .nilp,.nilp=>true
 | .junk,.junk=>true
 |_,_=>false
def CO:List ah->List ah->Bool
 |[],[]=>true
 |c::cs,d::a=>F6 c d&&CO cs a
 |_,_=>false
def CQ:ah->ah->Bool
 | .agg cs,.agg a=>CO cs a
 | .agg _,_=>false
 |p,q=>F6 p q
def wg:List ds->List jb->Bool
 |[],[]=>true
 |x::xs,o::os=>ep x o&&wg xs os
 |_,_=>false
def A4(bu:List (Nat×dE)):Nat->List Bool->List (Nat×Nat)->Bool
 |_,[],[]=>true
 |n,b::r,(off,t)::a=>off==n&&(match ea bu t with|some ⟨_,_,.int _,_⟩=> !b|some ⟨_,_,.str,_⟩=>b|_=>false)&&A4 bu (n+1) r a
 |_,_,_=>false
def G6(bu:List (Nat×dE))(a:List Bool)(t:Nat):Bool:=match ea bu t with
 |some ⟨_,_,.struct gs,_⟩=>A4 bu 0 a gs
 |_=>false
def zx(bu:List (Nat×dE))(b:j8)(t:Nat):Bool:=match b with
 | .i=>(match ea bu t with|some ⟨_,_,.int _,_⟩=>true|_=>false)
 | .s=>(match ea bu t with|some ⟨_,_,.str,_⟩=>true|_=>false)
 | .a a=>G6 bu a t
def P5:ah->ah->Bool
 | .slice a .no [],.slice b .nil []=>a==b
 |c,d=>F6 c d
def Ao:List ah->List ah->Bool
 |[],[]=>true
 |c::cs,d::a=>P5 c d&&Ao cs a
 |_,_=>false
def Qa:List ah->ah->Bool
 |cs,.agg a=>Ao cs a
 |_,_=>false
def xV:aW ds->aW jb->Bool
 |none,none=>true
 |some x,some o=>ep x o
 |_,_=>false
def FT(bu:List (Nat×dE)):gq->Op->Bool
 | .mov x,.move o=>ep x o
 | .mov x,.assign o=>ep x o
 | .pick c x y,.pick A F r=>ep c A&&ep x F&&ep y r
 | .load agg sz x,.load t o=>(match ea bu t with|some f=>f.size==sz&&f.kind.isAgg==agg|none=>false)&&ep x o
 | .faddr off agg sz x,.fieldAddr s o i=>
  (match ea bu s with
   |some ⟨_,_,.struct a,_⟩=>(match a[i]? with|some (b,t)=>off==b&&(match ea bu t with|some f=>f.size==sz&&f.kind.isAgg==agg&&sz !=0|none=>false)|none=>false)
   |_=>false)&&ep x o
 | .fld off agg sz x,.field s o i=>
  (match ea bu s with
   |some ⟨_,_,.struct a,_⟩=>(match a[i]? with|some (b,t)=>off==b&&(match ea bu t with|some f=>f.size==sz&&f.kind.isAgg==agg|none=>false)|none=>false)
   |_=>false)&&ep x o
 | .iaddr sz x i,.indexAddr t o j=>(match ea bu t with|some ⟨_,_,.slice e,_⟩=>(match ea bu e with|some f=>f.size==sz|none=>false)|_=>false)&&ep x o&&ep i j
 | .sidx x i,.index t o j=>(match ea bu t with|some ⟨_,_,.str,_⟩=>true|_=>false)&&ep x o&&ep i j
 | .ssl x lo hi,.slice t o l h none=>(match ea bu t with|some ⟨_,_,.str,_⟩=>true|_=>false)&&ep x o&&xV lo l&&xV hi h
 | .lsl sz x lo hi,.slice t o l h none=>(match ea bu t with|some ⟨_,_,.slice e,_⟩=>(match ea bu e with|some f=>f.size==sz|none=>false)|_=>false)&&ep x o&&xV lo l&&xV hi h
 | .bin op _ x y,.binOp E _ o o' _=>decide (op=E)&&ep x o&&ep y o'
 | .notB x,.unOp op _ o=>decide (op= .not)&&ep x o
 | .neg x,.unOp op _ o=>decide (op= .neg)&&ep x o
 | .conv k x,.convert s d o=>(match ea bu s,ea bu d with|some ⟨_,_,.int _,_⟩,some ⟨_,_,.int D,_⟩=>decide (k=D)|_,_=>false)&&ep x o
 | .ext i x,.extract o j=>i==j&&ep x o
 | .len x,.call ⟨.builtin .len,⟨[o]⟩,⟨[t]⟩⟩=>(match ea bu t with|some ⟨_,_,.slice _,_⟩=>true|_=>false)&&ep x o
 | .slen x,.call ⟨.builtin .len,⟨[o]⟩,⟨[t]⟩⟩=>(match ea bu t with|some ⟨_,_,.str,_⟩=>true|_=>false)&&ep x o
 | .build zero parts,.build t B=>(match ea bu t with|some ⟨_,_,.struct a,z⟩=>Qa zero z&&(a.all fun x=>(ea bu x.2).isSome)&&Cc bu a parts B.toList|_=>false)
 | .nck x,.nilCheck o=>ep x o
 | .min2 x y,.call ⟨.builtin .min,⟨[o,o']⟩,⟨[_,_]⟩⟩=>ep x o&&ep y o'
 | .mkf n xs,.makeFunc (.func m) ⟨[]⟩ os=>decide (n=m/\n<1000000)&&wg xs os.toList
 | .mkf n xs,.makeFunc (.func m) v ⟨[]⟩=>decide (n=m+1000000)&&wg xs v.toList
 | .mget q zero ok x k,.lookup t o o' u=>ok==u&&(match ea bu t with|some ⟨_,_,.map p g,_⟩=>zx bu q p&&(match ea bu g with|some f=>CQ zero f.zero|none=>false)|_=>false)&&ep x o&&ep k o'
 | .ment x,.entry o=>ep x o
 | .mlen x,.call ⟨.builtin .len,⟨[o]⟩,⟨[t]⟩⟩=>(match ea bu t with|some ⟨_,_,.map _ _,_⟩=>true|_=>false)&&ep x o
 | .beq neg a x y,.binOp op t o o' _=>decide (op=if neg then .neq else .eql)&&(match a with|none=>(match ea bu t with|some ⟨_,_,.bool,_⟩=>true|_=>false)|some a=>G6 bu a t)&&ep x o&&ep y o'
 | .max2 x y,.call ⟨.builtin .max,⟨[o,o']⟩,⟨[_,_]⟩⟩=>ep x o&&ep y o'
 | .mkif t x,.makeInterface w o=>t==w&&(match ea bu t with|some ⟨_,_,.slice _,_⟩=>true|_=>false)&&ep x o
 | .loadB agg sz x,.load t o=>(match ea bu t with|some f=>f.size==sz&&f.kind.isAgg==agg|none=>false)&&ep x o
 | .b2s x,.convert s d o=>(match ea bu s,ea bu d with|some ⟨_,_,.slice e,_⟩,some ⟨_,_,.str,_⟩=>(match ea bu e with|some ⟨_,_,.int .u8,_⟩=>true|_=>false)|_,_=>false)&&ep x o
 | .isn neg x,.binOp op t o (.const .nilIface) _=>decide (op=if neg then .neq else .eql)&&(match ea bu t with|some ⟨_,_,.iface,_⟩=>true|_=>false)&&ep x o
 | .loadZ agg sz x,.load t o=>(match ea bu t with|some f=>f.size==sz&&f.kind.isAgg==agg|none=>false)&&ep x o
 | .mgetB q zero ok x k,.lookup t o o' u=>ok==u&&(match ea bu t with|some ⟨_,_,.map p g,_⟩=>zx bu q p&&(match ea bu g with|some f=>CQ zero f.zero|none=>false)|_=>false)&&ep x o&&ep k o'
 |_,_=>false
end
section
open Go Go.RowKit
theorem K7(P:cz)(w:World)(op:BinOp)(t:fF)(x y:jb)(k a:IntKind)(m n:Int):(eqGuard op t x y (.int k m) (.int a n)).run P w= .ok () w:=by cases op<;>rfl
theorem adw(P:cz)(w:World)(op:BinOp)(t:fF)(x y:jb)(m n:lG):(eqGuard op t x y (.string m) (.string n)).run P w= .ok () w:=by cases op<;>rfl
theorem apY(l:List bV):(⟨l.toArray⟩:lG).toList=l:=Ψ
theorem abT(a b:List bV):(⟨a.toArray⟩:lG)++(⟨b.toArray⟩:lG)=⟨(a++b).toArray⟩:=by apply arN;simp
theorem aew(a:List bV)(l h:Nat):(⟨a.toArray⟩:lG).extract l h=⟨((a.take h).drop l).toArray⟩:=by apply arN;simp[List.drop_take]
theorem FE(a:List bV):(⟨a.toArray⟩:lG).size=a.length:=by simp[abe]
section
variable {P:cz} {w:World} {r:Sem Value}
theorem sJ{k:IntKind}{x:Int}(h:r.run P w= .ok (.int k x) w):∃v,r.run P w= .ok v w/\∀Z,aS w Z (.int k x) v:=⟨_,h,fun Z=>by simp[aS]⟩
theorem UK{x:Bool}(h:r.run P w= .ok (.bool x) w):∃v,r.run P w= .ok v w/\∀Z,aS w Z (.bool x) v:=⟨_,h,fun Z=>by simp[aS]⟩
end
theorem ajz(P:cz)(w:World){op:BinOp}{wr:Bool}{k:IntKind}{a b:Int}{c:Prop}{p:ah}(he:HT op wr k a b=some (c,p))(ax:c)(t:fF):
  ∃v,(binOp op t (.int k a) (.int k b)).run P w= .ok v w/\∀Z,aS w Z p v:=by
 cases op<;>simp only[HT]at he;case add=>
  cases wr<;>simp only[if_true,hz,if_false]at he<;>cases he
  ·obtain⟨rfl,h⟩:=ax;exact sJ (by simp[binOp,Op.intArith,lT _ h])
  ·exact sJ (by simp[binOp,Op.intArith])
 case sub=>
  cases wr<;>simp only[if_true,hz,if_false]at he<;>cases he
  ·obtain⟨rfl,h⟩:=ax;exact sJ (by simp[binOp,Op.intArith,lT _ h])
  ·exact sJ (by simp[binOp,Op.intArith])
 case mul=>
  cases wr<;>simp only[if_true,hz,if_false]at he<;>cases he
  ·obtain⟨rfl,h⟩:=ax;exact sJ (by simp[binOp,Op.intArith,lT _ h])
  ·exact sJ (by simp[binOp,Op.intArith])
 case quo=>cases he;exact sJ (by simp[binOp,Op.intDiv,ax])
 case rem=>cases he;exact sJ (by simp[binOp,Op.intDiv,ax])
 case and=>cases he;exact sJ md
 case or=>cases he;exact sJ md
 case xor=>cases he;exact sJ md
 all_goals cases he
 all_goals exact UK (by simp only[binOp,Op.intCmp,ne_eq,not_true_eq_false,if_false,gn,gt_iff_lt,ge_iff_le])
theorem apF(P:cz)(w:World){op:BinOp}{a b:List bV}{c:Prop}{p:ah}(he:Jv op a b=some (c,p))(ax:c)(t:fF):
  ∃v,(binOp op t (.string ⟨a.toArray⟩) (.string ⟨b.toArray⟩)).run P w= .ok v w/\∀Z,aS w Z p v:=by
 cases op<;>simp only[Jv]at he;case add=>
  cases he;refine⟨.string ⟨(a++b).toArray⟩,?_,fun Z=>by simp only[aS];exact⟨trivial,by simpa using ax⟩⟩;have J:¬(((⟨a.toArray⟩:lG).size+(⟨b.toArray⟩:lG).size:Nat):Int)>oz.max:=by
   have:oz.max=9223372036854775807:=by decide
   rw[this,FE,FE];simp only[lim]at ax;omega
  simp only[binOp,Op.stringOp,J,if_false,gn,abT]
 all_goals cases he
 all_goals exact UK (by simp only[binOp,Op.stringOp,apY,gn])
theorem ab7(P:cz)(w:World)(Z:aZ){op:BinOp}{wr:Bool}{x y:ah}{c:Prop}{p:ah}(he:C9 op wr x y=some (c,p))(ax:c)(t:fF){u v:Value}(hu:aS w Z x u)(d:aS w Z y v)(o o':jb):
  ∃r,(do eqGuard op t o o' u v;binOp op t u v).run P w= .ok r w/\aS w Z p r:=by
 unfold C9 at he;split at he
 ·rename_i k a f b;simp only[aS]at hu d;subst hu;subst d;split at he
  ·cases he;refine⟨_,?_,by simp[aS];rfl⟩;simp[binOp,Op.shift,K7,Int.not_lt.2 ax]
  ·cases he;refine⟨_,?_,by simp[aS];rfl⟩;simp[binOp,Op.shift,K7,Int.not_lt.2 ax]
  ·split at he
   ·rename_i e;subst e;obtain⟨r,J,U⟩:=ajz P w he ax t;exact⟨r,by simp[K7,J],U Z⟩
   ·cases he
 ·simp only[aS]at hu d;rw[hu.1,d.1];obtain⟨r,J,U⟩:=apF P w he ax t;exact⟨r,by simp[adw,J],U Z⟩
 ·cases he
theorem Lr{w:World}{Z:aZ}:∀(v:List Value) (i off:Nat) (cs:Array Value),off+i+v.length<=cs.size->
  ((v.zipIdx i).foldl (fun cs (x:Value×Nat)=>cs.setIfInBounds (off+x.2) x.1) cs).toList=cs.toList.take (off+i)++v++cs.toList.drop (off+i+v.length)
 |[],i,off,cs,_=>by simp
 |u::v,i,off,cs,h=>by
  simp only[List.zipIdx_cons,List.foldl_cons];rw[Lr (w:=w) (Z:=Z) v (i+1) off _ (by simp at h⊢;omega)];have a:off+i<cs.toList.length:=by simp at h⊢;omega
  simp only[Array.toList_setIfInBounds];have b:(cs.toList.set (off+i) u).take (off+(i+1))=cs.toList.take (off+i)++[u]:=by rw[show off+(i+1)=(off+i)+1 from by omega,List.take_succ_eq_append_getElem (by simpa using a)];simp[List.take_set_of_le (eR _)]
  have c:(cs.toList.set (off+i) u).drop (off+(i+1)+v.length)=cs.toList.drop (off+i+(u::v).length):=by rw[List.drop_set_of_lt Ω];congr 1;simp;omega
  rw[b,c];simp
theorem ZF{w:World}{Z:aZ}{C:e0}{st:bh}{a:Act}(m:cS C st a w Z){bu:List (Nat×dE)}{k:List (Nat×Nat)}{places:List (Nat×Nat)}
  (l:∀(i off t sz:Nat),k[i]? =some (off,t)->(ea bu t).map (·.size)=some sz->places[i]? =some (off,sz)):
  ∀(parts:List (Nat×Nat×ds)) (d:List (Nat×jb)) (cs:List ah) (us:Array Value) (c:Prop) (cs':List ah),Cc bu k parts d=true->cW w Z cs us.toList->vm st.t cs parts=some (c,cs')->c->
  ∃e:Array Value,Instr.fill (places.toArray[·]?) us (d.map fun(x:Nat×jb)=>(x.1,a.eval x.2))=some e/\cW w Z cs' e.toList
 |[],[],cs,us,c,cs',_,h,he,ax=>by simp only[vm]at he;cases he;exact⟨us,by simp[Instr.fill],h⟩
 |[],_::_,_,_,_,_,b,_,_,_=>by simp[Cc]at b
 |_::_,[],_,_,_,_,b,_,_,_=>by simp[Cc]at b
 |(off,sz,x)::parts,(i,o)::d,cs,us,c,cs',b,h,he,ax=>by
  simp only[Cc,cD]at b;obtain⟨⟨J,U⟩,z⟩:=b;split at J
  ·rename_i E t D;simp only[cD,dS]at J;obtain⟨rfl,J⟩:=J;have r:=l i off t sz D J;simp only[vm]at he;split at he
   ·rename_i u v ae;cases he;obtain⟨⟨A,y,hle⟩,s⟩:=ax;have B:=er m U;have g:=wv B A;have hlen:=qF g;have p:=qF h;have j:(a.eval o).cells.size=sz:=by have:(a.eval o).cells.toList.length=(cells (cc st.t x)).length:=hlen;rw[y]at this;simpa using this
    have f:us.size=cs.length:=by simpa using p
    have n:=Lr (w:=w) (Z:=Z) (a.eval o).cells.toList 0 off us (by simp[j,f];omega);have q:cW w Z (o6 cs off (cells (cc st.t x))) ((((a.eval o).cells.toList.zipIdx 0).foldl (fun cs (x:Value×Nat)=>cs.setIfInBounds (off+x.2) x.1) us).toList):=by rw[n];unfold o6;refine zU (zU (Fw off h) g) ?_;rw[Nat.add_zero,hlen];exact Cr _ h
    obtain⟨e,g1,g2⟩:=ZF m l parts d _ _ u cs' z q ae s;refine⟨e,?_,g2⟩;simp only[fA,Instr.fill,List.getElem?_toArray,r];rw[if_neg (by simp[j,f];omega)];rw[<-g1];simp only[List.getElem?_toArray];congr 1;rw[<-Array.foldl_toList];simp
   ·cases he
  ·cases J
end
section
open Go Go.RowKit
theorem wI{P:cz}{bu:List (Nat×dE)}(aM:e6 P bu=true){t:Nat}{f:dE}(e:ea bu t=some f)(w:World):
  (Go.isAgg t).run P w= .ok f.kind.isAgg w/\(sizeOf t).run P w= .ok f.size w:=by
 obtain⟨i,d,z,J,U,b,k,a,h,j,g⟩:=(uZ aM e).ex;refine⟨?_,by simp[sizeOf,typeInfo,J,b]⟩;simp only[Go.isAgg,fq,run_underlying U,fx];cases c:f.kind<;>rw[c]at a<;>cases d<;>simp[ks]at a<;>simp[C2.isAgg]
theorem ia{P:cz}{bu:List (Nat×dE)}(aM:e6 P bu=true){t:Nat}{f:dE}(b:ea bu t=some f):∃d,P.underlying t=some d/\ks f.kind d=true:=by obtain⟨i,d,z,J,U,h,j,a,e,g,c⟩:=(uZ aM b).ex;exact⟨d,U,a⟩
theorem rP{e:Nat}{d:TypeDesc}(h:ks (.slice e) d=true):d= .slice e:=by cases d<;>simp[ks]at h;subst h;rfl
theorem w5{d:TypeDesc}(h:ks .str d=true):d= .string:=by cases d<;>simp[ks]at h;rfl
theorem Dk{k:IntKind}{d:TypeDesc}(h:ks (.int k) d=true):d= .int k:=by cases d<;>simp[ks]at h;subst h;rfl
theorem KU{a:List (Nat×Nat)}{d:TypeDesc}(h:ks (.struct a) d=true):∃gs:Array Field,d= .struct gs/\gs.toList.map (fun f=>(f.offset,f.type))=a:=by cases d<;>simp[ks]at h;rename_i gs;exact⟨gs,rfl,by simpa using h⟩
theorem Jb{w:World}{Z:aZ}{cs:List ah}{us:List Value}(h:cW w Z cs us)(off sz:Nat):cW w Z ((cs.drop off).take sz) ((us.drop off).take sz):=Fw sz (Cr off h)
theorem Yj{w:World}{base el sz n:Nat}{v:Value}{us:List Value}(h:w.ownsRow base el sz v n us){b:Nat}(ae:v.ownBlock=some b):∃cap,v= .slice (some ⟨b,0,none⟩) n cap:=by
 rcases h.2 with⟨rfl,_⟩|⟨g,cap,cur,rfl,_⟩
 ·simp[oA]at ae
 ·simp[oA]at ae;subst ae;exact⟨cap,rfl⟩
theorem Good.rowElem{pr:Nat->Prop}{w:World}{Z:aZ}{b:List (aB×List ah)}{e:List (aB×ec)}(aY:Good pr w Z b e){k:aB}{n el sz:Nat}{xs:List ah}(A:look k e=some ⟨n,el,sz,some xs⟩){i f:Nat}{u:Value}(m:aS w Z (.rptr sz k n i f) u){p:ah}(t:xs[i]? =some p):
  ∃(v:Value) (us:List Value) (D:Nat),aS w Z p v/\v.cells.size=sz/\∃b o,u= .pointer (some ⟨b,o,none⟩)/\∀j c,v.cells.toList[f+j]? =some c->w.cell? ⟨b,o+j,none⟩=some c:=by
 simp only[aS]at m;obtain⟨_,hi,n',B,J,U,z⟩:=m;obtain⟨v,us,d,l,E,s⟩:=aY.own k _ A;rw[J]at d;simp only[dv,hN]at d;obtain⟨rfl,rfl⟩:=d;obtain⟨bl,ae,rfl⟩:=z rfl;obtain⟨cap,rfl⟩:=Yj l ae;obtain⟨y,g,_⟩:=s xs rfl;simp only at y g;obtain⟨v,r,h,q⟩:=I8 i g t;refine⟨v,us,el,r,h,bl,_,rfl,fun j c a=>?_⟩;have x:f+j<sz:=by have:=(fy.1 a).1;simp[h]at this;exact this
 have hmul:i*sz+sz<=n'*sz:=by have:=tR sz (show i+1<=n' from hi);rwa[Nat.succ_mul]at this
 have ax:=l.cellAt (i*sz+f+j) (by show _<n'*sz;omega);rw[ax];rw[q,List.getElem?_take,if_pos x,List.getElem?_drop]at a;rw[<-a];congr 1;omega
theorem Ih{P:cz}{bu:List (Nat×dE)}(aM:e6 P bu=true){pr:Nat->Prop}{w:World}{Z:aZ}{b:List (aB×List ah)}{e:List (aB×ec)}(aY:Good pr w Z b e){t:Nat}{f:dE}(V:ea bu t=some f)
  {x:ah} {u:Value} (l:aS w Z x u) {c:Prop} {p:ah} (he:nC b e f.kind.isAgg f.size x=some (c,p)) (ax:c):∃v,(Instr.loadAt t u).run P w= .ok v w/\aS w Z p v:=by
 obtain⟨d,F⟩:=wI aM V w;generalize Hj:f.kind.isAgg=h at*;generalize dO:f.size=sz at*;unfold nC at he;split at he
 ·rename_i dJ k n i g;unfold zZ at he;split at he
  ·rename_i n' el Y xs G;split at he
   ·rename_i R;obtain⟨rfl,rfl⟩:=R;split at he
    ·rename_i D E;obtain⟨H,us,e9,g1,g2,a⟩:=Good.rowElem aY G l E;have O:e5 D=true:=by
      cases h
      ·simp only[hz,if_false,gD]at he;obtain⟨q,_,he⟩:=he;cases he;exact ax
      ·simp only[if_true]at he;cases he;exact ax.1
     have A:=wv g1 O;cases h
     ·simp only[hz,if_false,gD]at he;obtain⟨q,r,he⟩:=he;cases he;obtain⟨v,f1,f2,f3⟩:=Fv g A r;refine⟨v,?_,f2⟩;obtain⟨b,o,rfl,a⟩:=a;have:=a 0 v (by simpa using f1);simp only[Nat.add_zero]at this;simp[Instr.loadAt,Instr.sureAddr,loadVar,d,this]
     ·simp only[if_true]at he;cases he;obtain⟨b,o,rfl,a⟩:=a;refine⟨.agg ((H.cells.toList.drop g).take sz).toArray,?_,by simp only[aS];exact⟨_,rfl,by simpa using Jb A g sz⟩⟩;have B:=qF A;have hlen:((H.cells.toList.drop g).take sz).length=sz:=by simp only[List.length_take,sq];omega
      have L:=run_loadCells_list (P:=P) w ⟨b,o,none⟩ ((H.cells.toList.drop g).take sz) (fun j v z=>by
       rw[pt];refine a j v ?_;rw[List.getElem?_take]at z;split at z
       ·simpa[List.getElem?_drop]using z
       ·cases z)
      rw[hlen]at L;simp only[Instr.loadAt,Instr.sureAddr,loadVar,fq,gn,fx,d,if_true,F,L]
    ·cases he
   ·cases he
  ·cases he
 ·rename_i k off;simp only[aS]at l;obtain⟨bl,J,rfl⟩:=l;split at he
  ·rename_i cs G;obtain⟨X,us,el,g1,g2,g3,g4,g5⟩:=aY.box k cs G;rw[J]at g1;cases g1;have K:ik cs=true:=by
    cases h
    ·simp only[hz,if_false,gD]at he;obtain⟨q,r,he⟩:=he;cases he;exact ax
    ·simp only[if_true]at he;cases he;exact ax.1
   rw[rk K]at g4;rw[qC K]at g5;have B:=qF g5;cases h
   ·simp only[hz,if_false,gD]at he;obtain⟨q,r,he⟩:=he;cases he;obtain⟨v,f1,f2,f3⟩:=Fv off g5 r;refine⟨v,?_,f2⟩;have a:w.cell? ⟨bl,off,none⟩=some v:=by simpa[World.cell?,g4]using f1
    simp[Instr.loadAt,Instr.sureAddr,loadVar,d,a]
   ·simp only[if_true]at he;cases he;replace ax:=ax.2;refine⟨_,?_,by simp only[aS];exact⟨_,rfl,by simpa using Jb g5 off sz⟩⟩;simp only[Instr.loadAt,Instr.sureAddr,loadVar,fq,gn,fx,d,if_true,F];rw[aoY g4 (by simp at B;omega)];rfl
  ·cases he
 ·rename_i q;simp only[aS]at l;obtain⟨bl,off,Q,rfl,U,s⟩:=l;cases h
  ·simp only[hz,if_false]at he;cases he;obtain⟨N,m⟩:=ax;obtain⟨g1,g2⟩:=OW U N (fun cs e=>by subst e;have:=eu List.length m;simp only[cells,jc,qM]at this;cases cs with
    |nil=>simp[cells]at m
    |cons y ys=>simp only[cells,rA]at m;obtain⟨S,W⟩:=m;subst W;have:=eu SizeOf.sizeOf S;simp at this;omega)
   refine⟨Q,?_,U⟩;rw[g2]at s;have a:=s.1.2;simp[Instr.loadAt,Instr.sureAddr,loadVar,d,a]
  ·simp only[if_true]at he;cases he;obtain⟨cs,rfl,hlen⟩:=ax;simp only[aS]at U;obtain⟨us,rfl,M⟩:=U;refine⟨.agg us,?_,by simp only[aS];exact⟨us,rfl,M⟩⟩;simp only[nM]at s;have B:=qF M;have:=ZH (P:=P) s;rw[show us.toList.length=sz from by omega]at this;simp[Instr.loadAt,Instr.sureAddr,loadVar,d,F,this]
 ·cases he
theorem agB{P:cz}{bu:List (Nat×dE)}(aM:e6 P bu=true){w:World}{Z:aZ}{s i:Nat}{f:dE}{r:List (Nat×Nat)}(L:ea bu s=some f)(H:f.kind= .struct r){off t:Nat}{g:dE}(hi:r[i]? =some (off,t))(aY:ea bu t=some g)(E:g.size≠0)
  {x:ah} {u:Value} (a:aS w Z x u) {c:Prop} {p:ah} (he:sG off g.kind.isAgg g.size x=some (c,p)) (ax:c):∃v,(Instr.fieldAt s u i).run P w= .ok v w/\aS w Z p v:=by
 obtain⟨d,K,n⟩:=ia aM L;rw[H]at n;obtain⟨gs,rfl,A⟩:=KU n;have z:∃fd:Field,gs[i]? =some fd/\fd.offset=off/\fd.type=t:=by rw[<-A]at hi;simp only[List.getElem?_map,gD]at hi;obtain⟨fd,J,U⟩:=hi;simp only[hN]at U;exact⟨fd,by simpa using J,U.1,U.2⟩
 obtain⟨fd,M,ak,B⟩:=z;obtain⟨N,G⟩:=wI aM aY w;have j:∀b o,(Instr.fieldAt s (.pointer (some ⟨b,o,none⟩)) i).run P w= .ok (.pointer (some ⟨b,o+off,none⟩)) w:=by intro b o;simp[Instr.fieldAt,run_underlying K,M,Instr.sureAddr,fieldPlace,B,G,E,pt,ak]
 unfold sG at he;split at he
 ·cases he;simp only[aS]at a;obtain⟨b,J,rfl⟩:=a;exact⟨_,j _ _,by simp only[aS];exact⟨b,J,rfl⟩⟩
 ·cases he;simp only[aS]at a;obtain⟨⟨b,o,rfl⟩,hi,n',m,J,U,h⟩:=a;refine⟨_,j _ _,?_⟩;simp only[aS];refine⟨⟨b,_,rfl⟩,hi,n',m,J,U,fun e=>?_⟩;obtain⟨cb,F,y⟩:=h e;simp only[awm,dv,Addr.mk.injEq,and_true]at y;obtain⟨rfl,rfl⟩:=y;exact⟨b,F,by rw[Nat.add_assoc]⟩
 ·rename_i cs;simp only[aS]at a;obtain⟨b,o,m,rfl,⟨us,rfl,U⟩,h⟩:=a;refine⟨_,j _ _,?_⟩;simp only[nM]at h;split at he
  ·cases he;simp only[aS];exact⟨b,o+off,.agg ((us.toList.drop off).take g.size).toArray,rfl,⟨_,rfl,by simpa using Jb U off g.size⟩,by simpa[nM]using Ib g.size (H9 off h)⟩
  ·simp only[gD]at he;obtain⟨q,D,he⟩:=he;cases he;obtain⟨v,f1,f2,f3⟩:=Fv off U D;simp only[aS];have l:=vZ h f1;have k:v.cells= #[v]:=by cases v<;>first|rfl|cases f3
   exact⟨b,o+off,v,rfl,f2,by rw[k];exact⟨l,trivial⟩⟩
 ·cases he
theorem agI{P:cz}{bu:List (Nat×dE)}(aM:e6 P bu=true){w:World}{Z:aZ}{s i:Nat}{f:dE}{h:List (Nat×Nat)}(B:ea bu s=some f)(A:f.kind= .struct h){off t:Nat}{g:dE}(hi:h[i]? =some (off,t))(aY:ea bu t=some g)
  {x:ah} {u:Value} (k:aS w Z x u) {c:Prop} {p:ah} (he:vu off g.kind.isAgg g.size x=some (c,p)) (ax:c):∃v,(Instr.field s u i).run P w= .ok v w/\aS w Z p v:=by
 obtain⟨d,l,e⟩:=ia aM B;rw[A]at e;obtain⟨gs,rfl,o⟩:=KU e;have n:∃fd:Field,gs[i]? =some fd/\fd.offset=off/\fd.type=t:=by rw[<-o]at hi;simp only[List.getElem?_map,gD]at hi;obtain⟨fd,J,U⟩:=hi;simp only[hN]at U;exact⟨fd,by simpa using J,U.1,U.2⟩
 obtain⟨fd,m,ak,b⟩:=n;obtain⟨j,z⟩:=wI aM aY w;unfold vu at he;split at he
 ·rename_i cs;simp only[aS]at k;obtain⟨us,rfl,U⟩:=k;generalize D:g.kind.isAgg=r at*;cases r
  ·simp only[hz,if_false,gD]at he;obtain⟨q,y,he⟩:=he;cases he;obtain⟨v,f1,f2,f3⟩:=Fv off U y;have a:us[off]? =some v:=by simpa using f1
   exact⟨v,by simp[Instr.field,run_underlying l,m,asAgg,part,b,j,ak,a],f2⟩
  ·simp only[if_true]at he;cases he;refine⟨.agg (us.extract off (off+g.size)),by simp[Instr.field,run_underlying l,m,asAgg,part,b,j,ak,z],?_⟩;simp only[aS];refine⟨_,rfl,?_⟩;have:=Jb U off g.size;simpa[List.take_drop]using this
 ·cases he
theorem aju{P:cz}{bu:List (Nat×dE)}(aM:e6 P bu=true){w:World}{Z:aZ}{t e:Nat}{f g:dE}(M:ea bu t=some f)(L:f.kind= .slice e)(aY:ea bu e=some g)
  {x y:ah} {u v:Value} (h:aS w Z x u) (j:aS w Z y v) {c:Prop} {p:ah} (he:BE g.size x y=some (c,p)) (ax:c):∃r,(Instr.indexAt t u v).run P w= .ok r w/\aS w Z p r:=by
 obtain⟨d,E,B⟩:=ia aM M;rw[L]at B;obtain rfl:=rP B;obtain⟨Q,D⟩:=wI aM aY w;unfold BE at he;split at he
 ·rename_i H tag xs k i;split at he
  ·rename_i m;cases he;simp only[aS]at h j;subst j;subst m;obtain⟨⟨a,cap,rfl,J,U,q⟩,_⟩:=h;obtain⟨z,l⟩:=ax;have A:i.toNat<xs.length:=Ω
   rcases q with rfl|⟨b,off,us,rfl,s,o⟩
   ·simp at A
   ·have h:xs[i.toNat]? =some xs[i.toNat]:=cl A;obtain⟨w',K,O,F⟩:=I8 i.toNat o h;refine⟨.pointer (some ⟨b,off+i.toNat*g.size,none⟩),?_,?_⟩
    ·simp only[Instr.indexAt,asIntOf,fq,gn,fx,run_underlying E,z,l,and_self,if_true,D,pt]
    ·simp only[aS];refine⟨b,off+i.toNat*g.size,w',rfl,by simpa[List.getD,h]using K,?_⟩;rw[F];exact Ib g.size (H9 _ s)
  ·cases he
 ·rename_i H k n N i;split at he
  ·rename_i m;cases he;simp only[aS]at h j;subst j;subst m;obtain⟨⟨b,cap,rfl⟩,U,n',G,q,s,o⟩:=h;obtain⟨z,l⟩:=ax;refine⟨.pointer (some ⟨b,0+i.toNat*g.size,none⟩),?_,?_⟩
   ·simp only[Instr.indexAt,asIntOf,fq,gn,fx,run_underlying E,z,l,and_self,if_true,D,pt]
   ·simp only[aS];refine⟨⟨b,_,rfl⟩,Ω,n',G,q,s,fun e=>⟨b,?_,Ψ⟩⟩;rw[<-o e];rfl
  ·cases he
 ·cases he
theorem IC{C:e0}{st:bh}{a:Act}{w:World}{Z:aZ}(h:cS C st a w Z){x:aW ds}{o:aW jb}(b:xV x o=true){d n:Int}(he:r6 d (x.map (cc st.t))=some n):
  (o.map a.eval=none/\n=d)\/ ∃k,o.map a.eval=some (.int k n):=by
 cases x with
 |none=>cases o with
  |none=>simp[r6]at he;exact .inl ⟨rfl,he.symm⟩
  |some o=>simp[xV]at b
 |some x=>cases o with
  |none=>simp[xV]at b
  |some o=>
   simp only[xV]at b
   have:=er h b
   simp only[ni]at he⊢
   cases c:cc st.t x<;>simp[c,r6]at he
   rw[c]at this
   simp only[aS]at this
   subst he
   exact .inr ⟨_,by rw[this]⟩
theorem QX:∀{xs:List ah} {s:List bV},qf xs=some s->s.length=xs.length
 |[],s,h=>by simp only[qf]at h;cases h;rfl
 |x::xs,s,h=>by
  cases x<;>try(simp[qf]at h;done)
  rename_i k n;cases k<;>simp only[qf,gD,reduceCtorEq]at h;obtain⟨a,J,rfl⟩:=h;simp[QX J]
def AD(n:Int):bV:=sw n.toNat
theorem QY{w:World}{Z:aZ}{sz:Nat}:∀{xs:List ah} {s:List bV} {us:List Value},qf xs=some s->di w Z sz xs us->∃ns:List Int,us=ns.map (pf .u8)/\s=ns.map AD/\us.length=xs.length
 |[],s,us,h,a=>by simp only[qf]at h;cases h;simp only[di]at a;subst a;exact⟨[],rfl,rfl,rfl⟩
 |x::xs,s,us,h,a=>by
  cases x<;>try(simp[qf]at h;done)
  rename_i k n;cases k<;>simp only[qf,gD,reduceCtorEq]at h;obtain⟨d,J,rfl⟩:=h;simp only[di,aS]at a;obtain⟨u,c,rfl,⟨rfl,_⟩,a⟩:=a;obtain⟨ns,rfl,rfl,b⟩:=QY J a;exact⟨n::ns,by simp[nM],rfl,by simp[nM]at b⊢;exact b⟩
theorem Yr{P:cz}{w:World}{f:Value->lG->Sem (ForInStep lG)}(a:∀n s,f (.int .u8 n) s=pure (.yield (s.push (AD n)))):∀(ns:List Int) (s:lG),(forIn (ns.map (pf .u8)) s f).run P w= .ok ⟨(s.data.toList++ns.map AD).toArray⟩ w
 |[],s=>by simp
 |n::ns,s=>by simp only[fA,List.forIn_cons,fq,a,gn,fx];rw[Yr a ns];simp[awd]
theorem ab3{P:cz}{w:World}{A:Nat->Nat->Prop}{a:aW Addr}{len cap:Nat}{ns:List Int}(g:ns.length=len)(h:len=0\/ ∃b off,a=some ⟨b,off,none⟩/\ly w A b off (ns.map (pf .u8))):
  (Conv.bytesToString (.slice a len cap)).run P w= .ok (.string ⟨(ns.map AD).toArray⟩) w:=by
 have d:∀c,a=some c->(loadCells c len).run P w= .ok (ns.map (pf .u8)).toArray w:=fun c e=>by
  rcases h with h|⟨b,off,f,U⟩
  ·subst h;have:ns=[]:=by cases ns<;>simp_all
   subst this;exact run_loadCells_list w c [] fun j v i=>by simp at i
  ·rw[f]at e;cases e;have:=ZH (P:=P) U;simpa[g]using this
 unfold Conv.bytesToString;cases a with
 |none=>
  have:ns=[]:=by
   rcases h with h|⟨b,off,f,U⟩
   ·subst h;cases ns<;>simp_all
   ·cases f
  subst this;simp;rfl
 |some c=>simp only[fq,d c rfl,fx,Array.forIn_toList,List.forIn_toArray];rw[Yr (fun n s=>rfl) ns awc];simp
theorem P6{c d:ah}(h:F6 c d=true):c=d:=by unfold F6 at h;split at h<;>simp_all
theorem abc:∀{cs a:List ah},CO cs a=true->cs=a
 |[],[],_=>rfl
 |[],_::_,h=>by simp[CO]at h
 |_::_,[],h=>by simp[CO]at h
 |c::cs,d::a,h=>by simp only[CO,cD]at h;rw[P6 h.1,abc h.2]
theorem arK{w:World}{Z:aZ}{c d:ah}{v:Value}(h:P5 c d=true)(a:aS w Z d v):aS w Z c v:=by
 unfold P5 at h;split at h
 ·simp only[dS]at h;subst h;simp only[aS]at a⊢;exact⟨a.1,fun e=>(by cases e),fun _ e=>(by cases e),fun _ _ e=>(by cases e),fun _ e=>(by cases e)⟩
 ·rw[P6 h];exact a
theorem abb{w:World}{Z:aZ}:∀{cs a:List ah} {us:List Value},Ao cs a=true->cW w Z a us->cW w Z cs us
 |[],[],_,_,h=>h
 |[],_::_,_,h,_=>by simp[Ao]at h
 |_::_,[],_,h,_=>by simp[Ao]at h
 |c::cs,d::a,us,h,b=>by simp only[Ao,cD]at h;simp only[cW]at b⊢;obtain⟨u,g,i,⟨j,f⟩,e⟩:=b;exact⟨u,g,i,⟨arK h.1 j,f⟩,abb h.2 e⟩
theorem arL{cs:List ah}{z:ah}(h:Qa cs z=true):∃a,z= .agg a/\Ao cs a=true:=by
 cases z<;>simp only[Qa]at h;case agg a=>exact⟨a,rfl,h⟩
 all_goals cases h
theorem ahE(s:List bV)(n:Nat)(h:n<s.length):(⟨s.toArray⟩:lG)[n]? =some (s.getD n 0):=by
 have a:n<(⟨s.toArray⟩:lG).size:=by rw[FE];exact h
 have e:(⟨s.toArray⟩:lG)[n]? =some ((⟨s.toArray⟩:lG)[n]'a):=getElem?_pos (⟨s.toArray⟩:lG) n a;rw[e];congr 1;simp[List.getD,h];rfl
theorem Jq(P:cz)(w:World)(k:IntKind)(i:Int)(y:Nat)(c:BoundsCode)(a:0<=i)(J:i<=y):(Instr.sliceBound (.int k i) y c).run P w= .ok i.toNat w:=by simp[Instr.sliceBound,asIntOf,a,J]
theorem QQ(P:cz)(w:World)(a:Bool)(len cap:Nat)(lo hi:aW Value)(l h:Int)(c:(lo=none/\l=0)\/ ∃k,lo=some (.int k l))(d:(hi=none/\h=len)\/ ∃k,hi=some (.int k h))
  (e:0<=l) (J:l<=h) (U:h<=len) (ax:len<=cap):(Instr.sliceBounds a len cap lo hi none).run P w= .ok (l.toNat,h.toNat,cap) w:=by
 rcases c with⟨rfl,rfl⟩|⟨k,rfl⟩<;>rcases d with⟨rfl,rfl⟩|⟨b,rfl⟩
 ·simp[Instr.sliceBounds]
 ·simp[Instr.sliceBounds,Jq P w b h cap _ Ω Ω]
 ·simp[Instr.sliceBounds,Jq P w k l len _ Ω Ω]
 ·simp[Instr.sliceBounds,Jq P w b h cap _ Ω Ω,Jq P w k l h.toNat _ Ω Ω]
theorem Yo{P:cz}{bu:List (Nat×dE)}(aM:e6 P bu=true):∀(gs:List Field),(gs.all fun f=>(ea bu f.type).isSome)=true->
  ∃places:List (Nat×Nat),gs.mapM (fun f=>(P.info? f.type).map fun i=>(f.offset,i.size))=some places/\
   ∀(i off t sz:Nat),(gs.map (fun f=>(f.offset,f.type)))[i]? =some (off,t)->(ea bu t).map (·.size)=some sz->places[i]? =some (off,sz)
 |[],_=>⟨[],Ψ,Ψ⟩
 |f::gs,h=>by
  simp only[List.all_cons,cD]at h;obtain⟨places,J,U⟩:=Yo aM gs h.2;obtain⟨g,aY⟩:=gd.1 h.1;obtain⟨i,d,z,e,p,c,o,n,m,k,l⟩:=(uZ aM aY).ex;refine⟨(f.offset,g.size)::places,by simp[List.mapM_cons,e,c,J],fun j off t sz a b=>?_⟩;cases j with
  |zero=>simp only[fA,List.getElem?_cons_zero,dv,hN]at a⊢;obtain⟨rfl,rfl⟩:=a;rw[aY]at b;simpa using b
  |succ j=>simp only[fA,List.getElem?_cons_succ]at a⊢;exact U j off t sz a b
theorem k6{P:cz}{w:World}{x:Sem Value}{v:Value}(h:x.run P w= .ok v w):(do pure (Next.value (<-x)):Sem Next).run P w= .ok (.value v) w:=by simp[h]
theorem P9{p q:ah}(h:CQ p q=true):p=q:=by
 unfold CQ at h;split at h
 ·rw[abc h]
 ·cases h
 ·exact P6 h
theorem P8(w:World)(Z:aZ){p:ah}{v:Value}(h:Ap p v=true):aS w Z p v/\cW w Z (cells p) v.cells.toList:=by
 by_cases b:∃cs,p= .agg cs
 ·obtain⟨cs,rfl⟩:=b;cases v<;>simp only[Ap]at h;case agg us=>have:=P7 w Z _ _ h;exact⟨by simp only[aS];exact⟨us,rfl,this⟩,by simpa[cells,nM]using this⟩
  all_goals cases h
 ·have a:AG p v=true/\v.oneCell'=true:=by cases p<;>simp only[Ap,cD]at h<;>first|exact h|exact absurd ⟨_,rfl⟩ b
  have c:=Kq w Z a.1;refine⟨c,?_⟩;have ax:cells p=[p]:=by cases p<;>first|rfl|exact absurd ⟨_,rfl⟩ b
  have d:v.cells= #[v]:=by have:=a.2;cases v<;>first|rfl|simp[Value.oneCell']at this
  rw[ax,d];simp only[cW];exact⟨v,[],rfl,⟨c,a.2⟩,rfl⟩
theorem PC{P:cz}{bu:List (Nat×dE)}(aM:e6 P bu=true){t:Nat}{f:dE}(e:ea bu t=some f)(w:World):∃z,(zeroValue t).run P w= .ok z w/\Ap f.zero z=true/\z.cells.size=f.size:=by obtain⟨i,d,z,J,U,h,j,g,b,c,a⟩:=(uZ aM e).ex;exact⟨z,by simp[zeroValue,typeInfo,J,b],c,a⟩
theorem zW{C:e0}{st:bh}{a:Act}{w:World}{Z:aZ}(h:cS C st a w Z):∀{xs:List ds} {os:List jb},wg xs os=true->cH w Z (xs.map (cc st.t)) (os.map a.eval)
 |[],[],_=>by simp[cH]
 |[],_::_,b=>by simp[wg]at b
 |_::_,[],b=>by simp[wg]at b
 |x::xs,o::os,b=>by simp only[wg,cD]at b;simp only[fA,cH];exact⟨_,_,rfl,er h b.1,zW h b.2⟩
theorem adx{P:cz}{w:World}{t:fF}(c:P.underlying t=some .bool)(d:Nat)(a b:Bool):(Op.equalIn (d+1) t (.bool a) (.bool b)).run P w= .ok (a==b) w:=by rw[Op.equalIn];simp only[fq,run_underlying c,fx,gn]
theorem ady{P:cz}{w:World}{t:fF}{ms:Array (String×fF)}(a:P.underlying t=some (.interface ms))(d:Nat):(∀u x,(Op.equalIn (d+1) t (.iface u x) .nilIface).run P w= .ok false w)/\(Op.equalIn (d+1) t .nilIface .nilIface).run P w= .ok true w:=by
 constructor
 ·intro u x;simp[Op.equalIn,run_underlying a]
 ·simp[Op.equalIn,run_underlying a]
theorem GX{P:cz}{w:World}{t:fF}{ms:Array (String×fF)}(a:P.underlying t=some (.interface ms)):(∀u x,(Op.equal t (.iface u x) .nilIface).run P w= .ok false w)/\(Op.equal t .nilIface .nilIface).run P w= .ok true w:=ady a 9999
theorem adz{P:cz}{w:World}{t:fF}(c:P.underlying t=some .bool)(a b:Bool):(Op.equal t (.bool a) (.bool b)).run P w= .ok (a==b) w:=adx c _ a b
theorem TG:∀{borns:List Nat} {kvs:List ah} {us:List Value},kvs.length=2*borns.length->us.length=kvs.length->(ga borns us).length=borns.length
 |[],_,us,_,_=>by simp[ga]
 |cb::a,kvs,[],J,U=>by rw[J]at U;simp at U
 |cb::a,kvs,[_],J,U=>by rw[J]at U;simp at U;omega
 |cb::a,kvs,k::v::us,J,U=>by simp only[ga,jc];rw[TG (kvs:=kvs.drop 2) (us:=us) (borns:=a) (by simp at J⊢;omega) (by simp at J U⊢;omega)]
theorem Zy{w:World}{Z:aZ}:∀{a:List ah} {ba:List Value},cH w Z a ba->ba.length=a.length
 |[],ba,h=>by simp only[cH]at h;subst h;rfl
 |p::a,ba,h=>by simp only[cH]at h;obtain⟨u,b,rfl,_,U⟩:=h;simp[Zy U]
theorem wC{P:cz}{w:World}{r:Nat}{o:Obj}(ae:w.heap[r]? =some o)(a:∀c e f,o≠ .cells c e f:=by simp):(getObj r).run P w= .ok o w:=by simp only[getObj,Sem.run,ae]
def rD(P:cz):Nat->List Bool->List Field->Prop
 |_,[],[]=>True
 |n,b::r,f::gs=>(f.offset=n/\f.name≠ "_" /\(if b=true then P.underlying f.type=some .string else∃k,P.underlying f.type=some (.int k)))/\rD P (n+1) r gs
 |_,_,_=>et
theorem Fh{P:cz}{t:fF}{b:Bool}(h:if b=true then P.underlying t=some .string else∃k,P.underlying t=some (.int k)):P.plainKey t=true:=by
 cases b
 ·obtain⟨k,h⟩:=(by simpa using h:∃k,P.underlying t=some (.int k));simp[Program.plainKey,h]
 ·have h:P.underlying t=some .string:=by simpa using h
  simp[Program.plainKey,h]
theorem acv{P:cz}{w:World}{Z:aZ}(d:Nat){X Y:Array Value}(A:List Bool):∀(gs:List Field) (n:Nat) (asQ g:List ah) (us ba:List Value) (q:Bool),rD P n A gs->X.toList.drop n=us->Y.toList.drop n=ba->cW w Z asQ us->cW w Z g ba->kR A asQ g=some q->
  (Op.eqFields (d+1) X Y gs).run P w= .ok q w/\(q=true->us=ba)/\∀m,(us.zip us).all (fun(x,y)=>Instr.sameBits m x y)=true:=by
 induction A with
 |nil=>intro gs n asQ g us ba q aY o s J U h;cases asQ<;>cases g<;>simp only[kR,dv,reduceCtorEq]at h;cases gs<;>simp only[rD]at aY;simp only[cW]at J U;rw[J,U,<-h];exact⟨by simp[Op.eqFields],fun _=>rfl,fun m=>rfl⟩
 |cons z r K=>
  intro gs n asQ g us ba q aY o s J U h;cases gs with
  |nil=>simp only[rD]at aY
  |cons f gs=>
  simp only[rD]at aY;obtain⟨⟨L,H,l⟩,aY⟩:=aY;cases asQ with
  |nil=>cases z<;>cases g<;>simp[kR]at h
  |cons p asQ=>
  cases g with
  |nil=>cases z<;>cases p<;>simp[kR]at h
  |cons t g=>
  cases z with
  |false=>
   have ax:∃k a b c,p= .int k a/\t= .int k b/\kR r asQ g=some c/\q=((a==b)&&c):=by
    cases p<;>first|(simp[kR]at h;done)|skip
    cases t<;>first|(simp[kR]at h;done)|skip
    simp only[kR]at h;split at h
    ·rename_i O;subst O;simp only[gD]at h;obtain⟨c,j,D⟩:=h;exact⟨_,_,_,c,rfl,rfl,j,D.symm⟩
    ·cases h
   obtain⟨k,a,b,c,rfl,rfl,j,rfl⟩:=ax;simp only[cW,aS]at J U;obtain⟨u,B,rfl,⟨rfl,_⟩,J⟩:=J;obtain⟨v,vs',rfl,⟨rfl,_⟩,U⟩:=U;have G:X[n]? =some (.int k a):=by rw[<-tN,<-List.head?_drop,o];rfl
   have E:Y[n]? =some (.int k b):=by rw[<-tN,<-List.head?_drop,s];rfl
   obtain⟨i1,i2,i3⟩:=K gs (n+1) asQ g B vs' c aY (by rw[<-List.tail_drop,o];rfl) (by rw[<-List.tail_drop,s];rfl) J U j;obtain⟨M,F⟩:=(by simpa using l:∃k,P.underlying f.type=some (.int k));refine⟨?_,?_,fun m=>?_⟩
   ·simp only[Op.eqFields,H,ne_eq,not_false_eq_true,if_true,fq,L,run_part_plain w (Fh l) G,run_part_plain w (Fh l) E,fx,run_equalIn_int w d f.type k M a b F];cases N:(a==b)
    ·simp
    ·simpa using i1
   ·intro i;simp only[cD,dS]at i;rw[i.1,i2 i.2]
   ·have:=i3 m;simp only[List.zip_cons_cons,List.all_cons,this,Bool.and_true];cases m<;>simp[Instr.sameBits]
  |true=>
   have ax:∃a b c,p= .str a/\t= .str b/\kR r asQ g=some c/\q=((a==b)&&c):=by
    cases p<;>first|(simp[kR]at h;done)|skip
    cases t<;>first|(simp[kR]at h;done)|skip
    simp only[kR,gD]at h;obtain⟨c,j,D⟩:=h;exact⟨_,_,c,rfl,rfl,j,D.symm⟩
   obtain⟨a,b,c,rfl,rfl,j,rfl⟩:=ax;simp only[cW,aS]at J U;obtain⟨u,B,rfl,⟨⟨rfl,_⟩,_⟩,J⟩:=J;obtain⟨v,vs',rfl,⟨⟨rfl,_⟩,_⟩,U⟩:=U;have G:X[n]? =some (.string ⟨a.toArray⟩):=by rw[<-tN,<-List.head?_drop,o];rfl
   have E:Y[n]? =some (.string ⟨b.toArray⟩):=by rw[<-tN,<-List.head?_drop,s];rfl
   obtain⟨i1,i2,i3⟩:=K gs (n+1) asQ g B vs' c aY (by rw[<-List.tail_drop,o];rfl) (by rw[<-List.tail_drop,s];rfl) J U j;have F:P.underlying f.type=some .string:=by simpa using l
   refine⟨?_,?_,fun m=>?_⟩
   ·simp only[Op.eqFields,H,ne_eq,not_false_eq_true,if_true,fq,L,run_part_plain w (Fh l) G,run_part_plain w (Fh l) E,fx,run_equalIn_string w d f.type _ _ F];have e:((⟨a.toArray⟩:lG).toList==(⟨b.toArray⟩:lG).toList)=(a==b):=by rw[arO,arO]
    rw[e];cases N:(a==b)
    ·simp
    ·simpa using i1
   ·intro i;simp only[cD,dS]at i;rw[i.1,i2 i.2]
   ·have:=i3 m;simp only[List.zip_cons_cons,List.all_cons,this,Bool.and_true];cases m<;>simp only[Instr.sameBits]<;>exact(MapKept.bytes_beq _ _).2 rfl
theorem Ue{P:cz}{bu:List (Nat×dE)}(aM:e6 P bu=true):∀(dX:List Bool) (gs:List Field) (n:Nat),A4 bu n dX (gs.map fun f=>(f.offset,f.type))=true->(gs.all (fun f=>match P.underlying f.type with|some (.int _)=>true|some .string=>true|_=>false)=true)/\((∀f∈gs,f.name≠ "_")->rD P n dX gs)
 |[],[],_,_=>⟨rfl,fun _=>trivial⟩
 |[],_::_,_,h=>by simp[A4]at h
 |_::_,[],_,h=>by simp[A4]at h
 |b::r,f::gs,n,h=>by
  simp only[fA,A4,cD,dS]at h;obtain⟨⟨J,U⟩,ao⟩:=h;obtain⟨i1,i2⟩:=Ue aM r gs (n+1) ao;split at U
  ·rename_i aG;obtain⟨d,hu,aQ⟩:=ia aM aG;obtain rfl:=Dk aQ;refine⟨by simp only[List.all_cons,hu,i1,Bool.and_self],fun az=>⟨⟨J,az f Ψ,?_⟩,i2 fun g aY=>az g (by simp[aY])⟩⟩;have:b=false:=by simpa using U
   subst this;simpa using⟨_,hu⟩
  ·rename_i aG;obtain⟨d,hu,aQ⟩:=ia aM aG;obtain rfl:=w5 aQ;refine⟨by simp only[List.all_cons,hu,i1,Bool.and_self],fun az=>⟨⟨J,az f Ψ,?_⟩,i2 fun g aY=>az g (by simp[aY])⟩⟩;subst U;simpa using hu
  ·cases U
theorem Ug{P:cz}{bu:List (Nat×dE)}(aM:e6 P bu=true){a:List Bool}{t:Nat}(h:G6 bu a t=true):∃gs,P.underlying t=some (.struct gs)/\rD P 0 a gs.toList/\P.stoodInHeld t=false/\P.eqGuardType P.depth t=false:=by
 unfold G6 at h;split at h
 ·rename_i c;obtain⟨d,hu,b⟩:=ia aM c;have ax:=(uZ aM c).cmp d hu;cases d<;>simp[ks]at b;rename_i gs;subst b;obtain⟨i1,i2⟩:=Ue aM a gs.toList 0 h;have e:Uf P gs=true:=i1;simp only[KR,e,Bool.not_true,Bool.false_or,Tk,cD,Bool.not_eq_true',jL,bne_iff_ne,ne_eq]at ax;exact⟨gs,hu,i2 ax.1.1,ax.1.2,ax.2⟩
 ·cases h
theorem TK{P:cz}{w:World}{Z:aZ}{t:fF}{gs:Array Field}{b:List Bool}(hu:P.underlying t=some (.struct gs))(aY:rD P 0 b gs.toList)(dr:P.stoodInHeld t=false){asQ a:List ah}{X Y:Array Value}(J:cW w Z asQ X.toList)(U:cW w Z a Y.toList){q:Bool}(h:kR b asQ a=some q):
  (Op.equalIn 10000 t (.agg X) (.agg Y)).run P w= .ok q w/\(q=true->X=Y)/\∀m,(X.toList.zip X.toList).all (fun(x,y)=>Instr.sameBits m x y)=true:=by
 have c:P.fieldsOf t=gs:=by simp[Program.fieldsOf,hu]
 obtain⟨i1,i2,i3⟩:=acv 9998 b gs.toList 0 asQ a _ _ q aY rfl rfl J U h;refine⟨?_,fun e=>?_,?_⟩
 ·rw[run_equalIn_struct w 9999 t X Y (by rw[c];exact hu) dr,c];exact i1
 ·have:=i2 e;simpa using this
 ·simpa using i3
inductive vc (P:cz):j8->fF->Prop
 |i {t:fF} {k:IntKind}:P.underlying t=some (.int k)->vc P .i t
 |s {t:fF}:P.underlying t=some .string->vc P .s t
 |a {t:fF} {dX:List Bool} {gs:Array Field}:P.underlying t=some (.struct gs)->rD P 0 dX gs.toList->P.stoodInHeld t=false->vc P (.a dX) t
theorem M0{P:cz}{bu:List (Nat×dE)}(aM:e6 P bu=true){b:j8}{t:Nat}(h:zx bu b t=true):vc P b t:=by
 cases b with
 |i=>
  simp only[zx]at h;split at h
  ·rename_i e;obtain⟨d,hu,c⟩:=ia aM e;obtain rfl:=Dk c;exact .i hu
  ·cases h
 |s=>
  simp only[zx]at h;split at h
  ·rename_i e;obtain⟨d,hu,c⟩:=ia aM e;obtain rfl:=w5 c;exact .s hu
  ·cases h
 |a g=>obtain⟨gs,J,U,f,_⟩:=Ug aM h;exact .a J U f
def tV(P:cz)(w:World)(c:j8)(t:fF)(a u:Value)(b:Bool):Prop:=match c with
 | .a _=>(Op.equal t a u).run P w= .ok b w
 |_=> ∀d,P.underlying t=some d->Instr.sameNow d a u=some b
def iC(P:cz)(w:World)(b:j8)(t:fF)(a:Value)(es:List MapEntry)(i:Nat)(r:aW (Nat×Value)):Prop:=match b with
 | .a _=>(Instr.findAsking t a es i).run P w= .ok r w
 |_=> ∀d,P.underlying t=some d->Instr.findNow d a es i=some r
theorem iC.nil(P:cz)(w:World)(a:j8)(t:fF)(b:Value)(i:Nat):iC P w a t b [] i none:=by cases a<;>simp[iC,Instr.findAsking,Instr.findNow]
theorem iC.hit{P:cz}{w:World}{b:j8}{t:fF}{f:Value}{e:MapEntry}{es:List MapEntry}{i:Nat}(h:tV P w b t f e.key true):iC P w b t f (e::es) i (some (i,e.val)):=by
 cases b with
 |a g=>simp only[tV]at h;simp[iC,Instr.findAsking,h]
 |i=>simp only[tV]at h;simp only[iC];intro d c;simp[Instr.findNow,h d c]
 |s=>simp only[tV]at h;simp only[iC];intro d c;simp[Instr.findNow,h d c]
theorem iC.miss{P:cz}{w:World}{f:j8}{t:fF}{g:Value}{e:MapEntry}{es:List MapEntry}{i:Nat}{r:aW (Nat×Value)}(h:tV P w f t g e.key false)(b:iC P w f t g es (i+1) r):iC P w f t g (e::es) i r:=by
 cases f with
 |a j=>simp only[tV]at h;simp only[iC]at b;simp[iC,Instr.findAsking,h,b]
 |i=>simp only[tV]at h;simp only[iC]at b⊢;intro d c;simp[Instr.findNow,h d c,b d c]
 |s=>simp only[tV]at h;simp only[iC]at b⊢;intro d c;simp[Instr.findNow,h d c,b d c]
theorem iC.run{P:cz}{w:World}{c:j8}{t:fF}(d:vc P c t){b:Value}{es:List MapEntry}{r:aW (Nat×Value)}(h:iC P w c t b es 0 r):(Instr.findKey t b es).run P w= .ok r w:=by
 cases d with
 |i hu=>simp only[iC]at h;simp[Instr.findKey,run_underlying hu,h _ hu]
 |s hu=>simp only[iC]at h;simp[Instr.findKey,run_underlying hu,h _ hu]
 |a hu aY dr=>
  simp only[iC]at h;cases es with
  |nil=>simp[Instr.findAsking]at h;simp[Instr.findKey,run_underlying hu,Instr.findNow,h]
  |cons e es=>
   rename_i gs;have:Instr.sameNow (.struct gs) b e.key=none:=by cases b<;>rfl
   simp only[Instr.findKey,fq,run_underlying hu,fx,Instr.findNow,this];exact h
theorem WH{P:cz}{w:World}{Z:aZ}{h:j8}{t:fF}(c:vc P h t){k j:ah}{g u:Value}(f:aS w Z k g)(J:aS w Z j u){bb:Bool}(ae:uB h k j=some bb):
  tV P w h t g u bb/\(bb=true->u=g/\Instr.sameBits 10000 u g=true):=by
 unfold uB at ae;split at ae
 ·split at ae
  ·rename_i l;subst l;simp only[aS]at f J;subst f;subst J;cases c with
   |i hu=>refine⟨fun d c=>by rw[hu]at c;cases c;simpa[Instr.sameNow]using ae,fun e=>?_⟩;subst e;simp only[dv,dS]at ae;subst ae;exact⟨rfl,by simp[Instr.sameBits]⟩
  ·cases ae
 ·rename_i a b;simp only[aS]at f J;obtain⟨rfl,_⟩:=f;obtain⟨rfl,_⟩:=J;cases c with
  |s hu=>
   refine⟨fun d c=>?_,fun e=>?_⟩
   ·rw[hu]at c;cases c;simp only[Instr.sameNow];rw[<-ae];congr 1;rw[ry,MapKept.bytes_beq];simp
   ·subst e;simp only[dv,dS]at ae;subst ae;exact⟨rfl,by simp only[Instr.sameBits];exact(MapKept.bytes_beq _ _).2 rfl⟩
 ·simp only[aS]at f J;obtain⟨X,rfl,f⟩:=f;obtain⟨Y,rfl,J⟩:=J;cases c with
  |a hu aY dr=>obtain⟨i1,i2,i3⟩:=TK hu aY dr f J ae;refine⟨by simpa[tV,Op.equal,Op.maxDepth]using i1,fun e=>?_⟩;have:=i2 e;subst this;exact⟨rfl,by simp[Instr.sameBits,i3]⟩
 ·cases ae
theorem Ny{P:cz}{w:World}{Z:aZ}{c:j8}{t:fF}(p:vc P c t){k:ah}{f:Value}(o:aS w Z k f):∀(borns:List Nat) (kvs:List ah) (us:List Value) (i:Nat) (r:aW ah),cH w Z kvs us->kvs.length=2*borns.length->xO c k kvs=some r->
  match r with
  |none=>iC P w c t f (ga borns us) i none
  |some v=> ∃j u,iC P w c t f (ga borns us) i (some (j,u))/\aS w Z v u
 |[],[],us,i,r,h,_,hm=>by simp only[xO]at hm;cases hm;simp only[cH]at h;subst h;simpa[ga]using iC.nil P w c t f i
 |[],_::_,_,_,_,_,a,_=>by simp at a
 |b::l,[],_,_,_,_,a,_=>by simp at a
 |b::l,[_],_,_,_,_,a,_=>by simp at a;omega
 |b::l,s::v::kvs,us,i,r,h,a,hm=>by
  simp only[cH]at h;obtain⟨g,y,rfl,J,d,q,rfl,U,x⟩:=h;simp only[xO]at hm;simp only[ga];cases m:uB c k s with
  |none=>simp[m]at hm
  |some bb=>
   obtain⟨s1,_⟩:=WH p o J m;simp only[m]at hm;cases bb with
   |true=>simp only[dv]at hm;subst hm;exact⟨i,d,iC.hit (e:=⟨g,d,b⟩) s1,U⟩
   |false=>
    simp only at hm;have n:=Ny p o l kvs q (i+1) r x (by simp at a;omega) hm;cases r with
    |none=>exact iC.miss (e:=⟨g,d,b⟩) s1 n
    |some v'=>obtain⟨j,u,g1,g2⟩:=n;exact⟨j,u,iC.miss (e:=⟨g,d,b⟩) s1 g1,g2⟩
theorem KP{P:cz}{w:World}{t:Nat}{d:TypeDesc}(hu:P.underlying t=some d)(a:(∃k,d= .int k)\/d= .string)(e:Bool)(n:Nat)(v:Value):(Instr.checkKey e (n+1) t v).run P w= .ok () w:=by unfold Instr.checkKey;rcases a with⟨k,rfl⟩|rfl<;>simp[run_underlying hu]
theorem agH{P:cz}{w:World}{Z:aZ}{X:Array Value}(i:List Bool):∀(gs:List Field) (n:Nat) (asQ:List ah),rD P n i gs->cW w Z asQ (X.toList.drop n)->(kR i asQ asQ).isSome=true->
  ∀f∈gs,(∃v,(part f.type X f.offset).run P w= .ok v w)/\∃d,P.underlying f.type=some d/\((∃k,d= .int k)\/d= .string):=by
 induction i with
 |nil=>intro gs n asQ aY _ _ f a;cases gs<;>simp only[rD]at aY;cases a
 |cons b r q=>
  intro gs n asQ aY j ax f a;cases gs with
  |nil=>cases a
  |cons g gs=>
  simp only[rD]at aY;obtain⟨⟨t,y,c⟩,aY⟩:=aY;cases asQ with
  |nil=>cases b<;>simp[kR]at ax
  |cons p asQ=>
  have l:(kR r asQ asQ).isSome=true:=by cases b<;>cases p<;>simp[kR]at ax⊢ <;>exact ax
  simp only[cW]at j;obtain⟨u,o,e,_,m⟩:=j;have s:X.toList.drop (n+1)=o:=by rw[<-List.tail_drop,e];rfl
  have x:X[n]? =some u:=by rw[<-tN,<-List.head?_drop,e];rfl
  rcases gp.1 a with rfl|a
  ·refine⟨⟨u,by rw[t];exact run_part_plain w (Fh c) x⟩,?_⟩;cases b
   ·obtain⟨k,h⟩:=(by simpa using c:∃k,P.underlying f.type=some (.int k));exact⟨_,h,.inl ⟨k,rfl⟩⟩
   ·exact⟨_,by simpa using c,.inr rfl⟩
  ·exact q gs (n+1) asQ aY (by rw[s];exact m) l f a
theorem Uo{P:cz}{w:World}{α:Type}(body:α->PUnit->Sem (ForInStep PUnit)):∀(l:List α),(∀f∈l,(body f ⟨⟩).run P w= .ok (.yield ⟨⟩) w)->(forIn l PUnit.unit body).run P w= .ok PUnit.unit w
 |[],_=>by simp
 |f::l,h=>by simp only[List.forIn_cons,fq,h f Ψ,fx];exact Uo body l fun g aY=>h g (by simp[aY])
theorem O1{P:cz}{w:World}{Z:aZ}{ck:j8}{t:Nat}(aQ:vc P ck t)(e:Bool){k:ah}{v:Value}(ad:aS w Z k v)(hi:xH ck k=true):(Instr.checkKey e 10000 t v).run P w= .ok () w:=by
 cases aQ with
 |i hu=>exact KP hu (.inl ⟨_,rfl⟩) e 9999 v
 |s hu=>exact KP hu (.inr rfl) e 9999 v
 |a hu aY dr=>
  rename_i dX gs;cases k<;>simp only[xH,hz]at hi;rename_i asQ;simp only[aS]at ad;obtain⟨X,rfl,ad⟩:=ad;unfold Instr.checkKey;simp only[fq,run_underlying hu,fx];rw[<-Array.forIn_toList];rw[Uo]
  ·simp
  ·intro f aG;obtain⟨⟨v,J⟩,d,U,ao⟩:=agH dX gs.toList 0 asQ aY (by simpa using ad) hi f aG;have a6:=KP (w:=w) U ao e 9998 v;by_cases az:f.name= "_"
   ·simp[az]
   ·simp[az,J,a6]
theorem Xr{w:World}{Z:aZ}{n:Nat}:∀(borns:List Nat) (kvs:List ah) (us:List Value) (p:ah),cH w Z kvs us->nD n borns kvs=some p->∃e,(ga borns us).find? (·.born==n)=some e/\aS w Z p (.tuple #[e.key,e.val])
 |[],_,_,_,_,hm=>by simp[nD]at hm
 |_::_,[],_,_,_,hm=>by simp[nD]at hm
 |_::_,[_],_,_,_,hm=>by simp[nD]at hm
 |b::g,k::v::kvs,us,p,h,hm=>by
  simp only[cH]at h;obtain⟨d,j,rfl,J,c,f,rfl,U,i⟩:=h;simp only[nD]at hm;simp only[ga];by_cases e:b=n
  ·rw[if_pos e]at hm;cases hm;refine⟨⟨d,c,b⟩,by simp[List.find?,e],?_⟩;simp only[aS];exact⟨#[d,c],rfl,by simp only[cH];exact⟨_,_,rfl,J,_,_,rfl,U,rfl⟩⟩
  ·rw[if_neg e]at hm;obtain⟨x,g1,g2⟩:=Xr g kvs f p i hm;have a:(b==n)=false:=by simpa using e
   exact⟨x,by simp[List.find?,a,g1],g2⟩
theorem aar{P:cz}{bu:List (Nat×dE)}(aM:e6 P bu=true){C:e0}{st:bh}{a:Act}{w:World}{Z:aZ}(B:cS C st a w Z){i:gq}(ah0:∀ck z ok x k,i≠ .mgetB ck z ok x k){o:Oper}(ak:FT bu i o.op=true)
  {c:Prop} {p:ah} (he:hh st i=some (c,p)) (ax:c):∃v,(execOp a.eval o).run P w= .ok (.value v) w/\aS w Z p v:=by
 obtain⟨dst,op,type,pos,after,guard⟩:=o;simp only at ak;unfold FT at ak;split at ak
 ·rename_i x o;simp only[hh]at he;cases he;exact⟨_,rfl,er B ak⟩
 ·rename_i x o;simp only[hh]at he;cases he;exact⟨_,rfl,er B ak⟩
 ·rename_i cw x y asb JS aa9;simp only[cD]at ak;have J:=er B ak.1.1;have U:=er B ak.1.2;have H:=er B ak.2;simp only[hh,IJ]at he;split at he
  ·rename_i b ae;rw[ae]at J;simp only[aS]at J;split at he
   ·rename_i u v hu L;cases he;rw[hu]at U;rw[L]at H;simp only[aS]at U H;refine⟨.bool (cond b u v),?_,by simp[aS]⟩;simp only[execOp,J,U,H,asBool,fq,gn,fx];cases b<;>rfl
   ·split at he
    ·cases he;exact⟨_,by simp only[execOp,J,asBool,fq,gn,fx,if_true],U⟩
    ·cases he;exact⟨_,by simp only[execOp,J,asBool,fq,gn,fx,hz,if_false],H⟩
  ·cases he
 ·rename_i agg sz x t o;simp only[cD]at ak;obtain⟨J,U⟩:=ak;split at J
  ·rename_i f D;simp only[cD,dS]at J;obtain⟨rfl,rfl⟩:=J;obtain⟨v,g1,g2⟩:=Ih aM B.good D (er B U) nq ax;exact⟨v,k6 g1,g2⟩
  ·cases J
 ·rename_i off agg sz x s o i;simp only[cD]at ak;obtain⟨J,U⟩:=ak;split at J
  ·rename_i f D;split at J
   ·rename_i xS t DX;simp only[cD,dS]at J;obtain⟨rfl,J⟩:=J;split at J
    ·rename_i g aY;simp only[cD,dS,bne_iff_ne,ne_eq]at J;obtain⟨⟨rfl,rfl⟩,M⟩:=J;obtain⟨v,g1,g2⟩:=agB aM D rfl DX aY M (er B U) nq ax;exact⟨v,k6 g1,g2⟩
    ·cases J
   ·cases J
  ·cases J
 ·rename_i off agg sz x s o i;simp only[cD]at ak;obtain⟨J,U⟩:=ak;split at J
  ·rename_i f D;split at J
   ·rename_i xS t DX;simp only[cD,dS]at J;obtain⟨rfl,J⟩:=J;split at J
    ·rename_i g aY;simp only[cD,dS]at J;obtain⟨rfl,rfl⟩:=J;obtain⟨v,g1,g2⟩:=agI aM D rfl DX aY (er B U) nq ax;exact⟨v,k6 g1,g2⟩
    ·cases J
   ·cases J
  ·cases J
 ·rename_i sz x i t o j;simp only[cD]at ak;obtain⟨⟨J,U⟩,H⟩:=ak;split at J
  ·rename_i e D;split at J
   ·rename_i g aY;simp only[dS]at J;subst J;obtain⟨v,g1,g2⟩:=aju aM D rfl aY (er B U) (er B H) nq ax;exact⟨v,k6 g1,g2⟩
   ·cases J
  ·cases J
 ·rename_i x i t o j;simp only[cD]at ak;obtain⟨⟨J,U⟩,H⟩:=ak;split at J
  ·rename_i D;obtain⟨d,G,F⟩:=ia aM D;obtain rfl:=w5 F;have A:=er B U;have E:=er B H;simp only[hh,Jo]at he;split at he
   ·rename_i s k n ag O;cases he;rw[ag]at A;rw[O]at E;simp only[aS]at A E;obtain⟨vB,ui⟩:=ax;have bI:n.toNat<s.length:=Ω
    have ain:(⟨s.toArray⟩:lG)[n.toNat]? =some (s.getD n.toNat 0):=by exact ahE s n.toNat bI
    refine⟨_,k6 (v:= .int .u8 (s.getD n.toNat 0).toNat) ?_,by simp[aS]⟩;simp only[Instr.index,E,asIntOf,A.1,fq,gn,fx,run_underlying G,vB,if_true,ain]
   ·cases he
  ·cases J
 ·rename_i x lo hi t o l h;simp only[cD]at ak;obtain⟨⟨⟨J,U⟩,H⟩,a6⟩:=ak;split at J
  ·rename_i D;obtain⟨d,G,F⟩:=ia aM D;obtain rfl:=w5 F;have A:=er B U;simp only[hh,Jt]at he;split at he
   ·rename_i s ag;rw[ag]at A;simp only[aS]at A;split at he
    ·rename_i K Q aq Mb;cases he;obtain⟨bM,c2,c3⟩:=ax;have V:=IC B H aq;have bP:=IC B a6 Mb;refine⟨_,k6 (v:= .string ⟨((s.take Q.toNat).drop K.toNat).toArray⟩) ?_,?_⟩
     ·have ae:=QQ P w false s.length s.length (l.map a.eval) (h.map a.eval) K Q
       V bP bM c2 c3 (eR _)
      simp only[Instr.sliceAt,Instr.slice,A.1,fq,gn,fx,run_underlying G,Option.map_none,nh,hz,if_false,FE,ae,aew]
     ·simp only[aS];refine⟨trivial,?_⟩;have:=A.2;simp only[sq,List.length_take];omega
    ·cases he
   ·cases he
  ·cases J
 ·rename_i sz x lo hi t o l h;simp only[cD]at ak;obtain⟨⟨⟨J,U⟩,H⟩,a6⟩:=ak;split at J
  ·rename_i e D;split at J
   ·rename_i g aY;simp only[dS]at J;subst J;obtain⟨d,G,F⟩:=ia aM D;obtain rfl:=rP F;obtain⟨_,dO⟩:=wI aM aY w;have A:=er B U;simp only[hh,Ii]at he;split at he
    ·rename_i dJ tag xs ag;split at he
     ·rename_i ee;subst ee;rw[ag]at A;simp only[aS]at A;obtain⟨⟨R,cap,L,S,W,fW⟩,_⟩:=A;split at he
      ·rename_i K Q aq Mb;cases he;obtain⟨bM,c2,c3⟩:=ax;have V:=IC B H aq;have bP:=IC B a6 Mb;have ae:=QQ P w true xs.length cap (l.map a.eval) (h.map a.eval) K Q
        V bP bM c2 c3 S
       refine⟨_,k6 (v:= .slice (if cap=K.toNat then R else R.map (·.add (K.toNat*g.size))) (Q.toNat-K.toNat) (cap-K.toNat)) ?_,?_⟩
       ·simp only[Instr.sliceAt,Instr.slice,L,fq,gn,fx,run_underlying G,Option.map_none,ae,dO]
       ·simp only[aS];have hlen:((xs.take Q.toNat).drop K.toNat).length=Q.toNat-K.toNat:=by simp;omega
        refine⟨⟨_,_,by rw[hlen],by rw[hlen];omega,⟨Ω,by rw[hlen];omega⟩,?_⟩,(fun h=>by cases h),(fun g h=>by cases h),(fun _ _ h=>by cases h),(fun _ h=>by cases h)⟩;rcases fW with rfl|⟨b,off,us,rfl,g1,g2⟩
        ·left;simp
        ·by_cases sR:cap=K.toNat
         ·left;apply u6;rw[hlen];omega
         ·right;rw[if_neg sR];refine⟨b,off+K.toNat*g.size,(us.take (Q.toNat*g.size)).drop (K.toNat*g.size),by simp[pt],H9 _ (Ib _ g1),Zp _ (Zs _ g2)⟩
      ·cases he
     ·cases he
    ·cases he
   ·cases J
  ·cases J
 ·rename_i op wr x y Ye ty o o' aaj;simp only[cD,e8]at ak;obtain⟨⟨rfl,J⟩,U⟩:=ak;obtain⟨r,g1,g2⟩:=ab7 P w Z nq ax ty (er B J) (er B U) o o';exact⟨r,k6 g1,g2⟩
 ·rename_i x op ty o;simp only[cD,e8]at ak;obtain⟨rfl,J⟩:=ak;have A:=er B J;simp only[hh]at he;unfold Ix at he;split at he
  ·rename_i b ae;cases he;rw[ae]at A;simp only[aS]at A;exact⟨_,k6 (v:= .bool (!b)) (by simp[Op.unary,A]),by simp[aS]⟩
  ·cases he
 ·rename_i x op ty o;simp only[cD,e8]at ak;obtain⟨rfl,J⟩:=ak;have A:=er B J;simp only[hh]at he;unfold Is at he;split at he
  ·rename_i k n ae;cases he;rw[ae]at A;simp only[aS]at A;exact⟨_,k6 (v:= .int k (k.wrap (0-n))) (by simp[Op.unary,A,Op.intArith]),by simp[aS]⟩
  ·cases he
 ·rename_i k x s d o;simp only[cD]at ak;obtain⟨J,U⟩:=ak;split at J
  ·rename_i V bP y2 qp;simp only[e8]at J;subst J;obtain⟨d1,fC,LV⟩:=ia aM y2;obtain rfl:=Dk LV;obtain⟨d2,e2,LW⟩:=ia aM qp;obtain rfl:=Dk LW;have A:=er B U;simp only[hh]at he;unfold GM at he;split at he
   ·rename_i bn n ae;cases he;rw[ae]at A;simp only[aS]at A;exact⟨_,k6 (v:= .int k (k.wrap n)) (by simp[convert,A,run_underlying fC,run_underlying e2,Conv.intToInt]),by simp[aS]⟩
   ·cases he
  ·cases J
 ·rename_i i x o j;simp only[cD,dS]at ak;obtain⟨rfl,J⟩:=ak;have A:=er B J;simp only[hh]at he;unfold AT at he;split at he
  ·rename_i ba ae;simp only[gD]at he;obtain⟨q,N,he⟩:=he;cases he;rw[ae]at A;simp only[aS]at A;obtain⟨us,hu,U⟩:=A;obtain⟨v,g1,g2⟩:=Jd i U N;have lX:us[i]? =some v:=by simpa using g1
   exact⟨v,k6 (by simp[Instr.extract,hu,lX]),g2⟩
  ·cases he
 ·rename_i x o t;simp only[cD]at ak;obtain⟨J,U⟩:=ak;have A:=er B U;simp only[hh]at he;unfold BQ at he;split at he
  ·rename_i sz tag xs ae;cases he;rw[ae]at A;simp only[aS]at A;obtain⟨⟨R,cap,L,_⟩,_⟩:=A;refine⟨.int .i64 xs.length,?_,by simp[aS]⟩;split at J
   ·rename_i D;obtain⟨d,G,F⟩:=ia aM D;obtain rfl:=rP F;simp[execOp,resolve,invoke,builtin,Builtin.len_,run_underlying G,L,goInt]
   ·cases J
  ·rename_i sz k n ae;cases he;rw[ae]at A;simp only[aS]at A;obtain⟨⟨R,cap,L⟩,_⟩:=A;refine⟨.int .i64 n,?_,by simp[aS]⟩;split at J
   ·rename_i D;obtain⟨d,G,F⟩:=ia aM D;obtain rfl:=rP F;simp[execOp,resolve,invoke,builtin,Builtin.len_,run_underlying G,L,goInt]
   ·cases J
  ·rename_i R n cap ae;cases he;rw[ae]at A;simp only[aS]at A;refine⟨.int .i64 n,?_,by simp[aS]⟩;split at J
   ·rename_i D;obtain⟨d,G,F⟩:=ia aM D;obtain rfl:=rP F;simp[execOp,resolve,invoke,builtin,Builtin.len_,run_underlying G,A,goInt]
   ·cases J
  ·cases he
 ·rename_i x o t;simp only[cD]at ak;obtain⟨J,U⟩:=ak;have A:=er B U;simp only[hh]at he;unfold FF at he;split at he
  ·rename_i s ae;cases he;rw[ae]at A;simp only[aS]at A;refine⟨.int .i64 s.length,?_,by simp[aS]⟩;split at J
   ·rename_i D;obtain⟨d,G,F⟩:=ia aM D;obtain rfl:=w5 F;simp[execOp,resolve,invoke,builtin,Builtin.len_,run_underlying G,A.1,goInt,FE]
   ·cases J
  ·rename_i s ae;cases he;rw[ae]at A;simp only[aS]at A;refine⟨.int .i64 s.size,?_,by simp[aS]⟩;split at J
   ·rename_i D;obtain⟨d,G,F⟩:=ia aM D;obtain rfl:=w5 F;simp[execOp,resolve,invoke,builtin,Builtin.len_,run_underlying G,A,goInt]
   ·cases J
  ·cases he
 ·rename_i zero parts t cr;split at ak
  ·rename_i dX z D;simp only[cD]at ak;obtain⟨⟨J,U⟩,H⟩:=ak;obtain⟨c8,bH,ajt⟩:=arL J;obtain⟨i,d,arJ,A,E,bj,cR,fM,gS,rQ,qR⟩:=(uZ aM D).ex;obtain⟨gs,rfl,ll⟩:=KU fM;simp only at bH rQ qR;subst bH;have mv:(gs.toList.all fun f=>(ea bu f.type).isSome)=true:=by rw[<-ll]at U;simpa[List.all_map,Function.comp_def]using U
   obtain⟨places,c1,du⟩:=Yo aM gs.toList mv;rw[ll]at du;cases arJ<;>simp only[Ap]at rQ;case agg us=>
    simp only[hh]at he;cases ae:vm st.t zero parts with
    |none=>simp[ae]at he
    |some x=>obtain⟨cw,cs'⟩:=x;simp only[ae,ni]at he;cases he;obtain⟨bY,g1,g2⟩:=ZF B du parts cr.toList zero us c cs' H (abb ajt (P7 w Z _ _ rQ)) ae ax;refine⟨.agg bY,k6 (run_build w t _ bY ?_),by simp only[aS];exact⟨bY,rfl,g2⟩⟩;simp only[Program.built,A,E,gS,c1,nM];simpa using g1
   all_goals cases rQ
  ·cases ak
 ·rename_i x o;have A:=er B ak;simp only[hh]at he;unfold B1 at he;split at he
  ·rename_i k off ae;cases he;rw[ae]at A;have E:=A;simp only[aS]at A;obtain⟨b,_,L⟩:=A;exact⟨a.eval o,by simp[execOp,L],E⟩
  ·rename_i q ae;cases he;rw[ae]at A;have E:=A;simp only[aS]at A;obtain⟨b,off,u,L,_⟩:=A;exact⟨a.eval o,by simp[execOp,L],E⟩
  ·rename_i f cs ae;cases he;rw[ae]at A;have E:=A;simp only[aS]at A;obtain⟨us,L,_⟩:=A;have qu:a.eval o= .func (.func f) #[] us\/a.eval o= .func (.func (wL f)) us #[]:=by rw[L];unfold ub;split;exact .inl rfl;exact .inr rfl
   exact⟨a.eval o,by rcases qu with qu|qu<;>simp[execOp,qu],E⟩
  ·cases he
 ·rename_i x y o o' t dK;simp only[cD]at ak;have A:=er B ak.1;have E:=er B ak.2;simp only[hh]at he;unfold Ir at he;split at he
  ·rename_i k m bn n hm O;split at he
   ·rename_i ad;subst ad;cases he;rw[hm]at A;rw[O]at E;simp only[aS]at A E;exact⟨.int k (if n<m then n else m),by simp[execOp,resolve,invoke,builtin,Builtin.min_,Builtin.min2,A,E],by simp[aS]⟩
   ·cases he
  ·cases he
 ·rename_i n xs m os;simp only[cD,e8]at ak;obtain⟨⟨rfl,O⟩,ak⟩:=ak;simp only[hh]at he;cases he;have j1:=zW B ak;refine⟨.func (.func n) #[] (os.map a.eval),by simp[execOp,Instr.makeFunc],?_⟩;simp only[aS];exact⟨os.map a.eval,by simp[ub,O],by simpa using j1⟩
 ·rename_i n xs m eM _;simp only[cD,e8]at ak;obtain⟨rfl,ak⟩:=ak;simp only[hh]at he;cases he;have j1:=zW B ak;refine⟨.func (.func m) (eM.map a.eval) #[],by simp[execOp,Instr.makeFunc],?_⟩;simp only[aS];exact⟨eM.map a.eval,(agJ m _).symm,by simpa using j1⟩
 ·rename_i ck zero ok x k t o o' Iy;simp only[cD,dS]at ak;obtain⟨⟨⟨rfl,J⟩,U⟩,H⟩:=ak;have A:=er B U;have E:=er B H;split at J
  ·rename_i sz lW kZ qk z D;simp only[cD]at J;obtain⟨aiw,L0⟩:=J;split at L0
   ·rename_i asU Hq;have bH:=P9 L0;obtain⟨cQ,hu,F⟩:=ia aM D;have uk:cQ= .map kZ qk:=by cases cQ<;>simp[ks]at F;obtain⟨rfl,rfl⟩:=F;rfl
    subst uk;obtain⟨bG,k7,z2,_⟩:=PC aM Hq w;rw[<-bH]at z2;have aa:=(P8 w Z z2).1;have mO:=M0 aM aiw;simp only[hh]at he;unfold o2 at he;split at he
    ·rename_i key ab;rw[ab]at A;simp only[aS]at A;obtain⟨bl,S,W⟩:=A;split at he
     ·rename_i clock borns kvs iF;obtain⟨jf,us,el,g1,g2,g3,g4,g5⟩:=B.good.box key _ iF;rw[S]at g1;cases g1;simp only[jI]at g4;simp only[iz]at g5;have hE:(getObj bl).run P w= .ok (.map (ga borns us.toList).toArray clock) w:=wC g4;split at he
      ·cases he
      rename_i xp;have xi:=O1 (P:=P) (w:=w) mO ((ga borns us.toList).toArray.isEmpty) E (by simpa using xp);split at he
      ·rename_i v hm;cases he;obtain⟨j,u,f1,f2⟩:=Ny mO E borns kvs us.toList 0 _ g5.1 g5.2.len hm;refine⟨if ok then .tuple #[u,.bool true]else u,?_,?_⟩
       ·simp only[execOp];refine k6 ?_;simp only[Instr.lookup,fq,run_underlying hu,fx,W,hE,gn,xi,f1.run mO]
       ·cases ok
        ·simpa using f2
        ·simp only[if_true,aS];exact⟨_,rfl,by simp only[cH];exact⟨_,_,rfl,f2,_,_,rfl,by simp[aS],rfl⟩⟩
      ·rename_i hm;cases he;have f1:=Ny mO E borns kvs us.toList 0 _ g5.1 g5.2.len hm;simp only at f1;refine⟨if ok then .tuple #[bG,.bool false]else bG,?_,?_⟩
       ·simp only[execOp];refine k6 ?_;simp only[Instr.lookup,fq,run_underlying hu,fx,W,hE,gn,xi,f1.run mO,k7]
       ·cases ok
        ·simpa using aa
        ·simp only[if_true,aS];exact⟨_,rfl,by simp only[cH];exact⟨_,_,rfl,aa,_,_,rfl,by simp[aS],rfl⟩⟩
      ·cases he
     ·cases he
    ·cases he
   ·cases L0
  ·cases J
 ·rename_i x o;have A:=er B ak;simp only[hh]at he;unfold qz at he;split at he
  ·rename_i fS ab;rw[ab]at A;simp only[aS]at A;obtain⟨bl,S,W⟩:=A;split at he
   ·rename_i since seen last mk iF;obtain⟨jf,us,el,g1,g2,g3,g4,g5⟩:=B.good.box fS _ iF;rw[S]at g1;cases g1;simp only[jI]at g4;simp only[iz,cH,aS]at g5;obtain⟨u,bY,oZ,⟨mb,m1,rfl⟩,rfl⟩:=g5;rw[oZ]at g4;simp only at g4;split at he
    ·rename_i clock borns kvs aiC;obtain⟨ar9,qJ,asH,V,bP,cA,ff,dt⟩:=B.good.box mk _ aiC;rw[m1]at V;cases V;simp only[jI]at ff;simp only[iz]at dt;split at he
     ·rename_i n O;simp only[gD]at he;obtain⟨q,N,he⟩:=he;cases he;obtain⟨e,f1,f2⟩:=Xr borns kvs qJ.toList p dt.1 N;refine⟨.tuple #[e.key,e.val],?_,f2⟩;simp only[execOp];refine k6 ?_;have aij:(getObj bl).run P w= .ok (.mapIter (some mb) since seen.toArray last) w:=wC g4;have aik:(getObj mb).run P w= .ok (.map (ga borns qJ.toList).toArray clock) w:=wC ff;have LR:seen.toArray.back? =some n:=by simpa using O
      have Be:(clock !=last)=false:=by simp[ax]
      have aic:(ga borns qJ.toList).toArray.find? (·.born==n)=some e:=by simpa using f1
      simp only[Instr.entry,W,fq,aij,fx,LR,aik,Be,hz,if_false,aic,gn]
     ·cases he
    ·cases he
   ·cases he
  ·cases he
 ·rename_i x o t;simp only[cD]at ak;obtain⟨J,U⟩:=ak;have A:=er B U;simp only[hh]at he;unfold B0 at he;split at he
  ·rename_i key ae;rw[ae]at A;simp only[aS]at A;obtain⟨bl,S,W⟩:=A;split at he
   ·rename_i clock borns kvs iF;cases he;obtain⟨jf,us,el,g1,g2,g3,g4,g5⟩:=B.good.box key _ iF;rw[S]at g1;cases g1;simp only[jI]at g4;simp only[iz]at g5;have hE:(getObj bl).run P w= .ok (.map (ga borns us.toList).toArray clock) w:=wC g4;have hlen:(ga borns us.toList).length=borns.length:=TG g5.2.len (Zy g5.1);refine⟨.int .i64 borns.length,?_,by simp[aS]⟩;split at J
    ·rename_i D;obtain⟨d,G,F⟩:=ia aM D;obtain⟨kZ,qk,rfl⟩:∃kZ qk,d= .map kZ qk:=by cases d<;>simp[ks]at F;exact⟨_,_,rfl⟩
     simp[execOp,resolve,invoke,builtin,Builtin.len_,run_underlying G,W,goInt,hE,hlen]
    ·cases J
   ·cases he
  ·cases he
 ·rename_i neg dX x y op t o o' aaj;simp only[cD,e8]at ak;obtain⟨⟨⟨rfl,M⟩,J⟩,U⟩:=ak;have A:=er B J;have E:=er B U;simp only[hh]at he;unfold je at he;split at he
  ·rename_i bo cb bC ae;simp only at M;cases he;rw[bC]at A;rw[ae]at E;simp only[aS]at A E;split at M
   ·rename_i D;obtain⟨d,G,F⟩:=ia aM D;obtain rfl:d= .bool:=by cases d<;>simp[ks]at F;rfl
    refine⟨.bool (if neg then bo !=cb else bo==cb),k6 ?_,by simp[aS]⟩;cases neg<;>simp[A,E,eqGuard,binOp,adz G,bne]
   ·cases M
  ·rename_i as1 asQ eM bC ae;simp only at M;simp only[gD]at he;obtain⟨q,N,he⟩:=he;cases he;rw[bC]at A;rw[ae]at E;simp only[aS]at A E;obtain⟨X,adm,anF⟩:=A;obtain⟨Y,adn,anG⟩:=E;obtain⟨gs,hu,aY,dr,jA⟩:=Ug aM M;obtain⟨i1,_,_⟩:=TK hu aY dr anF anG N;refine⟨.bool (if neg then !q else q),k6 ?_,by simp[aS]⟩;rw[adm,adn];cases neg
   ·simp only[hz,if_false,fq,run_eqGuard_agg w _ t o o' X Y jA,fx,run_eql_struct,i1]
   ·simp only[if_true,fq,run_eqGuard_agg w _ t o o' X Y jA,fx,run_neq_struct,i1]
  ·cases he
 ·rename_i x y o o' t dK;simp only[cD]at ak;have A:=er B ak.1;have E:=er B ak.2;simp only[hh]at he;unfold Il at he;split at he
  ·rename_i k m bn n hm O;split at he
   ·rename_i ad;subst ad;cases he;rw[hm]at A;rw[O]at E;simp only[aS]at A E;exact⟨.int k (if m<n then n else m),by simp[execOp,resolve,invoke,builtin,Builtin.max_,Builtin.max2,A,E],by simp[aS]⟩
   ·cases he
  ·cases he
 ·rename_i t x dK o;simp only[cD,dS]at ak;obtain⟨⟨rfl,J⟩,U⟩:=ak;have A:=er B U;simp only[hh]at he;cases he;split at J
  ·rename_i D;obtain⟨d,G,F⟩:=ia aM D;obtain rfl:=rP F;refine⟨.iface t (a.eval o),k6 (by simp[Instr.makeInterface,run_underlying G]),?_⟩;simp only[aS];exact⟨_,rfl,A⟩
  ·cases J
 ·rename_i agg sz x t o;simp only[cD]at ak;obtain⟨J,U⟩:=ak;split at J
  ·rename_i f D;simp only[cD,dS]at J;obtain⟨rfl,rfl⟩:=J;obtain⟨v,g1,g2⟩:=Ih aM B.good D (er B U) (akq nq) ax;exact⟨v,k6 g1,g2⟩
  ·cases J
 ·rename_i x s d o;simp only[cD]at ak;obtain⟨J,U⟩:=ak;split at J
  ·rename_i e _ _ y2 qp;split at J
   ·rename_i aib;obtain⟨d1,fC,LV⟩:=ia aM y2;obtain rfl:=rP LV;obtain⟨d2,e2,LW⟩:=ia aM qp;obtain rfl:=w5 LW;obtain⟨d3,gE,ah8⟩:=ia aM aib;obtain rfl:=Dk ah8;have A:=er B U;simp only[hh]at he;unfold Gm at he;split at he
    ·rename_i sz tag xs ae;simp only[gD]at he;obtain⟨eM,vz,he⟩:=he;cases he;rw[ae]at A;simp only[aS]at A;obtain⟨⟨R,cap,a8,bA,bR,cY⟩,_⟩:=A;have aq:=QX vz;have ab:∃ns:List Int,ns.length=xs.length/\eM=ns.map AD/\(xs.length=0\/ ∃b off,R=some ⟨b,off,none⟩/\ly w Z.A b off (ns.map (pf .u8))):=by
      rcases cY with rfl|⟨b,off,us,c1,du,iZ⟩
      ·simp only[qf,dv]at vz;exact⟨[],rfl,by rw[<-vz];rfl,.inl rfl⟩
      ·obtain⟨ns,dI,e4,kp⟩:=QY vz iZ;subst dI;exact⟨ns,by simpa using kp,e4,.inr ⟨b,off,c1,du⟩⟩
     obtain⟨ns,gY,rfl,iG⟩:=ab;refine⟨_,k6 (v:= .string ⟨(ns.map AD).toArray⟩) ?_,by simp only[aS];exact⟨trivial,by rw[aq];exact bR.2⟩⟩;rw[a8];simp only[convert,fq,run_underlying fC,run_underlying e2,fx];simp only[run_underlying gE,fq,fx,ab3 gY iG]
    ·cases he
   ·cases J
  ·cases J
 ·rename_i neg x op t o aaj;simp only[cD,e8]at ak;obtain⟨⟨rfl,M⟩,J⟩:=ak;have A:=er B J;split at M
  ·rename_i D;obtain⟨d,G,F⟩:=ia aM D;obtain⟨ms,rfl⟩:∃ms,d= .interface ms:=by cases d<;>simp[ks]at F;exact⟨_,rfl⟩
   simp only[hh]at he;unfold HW at he;split at he
   ·rename_i av5 q N;cases he;rw[N]at A;simp only[aS]at A;obtain⟨u,A,_⟩:=A;refine⟨.bool neg,k6 ?_,by simp[aS]⟩;rw[show a.eval (.const .nilIface)= .nilIface from rfl,A];cases neg<;>simp[eqGuard,binOp,(GX (w:=w) G).1,(GX (w:=w) G).2]
   ·rename_i N;cases he;rw[N]at A;simp only[aS]at A;refine⟨.bool (!neg),k6 ?_,by simp[aS]⟩;rw[show a.eval (.const .nilIface)= .nilIface from rfl,A];cases neg<;>simp[eqGuard,binOp,(GX (w:=w) G).1,(GX (w:=w) G).2]
   ·cases he
  ·cases M
 ·rename_i agg sz x t o;simp only[cD]at ak;obtain⟨J,U⟩:=ak;split at J
  ·rename_i f D;simp only[cD,dS]at J;obtain⟨rfl,rfl⟩:=J;obtain⟨v,g1,g2⟩:=Ih aM B.good D (er B U) (agQ nq) ax;exact⟨v,k6 g1,g2⟩
  ·cases J
 ·exact absurd rfl (ah0 _ _ _ _ _)
 ·cases ak
theorem ap8{P:cz}{bu:List (Nat×dE)}(aM:e6 P bu=true){C:e0}{st:bh}{a:Act}{w:World}{Z:aZ}(d:cS C st a w Z){i:gq}{o:Oper}(ak:FT bu i o.op=true)
  {c:Prop} {p:ah} (he:hh st i=some (c,p)) (ax:c):∃v,(execOp a.eval o).run P w= .ok (.value v) w/\aS w Z p v:=by
 by_cases ae:∃b z ok x k,i= .mgetB b z ok x k
 ·obtain⟨b,z,ok,x,k,rfl⟩:=ae;refine aar aM d (i:= .mget b z ok x k) (fun _ _ _ _ _ e=>by cases e) ?_ he ax;obtain⟨dst,op,type,pos,after,guard⟩:=o;cases op<;>first|exact ak|simp[FT]at ak
 ·exact aar aM d (fun b z ok x k e=>ae ⟨b,z,ok,x,k,e⟩) ak he ax
theorem Te{w:World}{o:Obj}{b i:Nat}(h:b<w.heap.size):(w.alloc o).cell? ⟨b,i,none⟩=w.cell? ⟨b,i,none⟩:=World.cell?_of_block (Below.heap_alloc w o b h)
def aZ.withBox(Z:aZ)(k:aB)(bl:Nat):aZ:={Z with bx:=fun j=>if j=k then some bl else Z.bx j}
def aZ.withOwn(Z:aZ)(k:aB)(n:Nat)(v:Value):aZ:={Z with ow:=fun j=>if j=k then some (n,v)else Z.ow j}
theorem cS.lookNone{C:e0}{st:bh}{a:Act}{w:World}{Z:aZ}(h:cS C st a w Z){k:aB}(b:fresh st.n st.o k):look k st.b=none/\look k st.e=none:=by
 obtain⟨J,U,_⟩:=h.new k b;constructor
 ·cases ae:look k st.b with
  |none=>rfl
  |some cs=>obtain⟨bl,us,el,g1,_⟩:=h.good.box _ _ ae;rw[J]at g1;cases g1
 ·cases ae:look k st.e with
  |none=>rfl
  |some o=>obtain⟨v,us,g1,_⟩:=h.good.own _ _ ae;rw[U]at g1;cases g1
theorem Good.ownLt{pr:Nat->Prop}{w:World}{Z:aZ}{b:List (aB×List ah)}{e:List (aB×ec)}(h:Good pr w Z b e){g:aB}{o:ec}(aY:look g e=some o){n:Nat}{v:Value}(a:Z.ow g=some (n,v)){bl:Nat}(ae:v.ownBlock=some bl):bl<w.heap.size:=by obtain⟨v',us,g1,g2,_⟩:=h.own g o aY;rw[a]at g1;cases g1;exact(g2.lt bl ae).2
theorem Good.boxLt{pr:Nat->Prop}{w:World}{Z:aZ}{b:List (aB×List ah)}{e:List (aB×ec)}(h:Good pr w Z b e){k:aB}{cs:List ah}(a:look k b=some cs){bl:Nat}(ae:Z.bx k=some bl):bl<w.heap.size:=by obtain⟨c,us,el,g1,_,_,g4,_⟩:=h.box k cs a;rw[ae]at g1;cases g1;exact(Array.getElem?_eq_some_iff.1 g4).1
theorem cS.newBox{C:e0}{st:bh}{a:Act}{w:World}{Z:aZ}(h:cS C st a w Z){c:aB}(Q:Z.bx c=none/\Z.ow c=none/\∀j b,¬Z.tr c j b){n':Nat}{o':List aB}(E:∀j,fresh n' o' j->fresh st.n st.o j/\j≠c){cs:List ah}{us:Array Value}(el:JV c)(ax:iz w Z cs us.toList):
  cS C {st with b:=cB c cs st.b,n:=n',o:=o'} a (w.alloc (jI cs us el.1)) (Z.withBox c w.heap.size)/\
  aS (w.alloc (jI cs us el.1)) (Z.withBox c w.heap.size) (.ptr c 0) (.pointer (some ⟨w.heap.size,0,none⟩)):=by
 obtain⟨G,P,B⟩:=Q;have ak:lU w Z (w.alloc (jI cs us el.1)) (Z.withBox c w.heap.size):=by
  refine⟨fun b o be=>⟨be,Te (h.good.alt b o be)⟩,fun k b _ d=>?_,fun g n u _ aY=>⟨n,u,aY,.inl ⟨rfl,rfl⟩⟩,fun b o be=>wE (Below.heap_alloc w _ b (h.good.alt b o be)),fun _ _ _ _ h=>h⟩;have:k≠c:=fun e=>by subst e;rw[G]at d;cases d
  simp[aZ.withBox,this,d]
 have z:(w.alloc (jI cs us el.1)).heap.size=w.heap.size+1:=Ψ
 have r:∀k,(look k (cB c cs st.b)).isSome->k=c\/(k≠c/\(look k st.b).isSome/\(Z.withBox c w.heap.size).bx k=Z.bx k):=by
  intro k d;by_cases e:k=c
  ·exact .inl e
  ·rw[jG,if_neg (k8 e)]at d;exact .inr ⟨e,d,by simp[aZ.withBox,e]⟩
 refine⟨h.over ak rfl ⟨fun bl o be=>by rw[z];have:=h.good.alt bl o be;omega,fun k y d=>?_,fun k q bl d K l p=>?_,fun g o aY=>?_,h.good.oinj,fun g k n v bl aY d F ae t=>?_,fun k=>?_,fun bl ae k j aM=>?_⟩
  ⟨h.fr.os,h.fr.tape,h.fr.output,by rw[z];have:=h.fr.size;omega,fun k d hm=>?_,fun b o be=>?_,h.fr.fresh,fun n b ae=>?_,h.fr.obn,h.fr.row,h.fr.obr,h.fr.trd,fun k j b ae=>⟨(h.fr.trb k j b ae).1,by rw[z];have:=(h.fr.trb k j b ae).2;omega⟩,fun k j b ae=>?_,fun b o be=>(ak.sh b o (h.fr.keep b o be).1).trans (h.fr.sh b o be),h.fr.nrow⟩ (fun m hm=>?_) (fun m hm=>(E m hm).1),?_⟩
 ·simp only at d;rw[jG]at d;by_cases e:c=k
  ·rw[if_pos e]at d;cases d;subst e;refine⟨w.heap.size,us,el,by simp[aZ.withBox],.inr h.fr.size,fun o be=>?_,heap_alloc_new w _,qE ak ax⟩;have:=h.good.alt _ o be;omega
  ·rw[if_neg e]at d;obtain⟨bl,N,L,g1,g2,g3,g4,g5⟩:=h.good.box k y d;exact⟨bl,N,L,ak.bx _ _ trivial g1,g2,g3,by rw[Below.heap_alloc w _ bl (Array.getElem?_eq_some_iff.1 g4).1];exact g4,qE ak g5⟩
 ·rcases r k d with rfl|⟨D,i,f⟩<;>rcases r q K with rfl|⟨m1,m2,m3⟩
  ·rfl
  ·exfalso;simp only[aZ.withBox,if_true,dv]at l;subst l;rw[m3]at p;obtain⟨y,x⟩:=gd.1 m2;have:=h.good.boxLt x p;omega
  ·exfalso;simp only[aZ.withBox,if_true,dv]at p;subst p;rw[f]at l;obtain⟨y,x⟩:=gd.1 i;have:=h.good.boxLt x l;omega
  ·rw[f]at l;rw[m3]at p;exact h.good.inj k q bl i m2 l p
 ·obtain⟨v,xs,g1,g2,g3,g4⟩:=h.good.own g o aY;exact⟨v,xs,g1,g2.alloc _,g3,sb ak (fun _ _ _ h=>h) g4⟩
 ·rcases r k d with rfl|⟨D,i,f⟩
  ·simp only[aZ.withBox,if_true,dv]at t;subst t;obtain⟨o,H⟩:=gd.1 aY;have:=h.good.ownLt H F ae;omega
  ·rw[f]at t;exact h.good.obx g k n v bl aY i F ae t
 ·by_cases e:k=c
  ·subst e;exact .inr P
  ·rcases h.good.one k with J|J
   ·exact .inl (by simp[aZ.withBox,e,J])
   ·exact .inr J
 ·rcases ae with⟨q,O,a2⟩|ae
  ·rcases r q O with rfl|⟨D,i,f⟩
   ·simp[aZ.withBox]at a2;subst a2;exact absurd (h.fr.trb k j _ aM).2 (Nat.lt_irrefl _)
   ·exact h.good.otr bl (.inl ⟨q,i,by rw[<-f];exact a2⟩) k j aM
  ·exact h.good.otr bl (.inr ae) k j aM
 ·rw[Below.heap_alloc w _ k (by have:=h.fr.size;omega)];exact h.fr.block k d hm
 ·obtain⟨s,A⟩:=h.fr.keep b o be;exact⟨s,(Te (h.good.alt b o s)).trans A⟩
 ·exact ak.bx _ _ trivial (h.fr.obj n b ae)
 ·have M:k≠c:=fun e=>by subst e;exact B j b ae
  obtain⟨t1,t2⟩:=h.fr.trn k j b ae;exact⟨by simp[aZ.withBox,M,t1],t2⟩
 ·obtain⟨f1,f2⟩:=E m hm;obtain⟨s,A⟩:=h.new m f1;refine⟨?_,A⟩;simp[aZ.withBox,f2,s]
 ·simp[aS,aZ.withBox]
theorem cS.setBox{C:e0}{st:bh}{a:Act}{w w':World}{Z:aZ}(h:cS C st a w Z){k:aB}{cs cs':List ah}(m:look k st.b=some cs){bl:Nat}(ae:Z.bx k=some bl){us:Array Value}{el:JV k}
  (y:w'.os=w.os) (K:w'.tape=w.tape) (L:w'.output=w.output) (f:∀j,j≠bl->w'.heap[j]? =w.heap[j]?) (q:w'.heap.size=w.heap.size) (z:w'.heap[bl]? =some (jI cs' us el.1)) (ax:iz w Z cs' us.toList):
  cS C {st with b:=cB k cs' st.b} a w' Z/\lU w Z w' Z:=by
 obtain⟨M,N,H,g1,g2,g3,g4,g5⟩:=h.good.box k cs m;rw[ae]at g1;cases g1;have ak:lU w Z w' Z:=by
  refine⟨fun b o be=>⟨be,World.cell?_of_block (f b fun e=>?_)⟩,fun _ _ _ h=>h,fun g n u _ aY=>⟨n,u,aY,.inl ⟨rfl,rfl⟩⟩,fun b o be=>wE (f b fun e=>?_),fun _ _ _ _ h=>h⟩<;>
  (subst e;exact g3 o be)
 have l:∀j,(look j (cB k cs' st.b)).isSome->(look j st.b).isSome:=by
  intro j c;rw[jG]at c;by_cases e:k=j
  ·subst e;simp[m]
  ·rwa[if_neg e]at c
 refine⟨h.over ak rfl ⟨fun b o be=>by rw[q];exact h.good.alt b o be,fun j D c=>?_,fun j t b c A=>h.good.inj j t b (l j c) (l t A),fun g o aY=>?_,h.good.oinj,fun g j n v b aY c=>h.good.obx g j n v b aY (l j c),h.good.one,fun bl ae=>h.good.otr bl (ae.imp (fun⟨k,J,U⟩=>⟨k,l k J,U⟩) id)⟩
  ⟨y.trans h.fr.os,K.trans h.fr.tape,L.trans h.fr.output,by rw[q];exact h.fr.size,fun j c hm=>?_,fun b o be=>?_,h.fr.fresh,h.fr.obj,h.fr.obn,h.fr.row,h.fr.obr,h.fr.trd,fun k j b ae=>⟨(h.fr.trb k j b ae).1,by rw[q];exact(h.fr.trb k j b ae).2⟩,h.fr.trn,fun b o be=>(ak.sh b o (h.fr.keep b o be).1).trans (h.fr.sh b o be),h.fr.nrow⟩ h.new,ak⟩
 ·simp only at c;rw[jG]at c;by_cases e:k=j
  ·rw[if_pos e]at c;cases c;subst e;exact⟨bl,us,el,ae,g2,g3,z,qE ak ax⟩
  ·rw[if_neg e]at c;obtain⟨b,F,E,i,d,s,r,B⟩:=h.good.box j D c;refine⟨b,F,E,i,d,s,?_,qE ak B⟩;rw[f b fun p=>e (h.good.inj k j bl (by simp[m]) (by simp[c]) ae (by rw[<-p];exact i))];exact r
 ·obtain⟨v,xs,i,d,s,r⟩:=h.good.own g o aY;refine⟨v,xs,i,⟨d.1,?_⟩,s,sb ak (fun _ _ _ h=>h) r⟩;rcases d.2 with d|⟨bb,cap,cur,f1,f2,f3,f4⟩
  ·exact .inl d
  ·refine .inr ⟨bb,cap,cur,f1,f2,?_,f4⟩;rw[f bb fun p=>h.good.obx g k o.n v bl (by simp[aY]) (by simp[m]) i (by rw[f1,<-p];rfl) ae];exact f3
 ·rw[f j fun e=>by subst e;exact g2.elim hm (fun g2=>Ω)];exact h.fr.block j c hm
 ·obtain⟨x,G⟩:=h.fr.keep b o be;exact⟨x,(ak.A b o x).2.trans G⟩
theorem cS.storeBox{C:e0}{st:bh}{a:Act}{w:World}{Z:aZ}(h:cS C st a w Z){k:aB}{cs cs':List ah}(c:look k st.b=some cs){bl:Nat}(ae:Z.bx k=some bl)(f:ik cs=true){us:Array Value}(ax:cW w Z cs' us.toList):
  cS C {st with b:=cB k cs' st.b} a (w.setRow bl us) Z:=by
 obtain⟨i,e,el,g1,g2,g3,g4,g5⟩:=h.good.box k cs c;rw[ae]at g1;cases g1;rw[rk f]at g4;have d:=zV ax;exact(h.setBox (w':=w.setRow bl us) c ae (us:=us) (el:=el) rfl rfl rfl (fun j g=>setRow_other w bl j us g) (setRow_size w bl us) (by rw[rk d];exact setRow_heap w bl e us el.1 _ g4) (by rw[qC d];exact ax)).1
def aZ.withRowOf(Z:aZ)(k:aB)(v:Value)(n cells:Nat):aZ:={A:=fun b o=>Z.A b o\/(v.ownBlock=some b/\o<cells),bx:=Z.bx,ow:=fun j=>if j=k then some (n,v)else Z.ow j,tr:=Z.tr}
theorem Ia{w:World}{A:Nat->Nat->Prop}{b:Nat}:∀(us:List Value) (off:Nat),(∀j u,us[j]? =some u->A b (off+j)/\w.cell? ⟨b,off+j,none⟩=some u)->ly w A b off us
 |[],_,_=>trivial
 |u::us,off,h=>⟨h 0 u rfl,Ia us (off+1) fun j x a=>by have:=h (j+1) x (by simpa using a);rwa[show off+(j+1)=off+1+j from by omega]at this⟩
theorem GJ{w w':World}(aY:w.grownBy w' none){b i:Nat}(h:b<w.heap.size):w'.cell? ⟨b,i,none⟩=w.cell? ⟨b,i,none⟩:=World.cell?_of_block (aY.block b h Ψ)
theorem cS.newRowM{C:e0}{st:bh}{a:Act}{w w':World}{Z:aZ}(h:cS C st a w Z){k:aB}{xs:List ah}(f:(Z.bx k=none/\Z.ow k=none/\∀j b,¬Z.tr k j b)\/ ∃o,look k st.e=some o/\o.n<xs.length){el sz:Nat}{v:Value}{us:List Value}
  (aY:w.grownBy w' none) (F:w'.ownsRow w.heap.size el sz v xs.length us) (ax:di w Z sz xs us) (Y:xs.length<=lim) {n':Nat} {o':List aB} (Q:∀j,fresh n' o' j->fresh st.n st.o j/\j≠k):
  cS C {st with e:=cB k ⟨xs.length,el,sz,some xs⟩ st.e,n:=n',o:=o'} a w' (Z.withOwn k xs.length v)/\
  ((∃b cap,v= .slice (some ⟨b,0,none⟩) xs.length cap)->aS w' (Z.withOwn k xs.length v) (.row sz k xs.length) v):=by
 have l:∀bl,v.ownBlock=some bl->w.heap.size<=bl/\bl<w'.heap.size:=fun bl ae=>F.lt bl ae;have ak:lU w Z w' (Z.withOwn k xs.length v):=by
  refine⟨fun b o be=>⟨be,GJ aY (h.good.alt b o be)⟩,fun j b _ z=>z,fun g n u _ y=>?_,fun b o be=>wE (aY.block b (h.good.alt b o be) Ψ),fun _ _ _ _ h=>h⟩;by_cases e:g=k
  ·subst e;rcases f with f|⟨o,ak,K⟩
   ·rw[f.2.1]at y;cases y
   ·obtain⟨v0,B,c,_⟩:=h.good.own g o ak;rw[c]at y;cases y;exact⟨xs.length,v,by simp[aZ.withOwn],.inr K⟩
  ·exact⟨n,u,by simp[aZ.withOwn,e,y],.inl ⟨rfl,rfl⟩⟩
 have A:∀g,(look g (cB k ⟨xs.length,el,sz,some xs⟩ st.e)).isSome->g=k\/(g≠k/\(look g st.e).isSome/\(Z.withOwn k xs.length v).ow g=Z.ow g):=by
  intro g M;by_cases e:g=k
  ·exact .inl e
  ·rw[jG,if_neg (k8 e)]at M;exact .inr ⟨e,M,by simp[aZ.withOwn,e]⟩
 have V:∀bl,v.ownBlock=some bl->∀j,¬Z.A bl j:=fun bl ae j be=>by have J:=h.good.alt bl j be;have:=(l bl ae).1;omega
 have L:∀j b,¬Z.tr k j b:=fun j b ae=>by
  rcases f with f|⟨o,p,_⟩
  ·exact f.2.2 j b ae
  ·obtain⟨v0,B,c,_⟩:=h.good.own k o p;rw[(h.fr.trn k j b ae).2]at c;cases c
 refine⟨h.over ak rfl ⟨fun bl o be=>?_,fun j P z=>?_,h.good.inj,fun g o r=>?_,fun g O n n' u X bl J U d i x G=>?_,fun g j n u bl J U d i x=>?_,fun j=>?_,fun bl ae t j aM=>?_⟩
  ⟨aY.os.trans h.fr.os,aY.tape.trans h.fr.tape,aY.output.trans h.fr.output,jM h.fr.size aY.size,fun j z hm=>?_,fun b o be=>?_,h.fr.fresh,h.fr.obj,h.fr.obn,fun m n u hm=>FA (h.fr.row m n u hm) (fun n u=>ak.ow _ n u trivial),h.fr.obr,h.fr.trd,fun k j b ae=>⟨(h.fr.trb k j b ae).1,Nat.lt_of_lt_of_le (h.fr.trb k j b ae).2 aY.size⟩,fun t j b ae=>?_,fun b o be=>(ak.sh b o (h.fr.keep b o be).1).trans (h.fr.sh b o be),fun j n u b c E=>?_⟩ (fun m hm=>?_) (fun m hm=>(Q m hm).1),?_⟩
 ·have:=h.good.alt bl o be;have:=aY.size;omega
 ·obtain⟨bl,bY,e9,g1,g2,g3,g4,g5⟩:=h.good.box j P z;have K:=(Array.getElem?_eq_some_iff.1 g4).1;exact⟨bl,bY,e9,g1,g2,g3,by rw[aY.block bl K Ψ];exact g4,qE ak g5⟩
 ·simp only at r;rw[jG]at r;by_cases e:k=g
  ·rw[if_pos e]at r;cases r;subst e;refine⟨v,us,by simp[aZ.withOwn],⟨F.1,?_⟩,fun bl ae=>⟨.inr (jM h.fr.size (l bl ae).1),fun j be=>absurd be (V bl ae j)⟩,fun ys S=>?_⟩
   ·rcases F.2 with c|⟨bb,cap,cur,f1,f2,f3⟩
    ·exact .inl c
    ·exact .inr ⟨bb,cap,cur,f1,Ω,f3⟩
   ·simp only[dv]at S;subst S;exact⟨rfl,Cq ak ax,V⟩
  ·rw[if_neg e]at r;obtain⟨v0,B,c,E,bj,cR⟩:=h.good.own g o r;exact⟨v0,B,by simp[aZ.withOwn,k8 e,c],E.kept aY (by cases v0.ownBlock<;>simp),bj,sb ak (fun _ _ _ h=>h) cR⟩
 ·rcases A g J with rfl|⟨N,s,q⟩<;>rcases A O U with rfl|⟨m1,m2,m3⟩
  ·rfl
  ·exfalso;simp only[aZ.withOwn,if_true,dv,hN]at d;rw[m3]at i;obtain⟨o,p⟩:=gd.1 m2;have R:=h.good.ownLt p i G;have:=(l bl (by rw[d.2];exact x)).1;omega
  ·exfalso;simp only[aZ.withOwn,if_true,dv,hN]at i;rw[q]at d;obtain⟨o,p⟩:=gd.1 s;have R:=h.good.ownLt p d x;have:=(l bl (by rw[i.2];exact G)).1;omega
  ·rw[q]at d;rw[m3]at i;exact h.good.oinj g O n n' u X bl s m2 d i x G
 ·rcases A g J with rfl|⟨N,s,q⟩
  ·simp only[aZ.withOwn,if_true,dv,hN]at d;obtain⟨P,W⟩:=gd.1 U;have R:=h.good.boxLt W x;have:=(l bl (by rw[d.2];exact i)).1;omega
  ·rw[q]at d;exact h.good.obx g j n u bl s U d i x
 ·by_cases e:j=k
  ·subst e;rcases f with f|⟨o,p,_⟩
   ·exact .inl f.1
   ·obtain⟨v0,B,c,_⟩:=h.good.own j o p;rcases h.good.one j with J|J
    ·exact .inl J
    ·rw[J]at c;cases c
  ·rcases h.good.one j with J|J
   ·exact .inl J
   ·exact .inr (by simp[aZ.withOwn,e,J])
 ·rcases ae with ae|⟨g,n,u,bF,a2,a3⟩
  ·exact h.good.otr bl (.inl ae) t j aM
  ·rcases A g bF with rfl|⟨N,s,q⟩
   ·simp only[aZ.withOwn,if_true,dv,hN]at a2;have J:=(l bl (by rw[a2.2];exact a3)).1;have U:=(h.fr.trb t j _ aM).2;omega
   ·exact h.good.otr bl (.inr ⟨g,n,u,s,by rw[<-q];exact a2,a3⟩) t j aM
 ·rw[aY.block j (by have:=h.fr.size;omega) Ψ];exact h.fr.block j z hm
 ·obtain⟨D,H⟩:=h.fr.keep b o be;exact⟨D,(ak.A b o D).2.trans H⟩
 ·have cF:t≠k:=fun e=>by subst e;exact L j b ae
  obtain⟨t1,t2⟩:=h.fr.trn t j b ae;exact⟨t1,by simp[aZ.withOwn,cF,t2]⟩
 ·by_cases e:aB.loc j=k
  ·subst e;simp only[aZ.withOwn,if_true,dv,hN]at c;exact jM h.fr.size (l b (by rw[c.2];exact E)).1
  ·simp only[aZ.withOwn,if_neg e]at c;exact h.fr.nrow j n u b c E
 ·obtain⟨f1,f2⟩:=Q m hm;obtain⟨D,H,cA⟩:=h.new m f1;refine⟨D,?_,cA⟩;simp[aZ.withOwn,f2,H]
 ·intro L6;simp only[aS];exact⟨L6,Y,xs.length,v,by simp[aZ.withOwn],eR _,fun _=>rfl⟩
theorem cS.publish{C:e0}{st:bh}{a:Act}{w:World}{Z:aZ}(h:cS C st a w Z){k:aB}{o:ec}{xs:List ah}(t:look k st.e=some o)(ab:o.xs=some xs){v:Value}(p:Z.ow k=some (o.n,v))(D:xs.length<=lim):
  cS C {st with e:=cB k ⟨o.n,o.el,o.sz,none⟩ st.e} a w (Z.withRowOf k v o.n (o.n*o.sz))/\
  aS w (Z.withRowOf k v o.n (o.n*o.sz)) (.slice o.sz (.own k) xs) v:=by
 obtain⟨v0,us,H,q,x,R⟩:=h.good.own k o t;rw[p]at H;cases H;obtain⟨E,L,r8⟩:=R xs ab;have c:∀g,(Z.withRowOf k v o.n (o.n*o.sz)).ow g=Z.ow g:=fun g=>by
  simp only[aZ.withRowOf];split
  ·rename_i e;subst e;exact p.symm
  ·rfl
 have ak:lU w Z w (Z.withRowOf k v o.n (o.n*o.sz)):=⟨fun b o be=>⟨.inl be,rfl⟩,fun j b _ f=>f,fun g n u _ M=>⟨n,u,by rw[c];exact M,.inl ⟨rfl,rfl⟩⟩,fun _ _ _=>rfl,fun _ _ _ _ h=>h⟩
 have s:∀g,(look g (cB k ⟨o.n,o.el,o.sz,none⟩ st.e)).isSome->(look g st.e).isSome:=by
  intro g K;by_cases e:k=g
  ·subst e;simp[t]
  ·rwa[jG,if_neg e]at K
 refine⟨h.over ak rfl ⟨fun bl i be=>?_,fun j P f=>?_,h.good.inj,fun g o' d=>?_,fun g B n n' u N bl J U y a6=>h.good.oinj g B n n' u N bl (s g J) (s B U) (by rwa[c]at y) (by rwa[c]at a6),fun g j n u bl J U y=>h.good.obx g j n u bl (s g J) U (by rwa[c]at y),fun j=>?_,fun bl ae=>h.good.otr bl (ae.imp id (fun⟨g,n,v,bF,a2,a3⟩=>⟨g,n,v,s g bF,by rwa[c]at a2,a3⟩))⟩
  ⟨h.fr.os,h.fr.tape,h.fr.output,h.fr.size,h.fr.block,fun b i be=>⟨.inl (h.fr.keep b i be).1,(h.fr.keep b i be).2⟩,fun b i be=>?_,h.fr.obj,h.fr.obn,fun m n u hm=>FA (h.fr.row m n u hm) (fun n u=>ak.ow _ n u trivial),h.fr.obr,h.fr.trd,h.fr.trb,fun F j b ae=>⟨(h.fr.trn F j b ae).1,by rw[c];exact(h.fr.trn F j b ae).2⟩,h.fr.sh,fun j n u b l r=>h.fr.nrow j n u b (by rw[<-c];exact l) r⟩ (fun m hm=>?_),?_⟩
 ·rcases be with be|⟨be,_⟩
  ·exact h.good.alt bl i be
  ·exact(q.lt bl be).2
 ·obtain⟨bl,X,Q,g1,g2,g3,g4,g5⟩:=h.good.box j P f;refine⟨bl,X,Q,g1,g2,fun i be=>?_,g4,qE ak g5⟩;rcases be with be|⟨be,_⟩
  ·exact g3 i be
  ·exact h.good.obx k j o.n v bl (by simp[t]) (by simp[f]) p be g1
 ·simp only at d;rw[jG]at d;by_cases e:k=g
  ·rw[if_pos e]at d;cases d;subst e;refine⟨v,us,by rw[c];exact p,q,fun bl ae=>⟨(x bl ae).1,fun j be=>?_⟩,fun ys aN=>by cases aN⟩;rcases be with be|⟨_,be⟩
   ·exact(x bl ae).2 j be
   ·exact be
  ·rw[if_neg e]at d;obtain⟨v0,O,l,r,G,S⟩:=h.good.own g o' d;have z:∀bl,v0.ownBlock=some bl->∀j,(Z.withRowOf k v o.n (o.n*o.sz)).A bl j->Z.A bl j:=fun bl ae j be=>by
    rcases be with be|⟨be,_⟩
    ·exact be
    ·exact absurd (h.good.oinj k g o.n o'.n v v0 bl (by simp[t]) (by simp[d]) p l be ae) e
   exact⟨v0,O,by rw[c];exact l,r,fun bl ae=>⟨(G bl ae).1,fun j be=>(G bl ae).2 j (z bl ae j be)⟩,sb ak z S⟩
 ·rcases h.good.one j with J|J
  ·exact .inl J
  ·exact .inr (by rw[c];exact J)
 ·rcases be with be|⟨be,_⟩
  ·exact h.fr.fresh b i be
  ·exact .inr (x b be).1
 ·obtain⟨W,Y,V⟩:=h.new m hm;exact⟨W,by rw[c];exact Y,V⟩
 ·simp only[aS];refine⟨?_,fun e=>(by cases e),fun g e=>?_,fun _ _ e=>(by cases e),fun _ e=>(by cases e)⟩
  ·rcases q.2 with⟨l,r⟩|⟨bb,cap,cur,f1,f2,f3,f4,f5,f6,f7⟩
   ·refine⟨none,0,by rw[l,E,r],Ω,⟨by simp[maxLen],D⟩,.inl (u6 Ω)⟩
   ·refine⟨some ⟨bb,0,none⟩,cap,by rw[f1,E],Ω,⟨f5,D⟩,.inr ⟨bb,0,us,rfl,Ia us 0 fun j u f=>?_,Cq ak L⟩⟩;have A:v.ownBlock=some bb:=by rw[f1];rfl
    have Bn:j<us.length:=(fy.1 f).1;refine⟨.inr ⟨A,by rw[q.1]at Bn;omega⟩,?_⟩;have:=q.cells A j u f;rwa[pt]at this
  ·cases e;exact⟨o.n,v,by rw[c];exact p,Ω,fun _=>rfl⟩
theorem aap{α:Type}(k:aB)(p q:α):∀l,cB k q (cB k p l)=cB k q l
 |[]=>by simp[cB]
 |(i,r)::l=>by
  by_cases e:i=k
  ·simp[cB,e]
  ·simp[cB,e,aap k p q l]
theorem cS.newRow{C:e0}{st:bh}{a:Act}{w w':World}{Z:aZ}(h:cS C st a w Z){k:aB}{xs:List ah}(g:(Z.bx k=none/\Z.ow k=none/\∀j b,¬Z.tr k j b)\/ ∃o,look k st.e=some o/\o.n<xs.length){el sz:Nat}{v:Value}{us:List Value}
  (aY:w.grownBy w' none) (d:w'.ownsRow w.heap.size el sz v xs.length us) (ax:di w Z sz xs us) (c:xs.length<=lim) {n':Nat} {o':List aB} (f:∀j,fresh n' o' j->fresh st.n st.o j/\j≠k):
  cS C {st with e:=cB k ⟨xs.length,el,sz,none⟩ st.e,n:=n',o:=o'} a w' ((Z.withOwn k xs.length v).withRowOf k v xs.length (xs.length*sz))/\
  aS w' ((Z.withOwn k xs.length v).withRowOf k v xs.length (xs.length*sz)) (.slice sz (.own k) xs) v:=by
 have J:=(h.newRowM g aY d ax c f).1;have U:=J.publish (k:=k) (o:=⟨xs.length,el,sz,some xs⟩) (xs:=xs) (v:=v) (by simp[jG]) rfl (by simp[aZ.withOwn]) c;simpa only[aap]using U
theorem cS.setRowM{C:e0}{st:bh}{a:Act}{w w':World}{Z:aZ}(h:cS C st a w Z){k:aB}{o:ec}{xs xs':List ah}(G:look k st.e=some o)(ab:o.xs=some xs){bl:Nat}{v v':Value}(c:Z.ow k=some (o.n,v))(d:v.ownBlock=some bl)(A:v'.ownBlock=some bl)
  (az:(xs'.length=o.n/\v'=v)\/o.n<xs'.length) {us:List Value} (xv:w'.os=w.os) (Es:w'.tape=w.tape) (Eh:w'.output=w.output) (s:∀j,j≠bl->w'.heap[j]? =w.heap[j]?) (K:w'.heap.size=w.heap.size)
  (R:w'.ownsRow 0 o.el o.sz v' xs'.length us) (ax:di w Z o.sz xs' us):
  cS C {st with e:=cB k ⟨xs'.length,o.el,o.sz,some xs'⟩ st.e} a w' (Z.withOwn k xs'.length v')/\lU w Z w' (Z.withOwn k xs'.length v')/\(xs'.length<=lim->aS w' (Z.withOwn k xs'.length v') (.row o.sz k xs'.length) v'):=by
 obtain⟨v0,V,a8,bA,X,cY⟩:=h.good.own k o G;rw[c]at a8;cases a8;obtain⟨da,kG,B⟩:=cY xs ab;have ak:lU w Z w' (Z.withOwn k xs'.length v'):=by
  refine⟨fun b i be=>⟨be,World.cell?_of_block (s b fun e=>by subst e;exact B b d i be)⟩,fun j b _ r=>r,fun g n u _ f=>?_,fun b i be=>wE (s b fun e=>by subst e;exact B b d i be),fun _ _ _ _ h=>h⟩;by_cases e:g=k
  ·subst e;rw[c]at f;cases f;refine⟨xs'.length,v',by simp[aZ.withOwn],?_⟩;rcases az with⟨J,U⟩|J
   ·exact .inl ⟨J,U⟩
   ·exact .inr J
  ·exact⟨n,u,by simp[aZ.withOwn,e,f],.inl ⟨rfl,rfl⟩⟩
 have D:∀g n u,(look g (cB k ⟨xs'.length,o.el,o.sz,some xs'⟩ st.e)).isSome->(Z.withOwn k xs'.length v').ow g=some (n,u)->∀b,u.ownBlock=some b->(look g st.e).isSome/\∃n u,Z.ow g=some (n,u)/\u.ownBlock=some b:=by
  intro g n u Q f b ae;by_cases e:g=k
  ·subst e;simp only[aZ.withOwn,if_true,dv,hN]at f;rw[<-f.2,A]at ae;cases ae;exact⟨by simp[G],o.n,v,c,d⟩
  ·rw[jG,if_neg (k8 e)]at Q;simp only[aZ.withOwn,e,if_false]at f;exact⟨Q,n,u,f,ae⟩
 refine⟨h.over ak rfl ⟨fun b i be=>by rw[K];exact h.good.alt b i be,fun j en r=>?_,h.good.inj,fun g o' p=>?_,fun g S n n' u fp b J U O P M dk=>?_,fun g j n u b J U O P M=>?_,fun j=>?_,fun b ae=>h.good.otr b (ae.imp id (fun⟨g,n,v,z,a2,a3⟩=>by obtain⟨L,x,t,N,H⟩:=D g n v z a2 b a3;exact⟨g,x,t,L,N,H⟩))⟩
  ⟨xv.trans h.fr.os,Es.trans h.fr.tape,Eh.trans h.fr.output,by rw[K];exact h.fr.size,fun j r hm=>?_,fun b i be=>?_,h.fr.fresh,h.fr.obj,h.fr.obn,fun m n u hm=>FA (h.fr.row m n u hm) (fun n u=>ak.ow _ n u trivial),h.fr.obr,h.fr.trd,fun k j b ae=>⟨(h.fr.trb k j b ae).1,by rw[K];exact(h.fr.trb k j b ae).2⟩,fun W j b ae=>?_,fun b o be=>(ak.sh b o (h.fr.keep b o be).1).trans (h.fr.sh b o be),fun j n u b q l=>(by
   by_cases e:aB.loc j=k
   ·subst e;simp only[aZ.withOwn,if_true,dv,hN]at q;rw[<-q.2,A]at l;cases l;exact h.fr.nrow j o.n v bl c d
   ·simp only[aZ.withOwn,if_neg e]at q;exact h.fr.nrow j n u b q l)⟩ (fun m hm=>?_),ak,?_⟩
 ·obtain⟨b,bY,e9,g1,g2,g3,g4,g5⟩:=h.good.box j en r;have y:b≠bl:=fun e=>h.good.obx k j o.n _ bl (by simp[G]) (by simp[r]) c d (by rw[<-e];exact g1);exact⟨b,bY,e9,g1,g2,g3,by rw[s b y];exact g4,qE ak g5⟩
 ·simp only at p;rw[jG]at p;by_cases e:k=g
  ·rw[if_pos e]at p;cases p;subst e;refine⟨v',us,by simp[aZ.withOwn],R,fun b ae=>?_,fun ys Y=>?_⟩
   ·rw[A]at ae;cases ae;exact⟨(X bl d).1,fun j be=>absurd be (B bl d j)⟩
   ·simp only[dv]at Y;subst Y;exact⟨rfl,Cq ak ax,fun b ae=>by rw[A]at ae;cases ae;exact B bl d⟩
  ·rw[if_neg e]at p;obtain⟨v0,V,q,l,bj,cR⟩:=h.good.own g o' p;have y:∀b,v0.ownBlock=some b->b≠bl:=fun b ae K0=>e (h.good.oinj k g o.n o'.n _ v0 bl (by simp[G]) (by simp[p]) c q d (by rw[<-K0];exact ae));refine⟨v0,V,by simp[aZ.withOwn,k8 e,q],⟨l.1,?_⟩,bj,sb ak (fun _ _ _ h=>h) cR⟩;rcases l.2 with l|⟨bb,yE,nn,f1,f2,f3,f4⟩
   ·exact .inl l
   ·exact .inr ⟨bb,yE,nn,f1,f2,by rw[s bb (y bb (by rw[f1];rfl))];exact f3,f4⟩
 ·obtain⟨z,x,t,a2,a3⟩:=D g n u J O b M;obtain⟨L,fU,jq,N,H⟩:=D S n' fp U P b dk;exact h.good.oinj g S x fU t jq b z L a2 N a3 H
 ·obtain⟨z,x,t,a2,a3⟩:=D g n u J O b P;exact h.good.obx g j x t b z U a2 a3 M
 ·by_cases e:j=k
  ·subst e;rcases h.good.one j with J|J
   ·exact .inl J
   ·rw[J]at c;cases c
  ·rcases h.good.one j with J|J
   ·exact .inl J
   ·exact .inr (by simp[aZ.withOwn,e,J])
 ·rw[s j fun e=>by subst e;exact(X j d).1.elim hm (fun g2=>Ω)];exact h.fr.block j r hm
 ·obtain⟨E,F⟩:=h.fr.keep b i be;exact⟨E,(ak.A b i E).2.trans F⟩
 ·obtain⟨t1,t2⟩:=h.fr.trn W j b ae;have y:W≠k:=fun e=>by subst e;rw[t2]at c;cases c
  exact⟨t1,by simp[aZ.withOwn,y,t2]⟩
 ·obtain⟨E,F,cA⟩:=h.new m hm;refine⟨E,?_,cA⟩;have:m≠k:=fun e=>by subst e;rw[F]at c;cases c
  simp[aZ.withOwn,this,F]
 ·intro eH;simp only[aS];obtain⟨cap,L6⟩:=Yj R A;exact⟨⟨bl,cap,L6⟩,eH,xs'.length,v',by simp[aZ.withOwn],eR _,fun _=>rfl⟩
end
end Go.Pv
