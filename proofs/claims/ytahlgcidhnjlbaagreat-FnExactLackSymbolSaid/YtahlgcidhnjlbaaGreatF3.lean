/- Contracts of pattern-defeating quicksort: the heap, the reversal, the insertion. -/
import Derived.Test.YtahlgcidhnjlbaaGreatProg
import Derived.Shelf.Sort.Plain
import Derived.Ground.NamesProg
import Derived.Sort.OwnSortedInts
import Derived.Lib.OwnBridge
import Derived.Sort.AssemblyPlain
import Derived.Sort.LotD5
import Derived.Test.YtahlgcidhnjlbaaGreatF2
set_option linter.all false
set_option maxHeartbeats 4000000
set_option maxRecDepth 4000
open Bool renaming and_eq_true->cR,eq_iff_iff->q2,false_eq_true->hT,or_eq_true->og
open Go renaming Program->cI
open Go.IntKind renaming bits->ps,i64->vo,signed->uc,u64->im,wrap->ud
open Go.IntWalk renaming i64_in->pt
open Go.Op renaming bytesLess->iw
open Go.Proofs.Tryz renaming prog->au
open Go.Value renaming cells->pw
open List renaming all_eq_true->j7,cons_append->b6,drop->oV,drop_eq_getElem_cons->lH,getElem?_append_left->rS,getElem?_append_right->vp,getElem?_eq_getElem->cl,getElem?_eq_none->q3,getElem?_eq_some_iff->fH,getElem_of_mem->pA,length_append->qe,length_cons->mw,length_drop->uf,map_cons->ha,mem_append->kg,mem_cons->gJ,mem_filter->oW,mem_map->hb,mem_of_getElem?->ft,nil_append->ca,pairwise_cons->oh,pairwise_iff_getElem->q4,take_of_length_le->ix
open List.Nodup renaming length_le_of_subset->Rf
open List.Pairwise renaming filter->adk,imp_of_mem->atG,sublist->ays
open List.Perm renaming eq_of_pairwise->Rg,swap->ayt
open List.cons renaming injEq->rR
open Nat renaming le_refl->dP,le_trans->kE
open Option renaming bind_eq_some_iff->mY,getD_none->k5,getD_some->lJ,map_eq_some_iff->hs,map_some->pB
open Option.some renaming inj->e7,injEq->dU
open Prod.mk renaming injEq->js
open _root_ renaming False->er,Option->be,UInt8->cJ,beq_iff_eq->ey,congrArg->fy,decide_eq_false->mx,decide_eq_false_iff_not->iR,decide_eq_true->lK,decide_eq_true_eq->gz,eq_true->h4
namespace Go.Pv
section
open Go
structure bJ where
 v:Int
 k:Int
 deriving DecidableEq,Inhabited
def bJ.e(b:bJ):af:= .agg [.int .i64 b.v,.int .i64 b.k]
@[simp]def bJ.eta(b:bJ):bJ.mk b.v b.k=b:=rfl
@[simp]def Rx(v k:Int):af.agg [.int .i64 v,.int .i64 k]=(bJ.mk v k).e:=rfl
@[simp]def awb(S:aB->Prop)(b:bJ):az S b.e=True:=by simp[bJ.e,-Rx]
@[simp]def ax2(b:bJ):b7 b.e=b.e:=by simp[bJ.e,-Rx]
def XU(S:aB->Prop):∀l:List bJ,aH S (l.map bJ.e)
 |[]=>by simp[aH]
 |x::xs=>by simp[aH,XU S xs]
@[simp]def avU(S:aB->Prop)(l:List bJ):aH S (l.map bJ.e)=True:=h4 (XU S l)
@[simp]def Qu:∀l:List bJ,cf (l.map bJ.e)=l.map bJ.e
 |[]=>rfl
 |x::xs=>by simp[cf,Qu xs]
@[simp]def axE(b:bJ):eU b.e=true:=rfl
@[simp]def aum(b:bJ):cells b.e=[.int .i64 b.v,.int .i64 b.k]:=rfl
@[simp]def avD(b:bJ):qJ 2 b.e:=⟨_,rfl,rfl⟩
@[simp]def au0(off:Nat)(a:Bool)(sz:Nat)(b:bJ):vP off a sz b.e=if a then some (off+sz<=2,.agg (([.int .i64 b.v,.int .i64 b.k].drop off).take sz))else(([.int .i64 b.v,.int .i64 b.k]:List af)[off]?).map fun p=>(True,p):=rfl
@[simp]def auS(off:Nat)(a:Bool)(sz:Nat)(b:bJ):sX off a sz (.eptr b.e)=if a then some (off+sz<=2,.eptr (.agg (([.int .i64 b.v,.int .i64 b.k].drop off).take sz)))else(([.int .i64 b.v,.int .i64 b.k]:List af)[off]?).map fun p=>(eU p=true/\cells p=[p],.eptr p):=rfl
structure bn where
 v:Int
 s:List cJ
 deriving DecidableEq,Inhabited
def bn.e(b:bn):af:= .agg [.int .i64 b.v,.str b.s]
@[simp]def bn.eta(b:bn):bn.mk b.v b.s=b:=rfl
@[simp]def KR(v:Int)(s:List cJ):af.agg [.int .i64 v,.str s]=(bn.mk v s).e:=rfl
@[simp]def al8(S:aB->Prop)(b:bn):az S b.e=True:=by simp[bn.e,-KR]
@[simp]def ax6(b:bn):b7 b.e=b.e:=by simp[bn.e,-KR]
def N5(S:aB->Prop):∀l:List bn,aH S (l.map bn.e)
 |[]=>by simp[aH]
 |x::xs=>by simp[aH,N5 S xs]
@[simp]def XW(S:aB->Prop)(l:List bn):aH S (l.map bn.e)=True:=h4 (N5 S l)
@[simp]def Qv:∀l:List bn,cf (l.map bn.e)=l.map bn.e
 |[]=>rfl
 |x::xs=>by simp[cf,Qv xs]
@[simp]def axG(b:bn):eU b.e=true:=rfl
@[simp]def auo(b:bn):cells b.e=[.int .i64 b.v,.str b.s]:=rfl
@[simp]def avF(b:bn):qJ 2 b.e:=⟨_,rfl,rfl⟩
@[simp]def au1(off:Nat)(a:Bool)(sz:Nat)(b:bn):vP off a sz b.e=if a then some (off+sz<=2,.agg (([.int .i64 b.v,.str b.s].drop off).take sz))else(([.int .i64 b.v,.str b.s]:List af)[off]?).map fun p=>(True,p):=rfl
@[simp]def auT(off:Nat)(a:Bool)(sz:Nat)(b:bn):sX off a sz (.eptr b.e)=if a then some (off+sz<=2,.eptr (.agg (([.int .i64 b.v,.str b.s].drop off).take sz)))else(([.int .i64 b.v,.str b.s]:List af)[off]?).map fun p=>(eU p=true/\cells p=[p],.eptr p):=rfl
def gf(x y:bn):Int:=if fb x.v y.v=0 then lA x.s y.s else fb x.v y.v
def mR:kj gf:=by
 refine⟨fun x y=>?_,fun x y z J U=>?_,fun x y=>?_⟩
 ·unfold gf;have:=k2.neg x.v y.v;have:=Fo.neg x.s y.s;by_cases e:fb x.v y.v=0
  ·rw[if_pos e,if_pos Ω];omega
  ·rw[if_neg e,if_neg Ω];omega
 ·unfold gf at J U⊢;by_cases b:fb x.v y.v=0
  ·rw[if_pos b]at J;rw[(k2.zero _ _).1 b];by_cases a:fb y.v z.v=0
   ·rw[if_pos a]at U⊢;exact Fo.tr _ _ _ J U
   ·rw[if_neg a]at U⊢;exact U
  ·rw[if_neg b]at J;have c:fb x.v y.v<0:=Ω
   by_cases a:fb y.v z.v=0
   ·rw[<-(k2.zero _ _).1 a,if_neg b];exact J
   ·rw[if_neg a]at U;have:=k2.ltr c U;rw[if_neg Ω];omega
 ·unfold gf;by_cases e:fb x.v y.v=0
  ·rw[if_pos e,Fo.zero];have:=(k2.zero _ _).1 e;cases x;cases y;simp_all
  ·rw[if_neg e];exact⟨fun h=>absurd h e,fun h=>by rw[h]at e;exact absurd (k2.refl _) e⟩
def u7(x y:bn):Bool:=decide (x.v<y.v)||(x.v==y.v&&iw x.s y.s)
def aef(a:List cJ):iw a a=false:=by
 cases h:iw a a with
 |false=>rfl
 |true=>rw[K0 a a h]at h;cases h
def YW(x y:bn):u7 x y=iP gf x y:=by
 unfold u7 iP gf;rw[q2];simp only[og,gz,cR,ey];by_cases e:x.v=y.v
 ·have:fb x.v y.v=0:=(k2.zero _ _).2 e;rw[if_pos this];simp only[e,Int.lt_irrefl,false_or,true_and,lA];by_cases a:x.s=y.s
  ·rw[if_pos a,a,aef];simp
  ·rw[if_neg a];split<;>simp_all
 ·have b:¬fb x.v y.v=0:=fun h=>e ((k2.zero _ _).1 h);rw[if_neg b];simp only[e,false_and,or_false];unfold fb;(repeat' split)<;>omega
def jh{α:Type}(p:α->Prop)(r:α->α->Prop)(l:List α)(i:Nat):Prop:= ∀b,l[i]? =some b->p b/\∀c,0<i->l[i-1]? =some c->r c b
def Rt{α:Type}{p:α->Prop}{r:α->α->Prop}(n:∀a b c,r a b->r b c->r a c){l:List α}:(∀i,i<l.length->jh p r l i)↔(∀b∈l,p b)/\l.Pairwise r:=by
 constructor
 ·intro h;refine⟨fun b f=>?_,?_⟩
  ·obtain⟨i,hi,e⟩:=pA f;exact(h i hi b (by rw[cl hi,e])).1
  ·rw[q4];have g:∀i (h:i+1<l.length),r l[i] l[i+1]:=fun i hi=>(h (i+1) hi l[i+1] (by simp[cl hi])).2 l[i] Ω (by simp[cl (show i<l.length by omega)]);have:∀(d i:Nat) (h:i+d+1<l.length),r l[i] l[i+d+1]:=by
    intro d;induction d with
    |zero=>intro i h;exact g i h
    |succ d k=>intro i h;exact n _ _ _ (k i Ω) (g (i+d+1) Ω)
   intro i j hi t q;have:=this (j-i-1) i Ω;simpa[show i+(j-i-1)+1=j from by omega]using this
 ·rintro⟨J,U⟩ i hi b f;refine⟨J b (ft f),fun c s aw=>?_⟩;obtain⟨g1,m⟩:=fH.1 aw;obtain⟨g2,o⟩:=fH.1 f;have:=q4.1 U (i-1) i g1 g2 Ω;rw[m,o]at this;exact this
def kX{α:Type}(c:α->α->Int)(x:α):List α->List α
 |[]=>[x]
 |y::l=>if c y x<0 then y::kX c x l else if c y x=0 then y::l else x::y::l
section
variable {α:Type} {c:α->α->Int}
def IQ(aw:kj c){x z:α}:∀{l:List α},z∈kX c x l↔z=x\/z∈l
 |[]=>by simp[kX]
 |y::l=>by
  simp only[kX];split
  ·simp only[gJ,IQ aw (l:=l)];constructor
   ·rintro(h|h|h)
    ·exact .inr (.inl h)
    ·exact .inl h
    ·exact .inr (.inr h)
   ·rintro(h|h|h)
    ·exact .inr (.inl h)
    ·exact .inl h
    ·exact .inr (.inr h)
  ·split
   ·rename_i h;obtain rfl:=(aw.zero _ _).1 h;simp
   ·simp
def NL(aw:kj c){x:α}:∀{l:List α},iS c l->iS c (kX c x l)
 |[],_=>by simp[kX,iS]
 |y::l,h=>by
  obtain⟨J,U⟩:=oh.1 h;simp only[kX];split
  ·rename_i d;refine oh.2 ⟨fun z a=>?_,NL aw U⟩;rcases(IQ aw).1 a with rfl|a
   ·exact d
   ·exact J z a
  ·split
   ·exact h
   ·rename_i d e;have b:c x y<0:=by have:=aw.neg x y;omega
    refine oh.2 ⟨fun z a=>?_,h⟩;rcases gJ.1 a with rfl|a
    ·exact b
    ·exact aw.ltr b (by have:=J z a;omega)
def NN(x:α):∀l:List α,(kX c x l).length<=l.length+1
 |[]=>by simp[kX]
 |y::l=>by
  have:=NN x l;simp only[kX];split
  ·simp;omega
  ·split<;>simp
def NM(aw:kj c)(x:α):∀(l:List α) (k:Nat),(∀i y,i<k->l[i]? =some y->c y x<0)->(∀y,l[k]? =some y->0<=c y x)->k<=l.length->kX c x l=if(match l[k]? with|some y=>decide (c y x=0)|none=>false)=true then l else l.take k++x::l.drop k
 |[],k,_,_,ab=>by simp at ab;subst ab;simp[kX]
 |y::l,0,_,U,_=>by
  have:=U y rfl;by_cases e:c y x=0
  ·simp[kX,e]
  ·have f:¬c y x<0:=Ω
   simp[kX,f,e]
 |y::l,k+1,J,U,ab=>by
  have b:=J 0 y Ω rfl;simp only[kX,if_pos b,List.take_succ_cons,List.drop_succ_cons,b6,List.getElem?_cons_succ];rw[NM aw x l k (fun i d hi a=>J (i+1) d Ω (by simpa using a)) (fun d a=>U d (by simpa using a)) (by simpa using ab)];cases l[k]? with
  |none=>rfl
  |some z=>simp only[];split<;>rfl
end
structure jR (l:List bJ):Prop where
 at':∀x∈l,(0<=x.v/\x.v<=100000)/\(x.k=2\/x.k=3)
 asc:l.Pairwise fun x y=>x.v<y.v
def nx(l:List bJ)(v:Int):be Int:=(l.find? fun x=>x.v==v).map (·.k)
def nu(x:bJ):List bJ->List bJ
 |[]=>[x]
 |y::l=>if y.v<x.v then y::nu x l else x::y::l
def IS{x z:bJ}:∀{l:List bJ},z∈nu x l↔z=x\/z∈l
 |[]=>by simp[nu]
 |y::l=>by
  simp only[nu];split
  ·simp only[gJ,IS (l:=l)];constructor
   ·rintro(h|h|h)
    ·exact .inr (.inl h)
    ·exact .inl h
    ·exact .inr (.inr h)
   ·rintro(h|h|h)
    ·exact .inr (.inl h)
    ·exact .inl h
    ·exact .inr (.inr h)
  ·simp
def Xm(x:bJ):∀l:List bJ,(nu x l).Perm (x::l)
 |[]=>.refl _
 |y::l=>by
  simp only[nu];split
  ·exact((Xm x l).cons y).trans (ayt _ _ _)
  ·exact .refl _
def NO{x:bJ}:∀{l:List bJ},l.Pairwise (fun x y=>x.v<y.v)->(∀y∈l,y.v≠x.v)->(nu x l).Pairwise fun x y=>x.v<y.v
 |[],_,_=>by simp[nu]
 |y::l,h,b=>by
  obtain⟨J,U⟩:=oh.1 h;have d:=b y Ψ;simp only[nu];split
  ·rename_i c;refine oh.2 ⟨fun z a=>?_,NO U fun z a=>b z (by simp[a])⟩;rcases IS.1 a with rfl|a
   ·exact c
   ·exact J z a
  ·refine oh.2 ⟨fun z a=>?_,h⟩;rcases gJ.1 a with rfl|a
   ·omega
   ·have:=J z a;omega
def Xk(x:bJ):∀(l:List bJ) (k:Nat),(∀i y,i<k->l[i]? =some y->y.v<x.v)->(∀y,l[k]? =some y->¬y.v<x.v)->k<=l.length->nu x l=l.take k++x::l.drop k
 |[],k,_,_,ab=>by simp at ab;subst ab;rfl
 |y::l,0,_,U,_=>by have:=U y rfl;simp[nu,this]
 |y::l,k+1,J,U,ab=>by have b:=J 0 y Ω rfl;simp only[nu,if_pos b,List.take_succ_cons,List.drop_succ_cons,b6];rw[Xk x l k (fun i d hi a=>J (i+1) d Ω (by simpa using a)) (fun d a=>U d (by simpa using a)) (by simpa using ab)]
def al0{l a:List bJ}(b:a.Perm l)(d:l.Pairwise fun x y=>x.v<y.v)(g:a.Pairwise fun x y=>decide (y.v<x.v)=false):a=l:=by
 refine Rg (le:=fun x y:bJ=>x.v<=y.v) (fun x y k m J U=>?_) (g.imp Ψ) (d.imp Ω) b;have f:x∈l:=b.mem_iff.1 k;have e:y∈l:=m;obtain⟨i,hi,rfl⟩:=pA f;obtain⟨j,c,rfl⟩:=pA e;have:=q4.1 d;rcases Nat.lt_trichotomy i j with h|h|h
 ·have:=this i j hi c h;omega
 ·subst h;rfl
 ·have:=this j i c hi h;omega
def ET{l:List bJ}{v:Int}:nx l v=none↔∀x∈l,x.v≠v:=by simp[nx]
def XM{l:List bJ}{v k:Int}(h:nx l v=some k):(⟨v,k⟩:bJ)∈l:=by unfold nx at h;rw[hs]at h;obtain⟨x,J,rfl⟩:=h;have U:=List.find?_some J;simp at U;subst U;exact List.mem_of_find?_eq_some J
def N0{l:List bJ}(a:l.Pairwise fun x y=>x.v<y.v){x:bJ}(h:x∈l):nx l x.v=some x.k:=by
 induction l with
 |nil=>simp at h
 |cons y l b=>
  obtain⟨J,U⟩:=oh.1 a;rcases gJ.1 h with rfl|h
  ·simp[nx]
  ·have:=J x h;have e:=b U h;unfold nx at e⊢;rw[List.find?_cons_of_neg d6];exact e
def k6(l:List bJ)(t:T)(k:Int):be (List bJ):=match t with
 | .var n=>match nx l n with
  |some bs=>if bs=k then some l else none
  |none=>some (nu ⟨n,k⟩ l)
 |t=>if t.kind=k then some l else none
def KN{l b:List bJ}{t:T}{k:Int}(h:jR l)(d:t.ok=true)(ab:k=2\/k=3)(he:k6 l t k=some b):jR b:=by
 unfold k6 at he;split at he
 ·rename_i n;split at he
  ·split at he
   ·cases he;exact h
   ·cases he
  ·rename_i c;cases he;rw[ET]at c;refine⟨fun x a=>?_,NO h.asc c⟩;rcases IS.1 a with rfl|a
   ·exact⟨by simpa[T.ok]using d,ab⟩
   ·exact h.at' x a
 ·split at he
  ·cases he;exact h
  ·cases he
def tB{l:List bJ}(h:jR l):l.length<=100001:=by
 have J:(l.map (·.v)).Nodup:=by rw[List.nodup_iff_pairwise_ne,List.pairwise_map];exact h.asc.imp fun h e=>Ω
 have:=XK J fun v b=>by obtain⟨x,a,rfl⟩:=hb.1 b;exact(h.at' x a).1
 simpa using this
def gU(s:List Bd):List bJ->List bJ->be (List bJ)
 |[],acc=>some acc
 |x::r,acc=>match k6 acc (cC s x.v) x.k with
  |some a=>gU s r a
  |none=>none
structure iv (l:List bn):Prop where
 at':∀x∈l,(0<=x.v/\x.v<=100000)/\ib x.s=true
 asc:iS gf l
def _root_.Go.Pv.T.has(s:List cJ):T->Bool
 | .sym n=>n==s
 | .pair a b=>a.has s||b.has s
 |_=>false
def ko(l:List bn)(t:T)(s:List cJ):be (List bn):=if t.has s then none else some (asc gf (l++(oT t).map fun v=>⟨v,s⟩))
def Gc{t:T}{v:Int}:v∈oT t↔t.occ v=true:=by
 refine⟨fun h=>?_,zO⟩;induction t with
 |var n=>simp[oT]at h;simp[T.occ,h]
 |pair a b d c=>simp only[oT,kg]at h;simp only[T.occ,og];exact h.imp d c
 |_=>simp[oT]at h
def B8{l a:List bn}{t:T}{s:List cJ}(h:ko l t s=some a)(x:bn):x∈a↔x∈l\/(x.s=s/\t.occ x.v=true):=by
 unfold ko at h;split at h
 ·cases h
 ·cases h;rw[Yw,kg,hb];refine or_congr_right ?_;constructor
  ·rintro⟨v,b,rfl⟩;exact⟨rfl,Gc.1 b⟩
  ·rintro⟨J,U⟩;exact⟨x.v,Gc.2 U,by rw[<-J]⟩
def KO{l a:List bn}{t:T}{s:List cJ}(b:t.has s=false)(c:iS gf a)(hm:∀x,x∈a↔x∈l\/(x.s=s/\t.occ x.v=true)):ko l t s=some a:=by
 have h:ko l t s=some (asc gf (l++(oT t).map fun v=>⟨v,s⟩)):=by unfold ko;rw[b];rfl
 rw[h];congr 1;exact(KS mR _).ext mR c fun x=>by rw[hm,<-B8 h]
def Gz{l a:List bn}{t:T}{s:List cJ}(h:iv l)(d:t.ok=true)(b:ib s=true)(he:ko l t s=some a):iv a:=by
 refine⟨fun x c=>?_,?_⟩
 ·rcases(B8 he x).1 c with J|⟨J,U⟩
  ·exact h.at' x J
  ·exact⟨yw d U,by rw[J];exact b⟩
 ·unfold ko at he;split at he
  ·cases he
  ·cases he;exact KS mR _
def gZ(s:List Bd):List bn->List bn->be (List bn)
 |[],acc=>some acc
 |x::r,acc=>match ko acc (cC s x.v) x.s with
  |some a=>gZ s r a
  |none=>none
end
end Go.Pv
namespace Go.Proofs.YtahlgcidhnjlbaaGreat
section
open Go Go.Pv
def Sd:C:=(aa [c0 1 0,bz 2 false] (aa [bk 3 4 1,dT 4 131 [.t 3,(gV 5000)],aV 5 .gtr 4 0,I 2 5] .ret))
def SC:C:=(aa [dt (.box 2 (some 201) (.t 0)),c0 3 1,dI 4 eC,bz 5 false] (aa [bk 6 4 3,cb 7 (.mkf 138 [.t 2]),cc 8 137 6 7,cV 9 0 8,cV 10 1 8,bV 4 4 9,I 5 10] .ret))
def TI:C:=(aa [dI 2 eC] (aa [I 3 0,jr 4 eC [(0,1,(gV 1)),(1,1,(.t 3))],bV 4 2 4] .ret))
def AU:C:=(aa [c0 1 0,dI 2 eC] (aa [aF 6 0 1 1,ay 7 1 6,aF 8 1 1 1,ay 9 1 8,aF 10 2 1 1,ay 11 1 10,jr 12 eC [(0,1,(.t 7)),(1,1,(.t 9)),(2,1,(.t 11))],dI 3 eC,bV 4 3 12] (.seq (aa [aF 13 3 1 1,ay 14 1 13,cw 15 14,bQ 16 0] (gx 17 16 15 (.seq (.block 1 (aa [ck 18 4 14 16,bk 19 4 18,dI 5 eC,bV 4 5 19] (.drawn true 29 [aF 20 3 1 3,ay 21 1 20,bk 22 4 5,cY 23 130 22,fe 24 4 30 [.t 23],h3 25 4 30 21 24,aF 26 3 1 3,bV 1 26 25]))) (.region [aV 27 .add 16 1,I 16 27])))) (aa [bk 28 4 3,bV 4 2 28] .ret))))
def Sy:C:=(aa [c0 2 0,bQ 4 0] (.seq (aa [I 7 1,aV 8 .lss 7 1] (aW 8 (aa [bQ 4 (-1)] .ret) .skip)) (.seq (aa [aF 9 0 1 2,ay 10 1 9,aV 11 .neq 10 4] (aW 11 (.seq (aa [aF 12 3 1 2,ay 13 1 12,cw 14 13,aV 15 .neq 14 0] (aW 15 (aa [bQ 4 (-1)] .ret) .skip)) (.seq (aa [aF 16 0 1 2,ay 17 1 16] (.block 0 (aa [aV 19 .eql 17 0,I 18 19] (aW 18 (aa [aF 20 1 1 2,ay 21 1 20,aV 22 .neq 21 0,I 23 22,ax 23 false (aF 24 2 1 2),ax 23 false (ay 25 1 24),yz 23 false 26 (.bin .neq false (.t 25) (.c (.str []))),ds 27 23 26] (aW 27 (aa [bQ 4 (-1)] .ret) .skip)) (aa [aV 29 .eql 17 1,I 28 29] (aW 28 (aa [aF 30 1 1 2,ay 31 1 30,aV 32 .lss 31 0,I 33 32,ax 33 false (aF 34 1 1 2),ax 33 false (ay 35 1 34),ax 33 false (aV 36 .gtr 35 100000),ds 37 33 36,I 38 37,ax 38 false (aF 39 2 1 2),ax 38 false (ay 40 1 39),yz 38 false 41 (.bin .neq false (.t 40) (.c (.str []))),ds 42 38 41] (aW 42 (aa [bQ 4 (-1)] .ret) .skip)) (aa [aV 44 .eql 17 2,I 43 44] (aW 43 (aa [aF 45 1 1 2,ay 46 1 45,aV 47 .neq 46 0,I 48 47,ax 48 false (aF 49 2 1 2),ax 48 false (ay 50 1 49),ax 48 false (cY 51 160 50),ax 48 false (cO 52 51),ds 53 48 52] (aW 53 (aa [bQ 4 (-1)] .ret) .skip)) (aa [aV 55 .eql 17 3,I 54 55] (aW 54 (aa [aF 56 1 1 2,ay 57 1 56,aV 58 .lss 57 (-1000000000),I 59 58,ax 59 false (aF 60 1 1 2),ax 59 false (ay 61 1 60),ax 59 false (aV 62 .gtr 61 1000000000),ds 63 59 62,I 64 63,ax 64 false (aF 65 2 1 2),ax 64 false (ay 66 1 65),yz 64 false 67 (.bin .neq false (.t 66) (.c (.str []))),ds 68 64 67] (aW 68 (aa [bQ 4 (-1)] .ret) .skip)) (aa [bQ 4 (-1)] .ret))))))))))) (aa [bQ 4 1] .ret))) .skip)) (.seq (aa [aF 69 1 1 2,ay 70 1 69,aV 71 .neq 70 0,I 72 71,ax 72 false (aF 73 2 1 2),ax 72 false (ay 74 1 73),yz 72 false 75 (.bin .neq false (.t 74) (.c (.str []))),ds 76 72 75,I 77 76,ax 77 false (aF 78 3 1 2),ax 77 false (ay 79 1 78),ax 77 false (cw 80 79),ax 77 false (aV 81 .neq 80 2),ds 82 77 81] (aW 82 (aa [bQ 4 (-1)] .ret) .skip)) (aa [aF 83 3 1 2,ay 84 1 83,kC 85 4 84 0,bk 86 4 85,I 87 1,aV 88 .sub 87 1,cc 89 131 86 88,I 5 89] (.seq (aa [I 90 5,aV 91 .lss 90 0] (aW 91 (aa [bQ 4 (-1)] .ret) .skip)) (aa [aF 92 3 1 2,ay 93 1 92,kC 94 4 93 1,bk 95 4 94,I 96 1,aV 97 .sub 96 1,I 98 5,bu 99 .sub 97 98,cc 100 131 95 99,I 6 100] (.seq (aa [I 101 6,aV 102 .lss 101 0] (aW 102 (aa [bQ 4 (-1)] .ret) .skip)) (aa [I 103 5,cb 104 (.bin .add false (gV 1) (.t 103)),I 105 6,bu 106 .add 104 105,I 4 106] .ret)))))))))
def GO:C:=(aa [c0 2 0,c0 3 1,bQ 4 0] (.seq (aa [aF 6 0 1 2,ay 7 1 6,aF 8 0 1 3,ay 9 1 8,bu 10 .neq 7 9] (aW 10 (aa [aF 11 0 1 2,ay 12 1 11,aF 13 0 1 3,ay 14 1 13,cc 15 190 12 14,I 4 15] .ret) .skip)) (.seq (aa [aF 16 1 1 2,ay 17 1 16,aF 18 1 1 3,ay 19 1 18,bu 20 .neq 17 19] (aW 20 (aa [aF 21 1 1 2,ay 22 1 21,aF 23 1 1 3,ay 24 1 23,cc 25 190 22 24,I 4 25] .ret) .skip)) (.seq (aa [aF 26 2 1 2,ay 27 1 26,aF 28 2 1 3,ay 29 1 28,bu 30 .neq 27 29] (aW 30 (.seq (aa [aF 31 2 1 2,ay 32 1 31,aF 33 2 1 3,ay 34 1 33,bu 35 .lss 32 34] (aW 35 (aa [bQ 4 (-1)] .ret) .skip)) (aa [bQ 4 1] .ret)) .skip)) (.seq (aa [aF 36 0 1 2,ay 37 1 36,aV 38 .neq 37 4] (aW 38 (aa [bQ 4 0] .ret) .skip)) (.seq (.seq (.drawn true 60 [aF 39 3 1 2,ay 40 1 39,kC 41 4 40 0,bk 42 4 41,aF 43 3 1 3,ay 44 1 43,kC 45 4 44 0,bk 46 4 45,cc 47 133 42 46,I 5 47]) (aa [I 48 5,aV 49 .neq 48 0] (aW 49 (aa [I 50 5,I 4 50] .ret) .skip))) (.seq (.drawn true 60 [aF 51 3 1 2,ay 52 1 51,kC 53 4 52 1,bk 54 4 53,aF 55 3 1 3,ay 56 1 55,kC 57 4 56 1,bk 58 4 57,cc 59 133 54 58,I 4 59]) .ret)))))))
def yR:C:=(aa [c0 2 0] (.seq (aa [aF 4 0 1 2,ay 5 1 4,aV 6 .eql 5 1] (aW 6 (.region [I 7 1,aF 8 1 1 2,ay 9 1 8,hL 10 7 [.t 9]]) .skip)) (aa [aF 11 0 1 2,ay 12 1 11,aV 13 .eql 12 4] (aW 13 (aa [aF 14 3 1 2,ay 15 1 14,kC 16 4 15 0,bk 17 4 16,I 18 1,cc 19 134 17 18] (.region [aF 20 3 1 2,ay 21 1 20,kC 22 4 21 1,bk 23 4 22,I 24 1,cc 25 134 23 24])) .skip))))
def SH:C:=(aa [fw 2 1] (aa [dt (.bslm 5 (some 306) 1 3 []),I 3 5] (.seq (aa [I 6 0,dt (.range 7 none (.t 6))] (.block 0 (.loop (aa [⟨none,.next 8 (.t 7)⟩,cV 9 0 8] (.seq (aW 9 .skip (.exit 0)) (.block 1 (aa [cb 10 (.ment (.t 7)),cV 11 0 10,I 4 11] (.region [I 12 3,I 13 4,fe 14 1 3 [.t 13],dt (.appm 15 none 1 3 (.t 12) (.t 14)),I 3 15])))))))) (aa [I 16 3,cY 17 191 16] (.seq (.pub 3 (.region [I 18 3,I 2 18])) .ret)))))
def SE:C:=(aa [c0 2 0,dt (.box 3 (some 202) (.t 1)),dI 4 eC,bz 5 false] (aa [bk 7 4 2,cb 8 (.mkf 193 [.t 3]),cc 9 192 7 8,I 6 9] (.seq (aa [I 10 6,aV 11 .gtr 10 5000] (aW 11 (aa [jr 12 eC [],bV 4 4 12,bz 5 false] .ret) .skip)) (aa [bk 13 4 2,ay 14 1 3,cc 15 194 13 14,bV 4 4 15,bz 5 true] .ret))))
def SD:C:=(aa [dI 3 eC,bz 4 false] (.seq (aa [ay 6 1 1,I 7 0,cc 8 139 6 7,I 5 8] (aa [I 9 5,aV 10 .geq 9 0] (aW 10 (aa [ay 11 1 1,I 12 5,ck 13 5 11 12,hr 14 1 4 13,bk 15 4 14,bV 4 3 15,bz 4 true] .ret) .skip))) (aa [jr 16 eC [],bV 4 3 16,bz 4 false] .ret)))
def Su:C:=(aa [dt (.box 2 (some 101) (.t 0)),dt (.box 3 (some 102) (.t 1)),bQ 4 0] (aa [ay 6 1 2,cw 7 6,cb 8 (.mkf 196 [.t 2,.t 3]),cc 9 195 7 8,I 5 9] (.seq (.seq (.drawn true 24 [I 10 5,ay 11 1 2,cw 12 11,bu 13 .lss 10 12,I 14 13,ax 14 true (ay 15 1 2),cg 14 true 16 5,ax 14 true (ck 17 5 15 16),ax 14 true (aF 18 0 1 17),ax 14 true (ay 19 1 18),ax 14 true (ay 20 1 3),ax 14 true (bu 21 .eql 19 20),ei 22 14 21]) (aW 22 (aa [I 23 5,I 4 23] .ret) .skip)) (aa [bQ 4 (-1)] .ret))))
def Ss:C:=(aa [c0 2 0,c0 3 1,bz 4 false] (aa [bk 5 4 2,bk 6 4 3,cc 7 133 5 6,aV 8 .eql 7 0,I 4 8] .ret))
def Dw:C:=(aa [c0 1 0,dI 2 eC] (.seq (aa [aF 3 0 1 1,ay 4 1 3,aV 5 .neq 4 4] (aW 5 (aa [aF 6 0 1 1,ay 7 1 6,aF 8 1 1 1,ay 9 1 8,aF 10 2 1 1,ay 11 1 10,jr 12 eC [(0,1,(.t 7)),(1,1,(.t 9)),(2,1,(.t 11))],bV 4 2 12] .ret) .skip)) (.seq (.drawn true 25 [aF 13 3 1 1,ay 14 1 13,kC 15 4 14 0,bk 16 4 15,cY 17 143 16,aF 18 3 1 1,ay 19 1 18,kC 20 4 19 1,bk 21 4 20,cY 22 143 21,fe 23 4 30 [.t 17,.t 22],jr 24 eC [(0,1,(gV 4)),(3,1,(.t 23))],bV 4 2 24]) .ret)))
def Se:C:=(aa [bz 2 false] (.seq (aa [I 5 0,cw 6 5,aV 7 .gtr 6 400] (aW 7 (aa [bz 2 false] .ret) .skip)) (.seq (aa [I 8 0,cw 9 8,bQ 10 0] (gx 11 10 9 (.seq (.block 1 (aa [I 12 10,ck 13 5 8 10,bk 14 5 13,dI 4 kx,I 3 12,bV 5 4 14] (.seq (.drawn true 45 [aF 15 0 1 4,ay 16 1 15,aV 17 .lss 16 0,I 18 17,ax 18 false (aF 19 0 1 4),ax 18 false (ay 20 1 19),ax 18 false (aV 21 .gtr 20 100000),ds 22 18 21,I 23 22,cg 23 false 24 3,ax 23 false (aV 25 .gtr 24 0),cg 23 false 26 25,cg 26 true 27 0,cg 26 true 28 3,ax 26 true (aV 29 .sub 28 1),ax 26 true (ck 30 5 27 29),ax 26 true (aF 31 0 1 30),ax 26 true (ay 32 1 31),ax 26 true (aF 33 0 1 4),ax 26 true (ay 34 1 33),ax 26 true (bu 35 .geq 32 34),ax 23 false (ei 36 26 35),ds 37 23 36,I 38 37,ax 38 false (hr 39 1 4 4),ax 38 false (bk 40 4 39),ax 38 false (cY 41 64 40),ax 38 false (cO 42 41),ds 43 38 42]) (aW 43 (aa [bz 2 false] .ret) .skip)))) (.region [aV 44 .add 10 1,I 10 44])))) (aa [bz 2 true] .ret))))
def R4:C:=(aa [bz 2 false] (.seq (aa [I 4 0,cb 5 (.slen (.t 4)),aV 6 .lss 5 1,I 7 6,cg 7 false 8 0,ax 7 false (cb 9 (.slen (.t 8))),ax 7 false (aV 10 .gtr 9 12),ds 11 7 10,I 12 11,cg 12 false 13 0,ax 12 false (cb 14 (.sidx (.t 13) (gV 0))),ax 12 false (cb 15 (.bin .lss false (.t 14) (.c (.int .u8 97)))),ds 16 12 15,I 17 16,cg 17 false 18 0,ax 17 false (cb 19 (.sidx (.t 18) (gV 0))),ax 17 false (cb 20 (.bin .gtr false (.t 19) (.c (.int .u8 122)))),ds 21 17 20] (aW 21 (aa [bz 2 false] .ret) .skip)) (.seq (aa [bQ 3 1] (.block 0 (.loop (.seq (aa [I 22 3,I 23 0,cb 24 (.slen (.t 23)),bu 25 .lss 22 24] (aW 25 .skip (.exit 0))) (.seq (.block 1 (aa [I 28 0,I 29 3,cb 30 (.sidx (.t 28) (.t 29)),cb 31 (.bin .geq false (.t 30) (.c (.int .u8 97))),I 32 31,cg 32 true 33 0,cg 32 true 34 3,ax 32 true (cb 35 (.sidx (.t 33) (.t 34))),ax 32 true (cb 36 (.bin .leq false (.t 35) (.c (.int .u8 122)))),ei 37 32 36,I 38 37,cg 38 false 39 0,cg 38 false 40 3,ax 38 false (cb 41 (.sidx (.t 39) (.t 40))),ax 38 false (cb 42 (.bin .geq false (.t 41) (.c (.int .u8 48)))),cg 38 false 43 42,cg 43 true 44 0,cg 43 true 45 3,ax 43 true (cb 46 (.sidx (.t 44) (.t 45))),ax 43 true (cb 47 (.bin .leq false (.t 46) (.c (.int .u8 57)))),ax 38 false (ei 48 43 47),ds 49 38 48,I 50 49,cg 50 false 51 0,cg 50 false 52 3,ax 50 false (cb 53 (.sidx (.t 51) (.t 52))),ax 50 false (cb 54 (.bin .eql false (.t 53) (.c (.int .u8 45)))),ds 55 50 54,cO 56 55] (aW 56 (aa [bz 2 false] .ret) .skip))) (.region [I 26 3,aV 27 .add 26 1,I 3 27])))))) (aa [bz 2 true] .ret))))
def La:C:=(aa [bz 2 false] (.seq (aa [I 5 0,cw 6 5,bQ 7 0] (gx 8 7 6 (.seq (.block 1 (aa [ck 9 4 5 7,bk 10 4 9,dI 4 eC,bV 4 4 10] (aa [bk 11 4 4,cY 12 64 11,cO 13 12] (aW 13 (aa [bz 2 false] .ret) .skip)))) (.region [aV 14 .add 7 1,I 7 14])))) (aa [bz 2 true] .ret)))
def TF:C:=(aa [c0 2 0,c0 3 1,dI 4 eC] (aa [bk 5 4 2,bk 6 4 3,fe 7 4 30 [.t 5,.t 6],jr 8 eC [(0,1,(gV 4)),(3,1,(.t 7))],bV 4 4 8] .ret))
def SA:C:=(aa [bQ 4 0] (.seq (aa [I 5 0,I 6 1,bu 7 .lss 5 6] (aW 7 (aa [bQ 4 (-1)] .ret) .skip)) (.seq (aa [I 8 0,I 9 1,bu 10 .gtr 8 9] (aW 10 (aa [bQ 4 1] .ret) .skip)) (aa [bQ 4 0] .ret))))
def w5:C:=(aa [c0 2 0,bQ 4 0] (.seq (aa [aF 6 0 1 2,ay 7 1 6] (.block 0 (aa [aV 9 .eql 7 1,I 8 9] (aW 8 (aa [I 10 1,aF 11 1 1 2,ay 12 1 11,hL 13 10 [.t 12],cb 14 (.min2 (.t 13) (gV 5001)),I 4 14] .ret) (aa [aV 16 .eql 7 4,I 15 16] (aW 15 (aa [aF 17 3 1 2,ay 18 1 17,kC 19 4 18 0,bk 20 4 19,I 21 1,cc 22 192 20 21,I 5 22] (.seq (aa [I 23 5,aV 24 .gtr 23 5000] (aW 24 (aa [I 25 5,I 4 25] .ret) .skip)) (aa [I 26 5,cb 27 (.bin .add false (gV 1) (.t 26)),aF 28 3 1 2,ay 29 1 28,kC 30 4 29 1,bk 31 4 30,I 32 1,cc 33 192 31 32,bu 34 .add 27 33,cb 35 (.min2 (.t 34) (gV 5001)),I 4 35] .ret))) .skip)))))) (aa [bQ 4 1] .ret)))
def SF:C:=(aa [bQ 3 0] (.seq (aa [ay 7 1 1,I 8 0,hL 9 7 [.t 8],I 6 9,cV 10 0 6,cV 11 1 6,dI 4 eC,bV 4 4 10,I 5 11] (aa [I 12 5] (aW 12 (aa [bk 13 4 4,dT 14 131 [.t 13,(gV 5000)],I 3 14] .ret) .skip))) (aa [bQ 3 1] .ret)))
def yS:C:=(aa [c0 2 0,dI 4 eC] (.seq (aa [aF 7 0 1 2,ay 8 1 7] (.block 0 (aa [aV 10 .eql 8 1,I 9 10] (aW 9 (.seq (aa [I 12 1,aF 13 1 1 2,ay 14 1 13,hL 15 12 [.t 14],I 11 15,cV 16 0 11,cV 17 1 11,dI 5 eC,bV 4 5 16,I 6 17] (aa [I 18 6] (aW 18 (aa [bk 19 4 5,cY 20 143 19,bV 4 4 20] .ret) .skip))) (aa [bk 21 4 2,bV 4 4 21] .ret)) (aa [aV 23 .eql 8 4,I 22 23] (aW 22 (.seq (.drawn false 38 [aF 24 3 1 2,ay 25 1 24,kC 26 4 25 0,bk 27 4 26,I 28 1,cc 29 194 27 28,aF 30 3 1 2,ay 31 1 30,kC 32 4 31 1,bk 33 4 32,I 34 1,cc 35 194 33 34,cc 36 221 29 35,bV 4 4 36]) .ret) .skip)))))) (aa [bk 37 4 2,bV 4 4 37] .ret)))
def Tb:C:=(aa [bQ 4 0] (aa [I 8 0,bQ 5 0,I 6 8] (.seq (.block 0 (.loop (.seq (aa [I 9 5,I 10 6,bu 11 .lss 9 10] (aW 11 .skip (.exit 0))) (.block 1 (aa [I 12 5,I 13 6,bu 14 .add 12 13,cb 15 (.conv .u64 (.t 14)),cb 16 (.bin .shr false (.t 15) (.c (.int .u64 1))),cb 17 (.conv .i64 (.t 16)),I 7 17] (aa [I 18 1,I 19 7,hL 20 18 [.t 19],cO 21 20] (aW 21 (.region [I 22 7,aV 23 .add 22 1,I 5 23]) (.region [I 24 7,I 6 24])))))))) (aa [I 25 5,I 4 25] .ret))))
def Sv:C:=(aa [bz 4 false] (.seq (.drawn true 12 [ay 5 1 1,I 6 0,ck 7 5 5 6,aF 8 0 1 7,ay 9 1 8,ay 10 1 2,bu 11 .geq 9 10,I 4 11]) .ret))
def SB:C:=(aa [c0 2 0,c0 3 1,dI 4 eC] (aa [bk 5 4 2,bk 6 4 3,fe 7 4 30 [.t 5,.t 6],jr 8 eC [(0,1,(gV 4)),(3,1,(.t 7))],bV 4 4 8] .ret))
def aT:List (Nat×ev):=[(3,⟨1,8,.int .i64,.int .i64 0⟩),(4,⟨1,1,.bool,.bool false⟩),(5,⟨1,1,.int .u8,.int .u8 0⟩),(9,⟨1,16,.str,.str []⟩),(22,⟨1,24,.slice 24,.slice 4 .nil []⟩),(24,⟨4,56,.struct [(0,3),(1,3),(2,9),(3,22)],.agg [.int .i64 0,.int .i64 0,.str [],.slice 4 .nil []]⟩),(27,⟨1,24,.slice 30,.slice 4 .nil []⟩),(30,⟨4,56,.struct [(0,3),(1,3),(2,9),(3,27)],.agg [.int .i64 0,.int .i64 0,.str [],.slice 4 .nil []]⟩),(38,⟨1,24,.slice 111,.slice 5 .nil []⟩),(39,⟨1,24,.slice 38,.slice 1 .nil []⟩),(40,⟨1,24,.slice 158,.slice 2 .nil []⟩),(41,⟨1,24,.slice 146,.slice 2 .nil []⟩),(43,⟨5,104,.struct [(0,3),(1,38),(2,39),(3,40),(4,41)],.agg [.int .i64 0,.slice 5 .nil [],.slice 1 .nil [],.slice 2 .nil [],.slice 2 .nil []]⟩),(46,⟨1,24,.slice 113,.slice 5 .nil []⟩),(47,⟨1,24,.slice 46,.slice 1 .nil []⟩),(48,⟨1,24,.slice 98,.slice 2 .nil []⟩),(49,⟨1,24,.slice 100,.slice 2 .nil []⟩),(51,⟨5,104,.struct [(0,3),(1,46),(2,47),(3,48),(4,49)],.agg [.int .i64 0,.slice 5 .nil [],.slice 1 .nil [],.slice 2 .nil [],.slice 2 .nil []]⟩),(76,⟨1,24,.slice 3,.slice 1 .nil []⟩),(98,⟨2,16,.struct [(0,3),(1,3)],.agg [.int .i64 0,.int .i64 0]⟩),(100,⟨2,24,.struct [(0,3),(1,9)],.agg [.int .i64 0,.str []]⟩),(111,⟨5,64,.struct [(0,3),(1,24)],.agg [.int .i64 0,.int .i64 0,.int .i64 0,.str [],.slice 4 .nil []]⟩),(113,⟨5,64,.struct [(0,3),(1,30)],.agg [.int .i64 0,.int .i64 0,.int .i64 0,.str [],.slice 4 .nil []]⟩),(136,⟨1,8,.map 3 4,.junk⟩),(141,⟨1,8,.other,.junk⟩),(143,⟨1,8,.other,.junk⟩),(144,⟨1,24,.slice 5,.slice 1 .nil []⟩),(146,⟨2,24,.struct [(0,3),(1,9)],.agg [.int .i64 0,.str []]⟩),(158,⟨2,16,.struct [(0,3),(1,3)],.agg [.int .i64 0,.int .i64 0]⟩),(165,⟨1,8,.map 100 4,.junk⟩),(181,⟨1,8,.other,.junk⟩),(185,⟨2,16,.struct [(0,143),(1,181)],.agg [.junk,.junk]⟩),(192,⟨1,8,.int .u64,.int .u64 0⟩),(194,⟨1,8,.other,.nilp⟩),(206,⟨1,4,.int .u32,.int .u32 0⟩),(208,⟨1,8,.int .u64,.int .u64 0⟩),(216,⟨1,8,.map 3 3,.junk⟩),(217,⟨1,8,.map 3 30,.junk⟩),(219,⟨6,48,.struct [(0,216),(1,217),(2,136),(3,216),(4,216),(5,217)],.agg [.junk,.junk,.junk,.junk,.junk,.junk]⟩),(222,⟨1,8,.int .u64,.int .u64 0⟩)]
def mixed:au.follows .mixedOrders=true:=bi
def bI{aT:List (Nat×ev)}(e:h1 au aT=true){f:FuncId}{fn:Func}(h:au.funcs[f]? =some fn){c:C}{a:List bW}{n:Nat}(b:b4 aT c a n fn=true){args:List af}{r:af}(he:eI args->df au [] c (bZ a r) ⟨je 0 args,[],[],0,[]⟩)(d:args.length<=n:=by simp)(g:az (fun _=>er) r:=by simp[az]):bT au f args r:=bT.mk mixed e h b d g he
def a1:h1 au aT=true:=bi
def anF:b4 aT Sd [.tmp 2] 1 Tryz.f64=true:=bi
def an3:b4 aT SC [.cell 4 true 4,.tmp 5] 2 Tryz.f69=true:=bi
def ao5:b4 aT TI [.cell 2 true 4] 1 Tryz.f114=true:=bi
def Fi:b4 aT AU [.cell 2 true 4] 1 Tryz.f130=true:=bi
def anZ:b4 aT Sy [.tmp 4] 2 Tryz.f131=true:=bi
def O6:b4 aT GO [.tmp 4] 2 Tryz.f133=true:=bi
def Co:b4 aT yR [] 2 Tryz.f134=true:=bi
def an8:b4 aT SH [.tmp 2] 1 Tryz.f136=true:=bi
def an5:b4 aT SE [.cell 4 true 4,.tmp 5] 2 Tryz.f137=true:=bi
def an4:b4 aT SD [.cell 3 true 4,.tmp 4] 2 Tryz.f138=true:=bi
def anV:b4 aT Su [.tmp 4] 2 Tryz.f139=true:=bi
def anT:b4 aT Ss [.tmp 4] 2 Tryz.f142=true:=bi
def I8:b4 aT Dw [.cell 2 true 4] 1 Tryz.f143=true:=bi
def anG:b4 aT Se [.tmp 2] 1 Tryz.f158=true:=bi
def anv:b4 aT R4 [.tmp 2] 1 Tryz.f160=true:=bi
def Zl:b4 aT La [.tmp 2] 1 Tryz.f172=true:=bi
def ao2:b4 aT TF [.cell 4 true 4] 2 Tryz.f189=true:=bi
def an1:b4 aT SA [.tmp 4] 2 Tryz.f190=true:=bi
def zT:b4 aT w5 [.tmp 4] 2 Tryz.f192=true:=bi
def an6:b4 aT SF [.tmp 3] 2 Tryz.f193=true:=bi
def Cp:b4 aT yS [.cell 4 true 4] 2 Tryz.f194=true:=bi
def aoz:b4 aT Tb [.tmp 4] 2 Tryz.f195=true:=bi
def anW:b4 aT Sv [.tmp 4] 3 Tryz.f196=true:=bi
def an2:b4 aT SB [.cell 4 true 4] 2 Tryz.f221=true:=bi
def alI(s:List cJ)(k:Nat)(st:bp):Prop:=∃i:Nat,1<=i/\i<=s.length/\k=s.length-i/\((s.drop 1).all nW=(s.drop i).all nW)/\st=⟨[(0,.str s),(3,aj i)],[],[],0,[]⟩
def tY(s:List cJ):bT au 160 [.str s] (.bool (ib s)):=by
 refine bT.mk mixed a1 Tryz.func160 anv Ψ dl fun m=>?_;unfold R4;simp;(with_reducible repeat' first|((first|refine ct (fun h=>?_) fun h=>?_|refine cz (fun h=>?_) fun h=>?_|refine cy (fun h=>?_) fun h=>?_)<;>try simp at h)|refine ao ?_|simp);case refine_1.refine_1.refine_1.refine_2=>
  have b:ib s=(s.drop 1).all nW:=by simp[ib,low];omega
  rw[b];refine qs (alI s) (s.length-1) _ ⟨Ψ,by simp[hC],by simp[p9],Ψ⟩ ⟨1,Ω,Ω,rfl,rfl,rfl⟩ ?_;rintro k st ⟨i,f,j,ab,c,rfl⟩ g l;rw[c];simp;refine ct (fun a=>?_) (fun e=>?_)
  ·simp at a;have d:s.drop i=s[i]?.getD 0::s.drop (i+1):=by rw[lH a];simp[a]
   simp;(with_reducible repeat' first|((first|refine ct (fun h=>?_) fun h=>?_|refine cz (fun h=>?_) fun h=>?_|refine cy (fun h=>?_) fun h=>?_)<;>try simp at h)|refine ao ?_|simp);all_goals first
    |(simp[bZ,bc,bf,a6,d,nW,low];omega)
    |(simp only[Gl];refine⟨s.length-(i+1),_,Ω,⟨Ψ,by simp[hC],by simp[p9],Ψ⟩,i+1,Ω,Ω,rfl,?_,rfl⟩;rw[c,d];simp[nW,low];omega)
  ·simp at e;have:s.drop i=[]:=by simp;omega
   simp[bZ,bc,bf,a6,this]
 all_goals simp[bZ,bc,bf,a6,ib,low]
 all_goals omega
def acR(m:Nat):∀(t:Tm),t.sz<=m->∀(room:Int),0<=room/\room<=10000->bT au 131 [enc t,aj room] (aj (gu t room)):=by
 induction m with
 |zero=>intro t c;cases t;simp[Tm.sz]at c
 |succ m d=>
 rintro⟨k,n,s,args⟩ c room f;refine bI a1 Tryz.func131 anZ fun p=>?_;unfold Sy;simp[Tm.kind,Tm.num,Tm.name,Tm.args];(with_reducible repeat' first|((first|refine ct (fun h=>?_) fun h=>?_|refine cz (fun h=>?_) fun h=>?_|refine cy (fun h=>?_) fun h=>?_)<;>try simp at h)|refine ao ?_|simp);all_goals try refine CallDo.val Ψ (tY _) ?_
 all_goals try simp
 (with_reducible repeat' first|((first|refine ct (fun h=>?_) fun h=>?_|refine cz (fun h=>?_) fun h=>?_|refine cy (fun h=>?_) fun h=>?_)<;>try simp at h)|refine ao ?_|simp);all_goals try simp[bZ,bc,bf,a6]
 case succ.refine_2.refine_2.refine_1.refine_1.refine_2=>
  rename_i l J U e;match args,h with
  |[a,b],_=>
  simp[Tm.sz,Tm.szL]at c;subst J U e;simp;(with_reducible repeat' first|((first|refine ct (fun h=>?_) fun h=>?_|refine cz (fun h=>?_) fun h=>?_|refine cy (fun h=>?_) fun h=>?_)<;>try simp at h)|refine ao ?_|simp);refine CallDo.val Ψ (d a Ω (room-1) Ω) ?_;simp;have j:=OS a (room-1);have g:=E8 a (room-1);(with_reducible repeat' first|((first|refine ct (fun h=>?_) fun h=>?_|refine cz (fun h=>?_) fun h=>?_|refine cy (fun h=>?_) fun h=>?_)<;>try simp at h)|refine ao ?_|simp)
  ·simp[bZ,bc,bf,a6];rw[OR];simp;omega
  ·refine CallDo.val Ψ (d b Ω (room-1-gu a (room-1)) Ω) ?_;simp;have o:=OS b (room-1-gu a (room-1));have i:=E8 b (room-1-gu a (room-1));(with_reducible repeat' first|((first|refine ct (fun h=>?_) fun h=>?_|refine cz (fun h=>?_) fun h=>?_|refine cy (fun h=>?_) fun h=>?_)<;>try simp at h)|refine ao ?_|simp);all_goals simp[bZ,bc,bf,a6]
   all_goals rw[OR];simp;omega
 all_goals rw[OR]
 all_goals simp_all[mm]
 all_goals first|omega|(split<;>simp at h⊢)
def Ke(t:Tm):bT au 64 [enc t] (.bool t.fits):=by refine bI a1 Tryz.func64 anF fun a=>?_;unfold Sd;simp;refine CallDo.val Ψ (acR t.sz t (dP _) 5000 Ω) ?_;simp;simp[bZ,bc,bf,a6];simp[Tm.fits]
def ase(t:T):bT au 64 [t.e] (.bool t.fit):=by have:=Ke t.tm;rwa[mD,Tm.fits_T]at this
def Kn(a b:T):bT au 221 [a.e,b.e] (T.pair a b).e:=by refine bI a1 Tryz.func221 an2 fun c=>?_;unfold SB;simp;(with_reducible repeat' first|((first|refine ct (fun h=>?_) fun h=>?_|refine cz (fun h=>?_) fun h=>?_|refine cy (fun h=>?_) fun h=>?_)<;>try simp at h)|refine ao ?_|simp);all_goals try simp[bZ,bc,bf,a6]
def Kh(a b:T):bT au 189 [a.e,b.e] (T.pair a b).e:=by refine bI a1 Tryz.func189 ao2 fun c=>?_;unfold TF;simp;(with_reducible repeat' first|((first|refine ct (fun h=>?_) fun h=>?_|refine cz (fun h=>?_) fun h=>?_|refine cy (fun h=>?_) fun h=>?_)<;>try simp at h)|refine ao ?_|simp);all_goals try simp[bZ,bc,bf,a6]
def vk(t:T):bT au 143 [t.e] t.e:=by
 induction t with
 |pair a b e d=>refine bI a1 Tryz.func143 I8 fun c=>?_;unfold Dw;exact cn
 |_=>refine bI a1 Tryz.func143 I8 fun c=>?_;unfold Dw;exact cn
def pq(a b:Int):bT au 190 [aj a,aj b] (aj (fb a b)):=by
 refine bI a1 Tryz.func190 an1 fun c=>?_;unfold SA;simp;((repeat' first|refine ao ?_|simp|((first|apply ct|apply cz|apply cy)<;>intro h<;>try simp at h))<;>(try exact c3));all_goals simp[bZ,bc,bf,a6]
 all_goals simp[fb]
 all_goals omega
def C5(a:T):∀b:T,bT au 133 [a.e,b.e] (aj (e5 a b)):=by
 induction a with
 |pair g a2 e d=>
  intro b;cases b with
  |pair f i=>
   refine bI a1 Tryz.func133 O6 fun c=>?_;unfold GO;simp;((repeat' first|refine ao ?_|refine aO (e _) ?_|refine aP (e _) ?_|refine aO (d _) ?_|refine aP (d _) ?_|refine aO (pq _ _) ?_|refine aP (pq _ _) ?_|simp|((first|apply ct|apply cz|apply cy)<;>intro h<;>try simp at h))<;>(try exact c3));all_goals simp[bZ,bc,bf,a6]
   all_goals simp_all[e5]
  |_=>
   refine bI a1 Tryz.func133 O6 fun c=>?_;unfold GO;simp;(repeat' first|refine ao ?_|refine aO (pq _ _) ?_|refine aP (pq _ _) ?_|simp);all_goals simp[bZ,bc,bf,a6]
   all_goals simp_all[e5]
 |_=>
  intro b;cases b<;>
  (refine bI a1 Tryz.func133 O6 fun c=>?_;unfold GO
   simp
   (with_reducible repeat' first|((first|apply ct|apply cz|apply cy)<;>intro h<;>try simp at h)|refine ao ?_|refine aO (pq _ _) ?_|refine aP (pq _ _) ?_|simp)
   all_goals simp[bZ,bc,bf,a6]
   all_goals simp_all[e5,lA])
def vl(a b:T):bT au 142 [a.e,b.e] (.bool (decide (a=b))):=by
 refine bI a1 Tryz.func142 anT fun c=>?_;unfold Ss;simp;(repeat' first|refine ao ?_|refine aO (C5 _ _) ?_|refine aP (C5 _ _) ?_|simp);all_goals simp[bZ,bc,bf,a6]
 have:=sy a b;by_cases h:e5 a b=0<;>simp_all
open Classical in
def alM(l:List Bt)(k:Nat)(st:bp):Prop:=∃i:Nat,i<=l.length/\k=l.length-i/\(∀j,j<i->Cn l j)/\st=⟨[(0,bL (l.map Bt.e)),(8,bL (l.map Bt.e)),(9,aj l.length),(10,aj i)],[],[],0,[]⟩
open Classical in
def asf(l:List Bt):bT au 158 [bL (l.map Bt.e)] (.bool (decide (AH l))):=by
 refine bI a1 Tryz.func158 anG fun v=>?_;unfold Se;simp;(with_reducible repeat' first|((first|apply ct|apply cz|apply cy)<;>intro h<;>try simp at h)|refine ao ?_|simp)
 ·simp[bZ,bc,bf,a6];intro a;have:=a.1;omega
 ·refine qs (alM l) l.length _ ⟨Ψ,by simp[hC],by simp[p9],Ψ⟩ ⟨0,Ω,Ω,Ψ,rfl⟩ ?_;rintro k st ⟨i,hi,ab,g,rfl⟩ p q;simp;refine ct (fun d=>?_) (fun o=>?_)
  ·simp at d;obtain⟨b,f⟩:∃b,l[i]? =some b:=⟨_,cl d⟩;obtain⟨c,aw⟩:∃c,l[i-1]? =some c:=⟨_,cl Ω⟩;clear p q;simp[f,aw];((repeat' first|refine ao ?_|refine aO (Ke _) ?_|refine aP (Ke _) ?_|simp[aw]|((first|apply ct|apply cz|apply cy)<;>intro h<;>try simp at h))<;>(try exact c3));all_goals first
    |(simp[bZ,bc,bf,a6];intro a;have J:=a.2 i d b f;have U:=J.2.1 c;have r:=J.2.2;first|omega|(have:=U Ω aw;omega)|(rw[r]at h;cases h)|simp_all)
    |(simp only[Gl];refine⟨l.length-(i+1),_,Ω,⟨Ψ,by simp[hC],by simp[p9],Ψ⟩,i+1,Ω,rfl,fun j s=>?_,rfl⟩
      by_cases e:j=i
      ·subst e;intro b2 n;rw[f]at n;cases n;refine⟨Ω,fun t u m=>?_,by assumption⟩;rw[aw]at m;cases m;omega
      ·exact g j Ω)
  ·simp at o;simp[bZ,bc,bf,a6];exact⟨Ω,fun j s=>g j Ω⟩
def nC(p:Nat->Bool)(i j:Nat):Nat:=if i<j then(if p ((i+j)/2)then nC p i ((i+j)/2)else nC p ((i+j)/2+1) j)else i
termination_by j-i
def alL(s:cT)(n g:Nat)(dH:List af)(p:Nat->Bool)(k:Nat)(st:bp):Prop:=∃i j:Nat,i<=j/\j<=n/\k=j-i/\nC p i j=nC p 0 n/\st=⟨[(1,.func g dH),(5,aj i),(6,aj j)],s.b,s.e,0,cL s⟩
def aiJ(s:cT)(a:eA s)(n g:Nat)(y:n<=1000000)(dH:List af)(aw:aH (aM s) dH)(dy:cf dH=dH)(p:Nat->Bool)(t:∀i:Nat,i<n->bH au g (aj i::dH) s fun r b=>r= .bool (p i)/\b=s):
  bH au 195 [aj n,.func g dH] s fun r b=>r=aj (nC p 0 n)/\b=s:=by
 refine bH.mk mixed a1 Tryz.func195 aoz Ψ a.obj fun x e=>?_;unfold Tb;simp;refine qs (alL s n g dH p) n _ (gp.ob a (by simp[aw]) aX aX) ⟨0,n,Ω,Ω,rfl,rfl,rfl⟩ ?_;rintro k st ⟨i,j,v,w,ab,d,rfl⟩ o e;clear o e;simp;refine ct (fun c=>?_) (fun f=>?_)
 ·simp at c;have hw:im.wrap ((i:Int)+j)=i+j:=by simp[ud,ps,uc];omega
  obtain⟨m,hm⟩:∃m,m=(i+j)/2:=⟨_,rfl⟩;have q:Int.fdiv ((i:Int)+j) 2=(m:Int):=by rw[Int.fdiv_eq_ediv_of_nonneg _ Ω];omega
  have l:vo.wrap (m:Int)=m:=by rw[pt];omega
  have u:im.bits=64:=rfl;simp[hw,dy,u,q,l];refine⟨by unfold tz;omega,?_⟩;refine CallDo.ob (t m Ω) a aX aX (by simp[aw]) ?_;rintro r b ⟨rfl,rfl⟩;refine⟨Same.refl _,?_⟩;simp[hK];(with_reducible repeat' first|((first|apply ct|apply cz|apply cy)<;>intro h<;>try simp at h)|refine ao ?_|simp)
  ·simp only[Gl];refine⟨j-(m+1),_,Ω,gp.ob a (by simp[aw]) aX aX,m+1,j,Ω,Ω,rfl,?_,rfl⟩;rw[<-d];conv=>rhs;unfold nC
   simp[c,<-hm,h]
  ·simp only[Gl];refine⟨m-i,_,Ω,gp.ob a (by simp[aw]) aX aX,i,m,Ω,Ω,rfl,?_,rfl⟩;rw[<-d];conv=>rhs;unfold nC
   simp[c,<-hm,h]
 ·simp at f;have:nC p 0 n=i:=by rw[<-d];unfold nC;rw[if_neg Ω]
  rw[this];simp;refine c5.at s (.inl rfl) a (Same.refl s) aX aX ?_;simp[dd,bc,bf,a6]
def oA(l:List Bd)(v:Int):Int:=
 let i:=nC (fun i=>match l[i]? with|some b=>decide (v<=b.v)|none=>false) 0 l.length
 match l[i]? with|some b=>if b.v=v then i else-1|none=> -1
def aiP(l:List Bd)(v:Int)(i:Nat)(b:Bd)(c:l[i]? =some b):bH au 196 [aj i,.ptr (.obj 101) 0,.ptr (.obj 102) 0] ⟨[(.obj 101,[bL (l.map Bd.e)]),(.obj 102,[aj v])],[]⟩ fun r d=>r= .bool (decide (v<=b.v))/\d=⟨[(.obj 101,[bL (l.map Bd.e)]),(.obj 102,[aj v])],[]⟩:=by have a:eA ⟨[(.obj 101,[bL (l.map Bd.e)]),(.obj 102,[aj v])],[]⟩:=(eA.of ⟨by intro m;simp[ae],by intro m;simp[ae]⟩ (by simp[aH,az,aM,ae]) (by simp[aH,az,aM,ae]));have f:i<l.length:=(fH.1 c).1;refine bH.mk mixed a1 Tryz.func196 anW Ψ a.obj fun g e=>?_;unfold Sv;simp[c];(repeat' first|refine ao ?_|simp);refine c5.at _ (.inl rfl) a (Same.refl _) aX aX ?_;simp[dd,bc,bf,a6]
def vm(l:List Bd)(v:Int)(e:l.length<=1000000):bT au 139 [bL (l.map Bd.e),aj v] (aj (oA l v)):=by
 refine bI a1 Tryz.func139 anV fun g=>?_;unfold Su;simp;have d:eA ⟨[(.obj 101,[bL (l.map Bd.e)]),(.obj 102,[aj v])],[]⟩:=(eA.of ⟨by intro m;simp[ae],by intro m;simp[ae]⟩ (by simp[aH,az,aM,ae]) (by simp[aH,az,aM,ae]));refine CallDo.ob (aiJ ⟨[(.obj 101,[bL (l.map Bd.e)]),(.obj 102,[aj v])],[]⟩ d l.length 196 e [.ptr (.obj 101) 0,.ptr (.obj 102) 0] (by simp[aM]) Ψ (fun i=>match l[i]? with|some b=>decide (v<=b.v)|none=>false) fun i hi=>?_) d aX aX (by simp[aM]) ?_
 ·obtain⟨b,a⟩:∃b,l[i]? =some b:=⟨_,cl hi⟩;simp only[a];exact aiP l v i b a
 rintro r f ⟨rfl,rfl⟩;refine⟨Same.refl _,?_⟩;unfold oA;generalize nC _ 0 l.length=i;cases a:l[i]? with
 |none=>
  have c:¬i<l.length:=by simpa using a
  simp[cM,c];exact cn
 |some b=>
  have c:i<l.length:=(fH.1 a).1;simp[cM,a,c];((repeat' first|refine ao ?_|simp[a]|((first|apply ct|apply cz|apply cy)<;>intro h<;>try simp at h))<;>(try exact c3));all_goals simp[bZ,bc,bf,a6]
  all_goals simp_all
def tP(l:List Bd)(v:Int):be T:=if oA l v<0 then none else(l[(oA l v).toNat]?).map (·.t)
def Vn(l:List Bd)(v:Int):oA l v<l.length/\ -1<=oA l v:=by
 unfold oA;simp only;split
 ·rename_i b a;have:=(fH.1 a).1;split<;>omega
 ·omega
def VQ(l:List Bd)(v:Int)(e:l.length<=1000000)(o:be T)(ar:o=tP l v):bH au 138 [aj v,.ptr (.obj 201) 0] ⟨[(.obj 201,[bL (l.map Bd.e)])],[]⟩ fun r f=>r= .tuple [(o.getD .nil).e,.bool o.isSome]/\f=⟨[(.obj 201,[bL (l.map Bd.e)])],[]⟩:=by
 have c:eA ⟨[(.obj 201,[bL (l.map Bd.e)])],[]⟩:=(eA.of ⟨by intro m;simp[ae],by intro m;simp[ae]⟩ (by simp[aH,az,aM,ae]) (by simp[aH,az,aM,ae]));have i:=(Vn l v).1;unfold tP at ar;refine bH.mk mixed a1 Tryz.func138 an4 Ψ c.obj fun j g=>?_;unfold SD;simp;(with_reducible repeat' first|((first|apply ct|apply cz|apply cy)<;>intro h<;>try simp at h)|refine ao ?_|refine aO (vm l v e) ?_|refine aP (vm l v e) ?_|simp)
 ·obtain⟨b,d⟩:∃b,l[(oA l v).toNat]? =some b:=⟨_,cl Ω⟩;have a:o=some b.t:=by rw[ar,if_neg Ω,d];rfl
  simp[d];(with_reducible repeat' first|((first|apply ct|apply cz|apply cy)<;>intro h<;>try simp at h)|refine ao ?_|simp[d]);refine c5.at _ (.inl rfl) c (Same.refl _) aX aX ?_;simp[dd,bc,bf,a6];simp[a]
 ·have a:o=none:=by rw[ar,if_pos h]
  refine c5.at _ (.inl rfl) c (Same.refl _) aX aX ?_;simp[dd,bc,bf,a6];simp[a]
def ajm(s:cT)(c:eA s)(g:Nat)(dH:List af)(aw:aH (aM s) dH)(dy:cf dH=dH)(f:Int->Int)(o:∀v,-1<=f v)(t:T)(j:∀v,t.occ v=true->bH au g (aj v::dH) s fun r e=>r=aj (f v)/\e=s):
  bH au 192 [t.e,.func g dH] s fun r e=>r=aj (mo f t)/\e=s:=by
 have d:∀m,ae (.loc m) s.b=none:=c.obj.1;have hu:∀m cs,cK (.loc m) cs s.b=s.b++[(.loc m,cs)]:=fun m cs=>kO (d m);have ar:∀m,aB.loc m∉cL s:=kK c.obj;induction t with
 |pair a b q p=>
  have w:=J1 f o a;have u:=J1 f o b;refine bH.mk mixed a1 Tryz.func192 zT Ψ c.obj fun l k=>?_;unfold w5;simp[hu,ar,c6,d,dy];(repeat' first|refine ao ?_|simp[hu,ar,c6,d]);refine CallDo.ob (q fun v i=>j v (by simp[T.occ,i])) c aX aX (by simp[aw]) ?_;rintro r e ⟨rfl,rfl⟩;refine⟨Same.refl _,?_⟩;simp[hK,jA,cM,d];(with_reducible repeat' first|((first|apply ct|apply cz|apply cy)<;>intro h<;>try simp at h)|refine ao ?_|simp[hu,ar,c6,d])
  ·refine c5.at e (.inl rfl) c (Same.refl _) aX aX ?_;simp[dd,bc,bf,a6];simp[mo];omega
  ·rw[dy];refine CallDo.ob (p fun v i=>j v (by simp[T.occ,i])) c aX aX (by simp[aw]) ?_;rintro r s2 ⟨rfl,rfl⟩;refine⟨Same.refl _,?_⟩;simp[hK,jA,cM,d];(with_reducible repeat' first|((first|apply ct|apply cz|apply cy)<;>intro h<;>try simp at h)|refine ao ?_|simp[hu,ar,c6,d]);refine c5.at s2 (.inl rfl) c (Same.refl _) aX aX ?_;simp[dd,bc,bf,a6];simp[mo];omega
 |var n=>refine bH.mk mixed a1 Tryz.func192 zT Ψ c.obj fun l k=>?_;unfold w5;simp[hu,ar,c6,d,dy];(repeat' first|refine ao ?_|simp[hu,ar,c6,d]);refine CallDo.ob (j n (by simp[T.occ])) c aX aX (by simp[aw]) ?_;rintro r e ⟨rfl,rfl⟩;refine⟨Same.refl _,?_⟩;simp[hK,jA,cM,d];refine c5.at e (.inl rfl) c (Same.refl _) aX aX ?_;simp[dd,bc,bf,a6];simp[mo]
 |_=>refine bH.mk mixed a1 Tryz.func192 zT Ψ c.obj fun l k=>?_;unfold w5;simp[hu,ar,c6,d,dy];(repeat' first|refine ao ?_|simp[hu,ar,c6,d]);refine c5.at s (.inl rfl) c (Same.refl _) aX aX ?_;simp[dd,bc,bf,a6];simp[mo]
def ai1(s:cT)(d:eA s)(g:Nat)(dH:List af)(aw:aH (aM s) dH)(dy:cf dH=dH)(f:Int->be T)(t:T)(k:∀v,t.occ v=true->bH au g (aj v::dH) s fun r i=>r= .tuple [((f v).getD .nil).e,.bool (f v).isSome]/\i=s):
  bH au 194 [t.e,.func g dH] s fun r i=>r=(t.sub f).e/\i=s:=by
 have c:∀m,ae (.loc m) s.b=none:=d.obj.1;have l:∀m,ae (.loc m) s.e=none:=d.obj.2;have hu:∀m cs,cK (.loc m) cs s.b=s.b++[(.loc m,cs)]:=fun m cs=>kO (c m);have ar:∀m,aB.loc m∉cL s:=kK d.obj;have e:∀m p r,cK (.loc m) p (s.b++r)=s.b++cK (.loc m) p r:=fun m p r=>C1 (c m);induction t with
 |pair a b w u=>refine bH.mk mixed a1 Tryz.func194 Cp Ψ d.obj fun q o=>?_;unfold yS;simp[hu,ar,c6,c,l,dy,e];(repeat' first|refine ao ?_|simp[hu,ar,c6,c,l,e]);refine hM.ob (w fun v j=>k v (by simp[T.occ,j])) d d (Same.refl _) aX aX (by simp[aw]) ?_;simp[hK,jA,cM,c,dy];refine hM.ob (u fun v j=>k v (by simp[T.occ,j])) d d (Same.refl _) aX aX (by simp[aw]) ?_;simp[hK,jA,cM,c,dy];(repeat' first|refine ao ?_|refine aO (Kn _ _) ?_|refine aP (Kn _ _) ?_|simp);refine c5.at s (.inl rfl) d (Same.refl _) aX aX ?_;simp[dd,bc,bf,a6,c6,c];simp[T.sub]
 |var n=>
  refine bH.mk mixed a1 Tryz.func194 Cp Ψ d.obj fun q o=>?_;unfold yS;simp[hu,ar,c6,c,dy,e];(repeat' first|refine ao ?_|simp[hu,ar,c6,c,e]);refine CallDo.ob (k n (by simp[T.occ])) d aX aX (by simp[aw]) ?_;rintro r i ⟨rfl,rfl⟩;refine⟨Same.refl _,?_⟩;simp[hK,jA,cM,c,hu,ar,c6];(with_reducible repeat' first|((first|apply ct|apply cz|apply cy)<;>intro h<;>try simp at h)|refine ao ?_|refine aO (vk _) ?_|refine aP (vk _) ?_|simp[hu,ar,c6,c,e]);all_goals refine c5.at i (.inl rfl) d (Same.refl _) aX aX ?_
  all_goals simp[dd,bc,bf,a6,c6,c]
  all_goals cases x:f n<;>simp_all[T.sub]
 |_=>refine bH.mk mixed a1 Tryz.func194 Cp Ψ d.obj fun q o=>?_;unfold yS;simp[hu,ar,c6,c,dy,e];(with_reducible repeat' first|((first|apply ct|apply cz|apply cy)<;>intro h<;>try simp at h)|refine ao ?_|simp[hu,ar,c6,c,e]);refine c5.at s (.inl rfl) d (Same.refl _) aX aX ?_;simp[dd,bc,bf,a6,c6,c];simp[T.sub]
def pE(l:List Bd):cT:=⟨[(.obj 201,[bL (l.map Bd.e)])],[]⟩
def sP(l:List Bd):cT:=⟨[(.obj 201,[bL (l.map Bd.e)]),(.obj 202,[.func 138 [.ptr (.obj 201) 0]])],[]⟩
def Dg(l:List Bd):eA (pE l):=by unfold pE;exact(eA.of ⟨by intro m;simp[ae],by intro m;simp[ae]⟩ (by simp[aH,az,aM,ae]) (by simp[aH,az,aM,ae]))
def KA(l:List Bd):eA (sP l):=by unfold sP;exact(eA.of ⟨by intro m;simp[ae],by intro m;simp[ae]⟩ (by simp[aH,az,aM,ae]) (by simp[aH,az,aM,ae]))
def vQ(l:List Bd)(v:Int):Int:=match tP l v with|some x=>gu x.tm 5000|none=>1
def aiB(l:List Bd)(v:Int): -1<=vQ l v:=by
 unfold vQ;split
 ·rename_i x _;rcases E8 x.tm 5000 with h|h<;>omega
 ·omega
def acS(t:T):bT au 131 [t.e,aj 5000] (aj (gu t.tm 5000)):=by have:=acR t.tm.sz t.tm (dP _) 5000 Ω;rwa[mD]at this
def ajj(l:List Bd)(v:Int)(c:l.length<=1000000):bH au 193 [aj v,.ptr (.obj 202) 0] (sP l) fun r b=>r=aj (vQ l v)/\b=sP l:=by
 have a:=KA l;unfold sP at a⊢;refine bH.mk mixed a1 Tryz.func193 an6 Ψ a.obj fun f d=>?_;unfold SF;simp;refine CallDo.ob (VQ l v c _ rfl) (Dg l) aX aX (by simp[aM]) ?_;rintro r b ⟨rfl,rfl⟩;refine⟨Same.refl _,?_⟩;simp[cM];(with_reducible repeat' first|((first|apply ct|apply cz|apply cy)<;>intro h<;>try simp at h)|refine ao ?_|refine aO (acS _) ?_|refine aP (acS _) ?_|simp);all_goals refine c5.at _ (.inl rfl) a (Same.refl _) aX aX ?_
 all_goals simp[dd,bc,bf,a6]
 all_goals unfold vQ
 all_goals cases e:tP l v<;>simp_all
def Fw(l:List Bd)(t:T):T:=t.sub (tP l)
def vb(l:List Bd)(t:T):Bool:=decide (mo (vQ l) t<=5000)
def aji(l:List Bd)(t:T)(c:l.length<=1000000):bH au 137 [t.e,.func 138 [.ptr (.obj 201) 0]] (pE l) fun r b=>r= .tuple [(if vb l t then Fw l t else .nil).e,.bool (vb l t)]/\b=pE l:=by
 have a:=Dg l;unfold pE at a⊢;refine bH.mk mixed a1 Tryz.func137 an5 Ψ a.obj fun f e=>?_;unfold SE;simp;refine CallDo.ob (ajm (sP l) (KA l) 193 [.ptr (.obj 202) 0] (by simp[aM,sP]) Ψ (vQ l) (aiB l) t fun v d=>ajj l v c) (KA l) (by unfold sP;exact aX) (by unfold sP;exact aX) (by simp[aM,sP]) ?_;rintro r b ⟨rfl,rfl⟩;refine⟨Same.refl _,?_⟩;unfold sP;simp[cM];(with_reducible repeat' first|((first|apply ct|apply cz|apply cy)<;>intro h<;>try simp at h)|refine ao ?_|simp)
 ·refine c5.at _ (.inl rfl) a (Same.refl _) aX aX ?_;simp[dd,bc,bf,a6];have:vb l t=false:=by simp[vb];omega
  simp[this]
 ·refine CallDo.ob (ai1 (pE l) (Dg l) 138 [.ptr (.obj 201) 0] (by simp[aM,pE]) Ψ (tP l) t fun v d=>VQ l v c _ rfl) (Dg l) (by unfold pE;exact aX) (by unfold pE;exact aX) (by simp[aM,pE]) ?_;rintro r b ⟨rfl,rfl⟩;refine⟨Same.refl _,?_⟩;unfold pE;simp[cM];refine c5.at _ (.inl rfl) a (Same.refl _) aX aX ?_;simp[dd,bc,bf,a6];have:vb l t=true:=by simp[vb];omega
  simp[this,Fw]
def as2(l:List Bd)(t:T)(a:l.length<=1000000):bT au 69 [bL (l.map Bd.e),t.e] (.tuple [(if vb l t then Fw l t else .nil).e,.bool (vb l t)]):=by refine bI a1 Tryz.func69 an3 fun c=>?_;unfold SC;simp;refine CallDo.ob (aji l t a) (Dg l) (by unfold pE;exact aX) (by unfold pE;exact aX) (by simp[aM,pE]) ?_;rintro r b ⟨rfl,rfl⟩;refine⟨Same.refl _,?_⟩;unfold pE;simp[cM];simp[bZ,bc,bf,a6]
def Qn(p:Nat->Bool)(n:Nat)(hm:∀k bs,k<=bs->bs<n->p k=true->p bs=true):∀(m i j:Nat),j-i<=m->i<=j->j<=n->(∀k,k<i->p k=false)->(∀k,j<=k->k<n->p k=true)->
  (i<=nC p i j/\nC p i j<=j)/\(∀k,k<nC p i j->p k=false)/\(∀k,nC p i j<=k->k<n->p k=true)
 |m,i,j,h,f,e,J,U=>by
  rw[nC];split
  ·rename_i g;obtain⟨m,rfl⟩:∃d,m=d+1:=⟨m-1,Ω⟩;split
   ·rename_i a;have:=Qn p n hm m i ((i+j)/2) Ω Ω Ω J (fun k ab c=>hm _ k ab c a);exact⟨⟨this.1.1,Ω⟩,this.2⟩
   ·rename_i a;have:=Qn p n hm m ((i+j)/2+1) j Ω Ω e (fun k ab=>by
     by_cases b:p k=true
     ·exact absurd (hm k ((i+j)/2) Ω Ω b) a
     ·simpa using b) U
    exact⟨⟨Ω,this.1.2⟩,this.2⟩
  ·obtain rfl:i=j:=Ω
   exact⟨⟨dP _,dP _⟩,J,U⟩
def Pn{l:List Bd}(F:jD l)(v:Int):tP l v=dG l v:=by
 have d:∀(i j:Nat) (x y:Bd),i<j->l[i]? =some x->l[j]? =some y->x.v<y.v:=by intro i j x y A H K;obtain⟨J,rfl⟩:=fH.1 H;obtain⟨U,rfl⟩:=fH.1 K;exact q4.1 F i j J U A
 obtain⟨p,o⟩:∃p:Nat->Bool,p=(fun i=>match l[i]? with|some b=>decide (v<=b.v)|none=>false):=⟨_,rfl⟩;have c:∀i b,l[i]? =some b->p i=decide (v<=b.v):=fun i b a=>by rw[o];simp[a]
 have hm:∀k bs,k<=bs->bs<l.length->p k=true->p bs=true:=by
  intro k bs ab B h;have q:l[k]? =some l[k]:=cl Ω;have t:l[bs]? =some l[bs]:=cl B;rw[c k _ q]at h;rw[c bs _ t];simp only[gz]at h⊢;rcases Nat.lt_or_eq_of_le ab with z|rfl
  ·have:=d k bs _ _ z q t;omega
  ·exact h
 obtain⟨⟨_,hle⟩,hbef,haft⟩:=Qn p l.length hm l.length 0 l.length Ω Ω (dP _) (fun k ab=>Ω) (fun k J U=>Ω);have m:oA l v=(match l[nC p 0 l.length]? with|some b=>if b.v=v then((nC p 0 l.length:Nat):Int)else-1|none=> -1):=by rw[o];rfl
 generalize nC p 0 l.length=r at hle hbef haft m;by_cases hex:∃(k:Nat) (b:Bd),l[k]? =some b/\b.v=v
 ·obtain⟨k,b,a,u⟩:=hex;have n:k<l.length:=(fH.1 a).1;have E:r<=k:=by
   rcases Nat.lt_or_ge k r with h|h
   ·have:=hbef k h;rw[c k b a]at this;simp at this;omega
   ·exact h
  have s:l[r]? =some l[r]:=cl Ω;have w:=haft r (dP _) Ω;rw[c r _ s]at w;simp only[gz]at w;have f:r=k:=by
   rcases Nat.lt_or_eq_of_le E with h|h
   ·have:=d r k _ _ h s a;omega
   ·exact h
  subst f;have g:oA l v=r:=by rw[m,a];simp[u]
  have J:tP l v=some b.t:=by unfold tP;rw[g,if_neg Ω];simp[a]
  have U:l.find? (fun b=>b.v==v)=some b:=by
   rw[List.find?_eq_some_iff_getElem];refine⟨by simp[u],r,n,?_,fun j G=>?_⟩
   ·rw[cl n]at a;simpa using a
   ·have:=d j r l[j] b G (cl Ω) a;simp;omega
  rw[J];simp[dG,U]
 ·have U:l.find? (fun b=>b.v==v)=none:=by rw[List.find?_eq_none];intro b a;obtain⟨k,ab,rfl⟩:=List.mem_iff_getElem.1 a;simp;intro e;exact hex ⟨k,l[k],cl ab,e⟩
  have g:oA l v= -1:=by
   rw[m];split
   ·rename_i b a;rw[if_neg (fun e=>hex ⟨r,b,a,e⟩)]
   ·rfl
  unfold tP;rw[g];simp[dG,U]
def Vo{l:List Bd}(a:jD l)(v:Int):oA l v<0↔dG l v=none:=by
 rw[<-Pn a v];unfold tP;have J:=Vn l v;by_cases h:oA l v<0
 ·simp[h]
 ·simp only[h,if_false,false_iff];intro e;rw[Option.map_eq_none_iff,List.getElem?_eq_none_iff]at e;omega
def Be(s:List Bd):Prop:= ∀b∈s,b.t.fit=true
def aiA{l:List Bd}(a:jD l)(h:Be l)(v:Int):vQ l v=(cC l v).size:=by
 unfold vQ cC;rw[Pn a];cases b:dG l v with
 |none=>simp[T.size]
 |some x=>have:=h _ (kQ b);simp only[T.fit,cR,gz]at this;simp only[lJ];rw[I2,if_pos ⟨this.1,Ω⟩]
def aq7{l:List Bd}(e:jD l)(h:Be l)(t:T):mo (vQ l) t=cut (t.ap (cC l)).size:=by
 induction t with
 |var n=>simp only[mo,aiA e h,T.ap];rfl
 |pair a b d c=>have f:=T.size_pos (b.ap (cC l));simp only[mo,d,c,T.ap,T.size];unfold cut;(repeat' split)<;>omega
 |_=>simp[mo,T.ap,T.size,cut]
def apF{l:List Bd}(a:jD l)(h:Be l)(t:T):vb l t=decide ((t.ap (cC l)).size<=5000):=by unfold vb;rw[aq7 a h];unfold cut;split<;>simp<;>omega
def apG{l:List Bd}(a:jD l)(t:T):Fw l t=t.ap (cC l):=by unfold Fw;rw[abS];exact vD fun v _=>by rw[Pn a];rfl
def Ko(l:List Bd)(t:T)(b:l.length<=1000000)(a:jD l)(h:Be l):bT au 69 [bL (l.map Bd.e),t.e] (.tuple [(if(t.ap (cC l)).size<=5000 then t.ap (cC l)else .nil).e,.bool (decide ((t.ap (cC l)).size<=5000))]):=by have:=as2 l t b;rw[apF a h,apG a]at this;simpa using this
def Yo(l:List (Int×T)):List af:=k0 (l.map fun x=>(x.1,x.2.e))
@[simp]def awu:Yo []=k0 []:=rfl
@[simp]def aw4(l:List (Int×T)):gY (Yo l)=false:=rfl
end
end Go.Proofs.YtahlgcidhnjlbaaGreat
namespace Go.Proofs
section
open Go.Shelf
def Tryz.lays191_ren:Go.Shelf.Ren:=⟨fun|191=>191|189=>220|125=>213|257=>250|128=>236|129=>237|294=>261|295=>262|296=>263|297=>264|298=>265|299=>266|216=>267|300=>268|301=>269|328=>272|329=>273|330=>274|331=>275|332=>276|215=>277|343=>278|n=>n,fun|28=>76|0=>0|3=>3|46=>192|51=>206|53=>208|4=>4|183=>230|182=>229|131=>214|5=>5|9=>9|218=>238|222=>226|228=>241|229=>236|n=>n,fun|n=>n⟩
def Tryz.lays191:Go.Proofs.Lays.n191 au Tryz.lays191_ren:={
 mixed:=bi
 f125:=Tryz.func213.trans (fy some bi)
 f128:=Tryz.func236.trans (fy some bi)
 f129:=Tryz.func237.trans (fy some bi)
 f189:=Tryz.func220.trans (fy some bi)
 f191:=Tryz.func191.trans (fy some bi)
 f215:=Tryz.func277.trans (fy some bi)
 f216:=Tryz.func267.trans (fy some bi)
 f257:=Tryz.func250.trans (fy some bi)
 f294:=Tryz.func261.trans (fy some bi)
 f295:=Tryz.func262.trans (fy some bi)
 f296:=Tryz.func263.trans (fy some bi)
 f297:=Tryz.func264.trans (fy some bi)
 f298:=Tryz.func265.trans (fy some bi)
 f299:=Tryz.func266.trans (fy some bi)
 f300:=Tryz.func268.trans (fy some bi)
 f301:=Tryz.func269.trans (fy some bi)
 f328:=Tryz.func272.trans (fy some bi)
 f329:=Tryz.func273.trans (fy some bi)
 f330:=Tryz.func274.trans (fy some bi)
 f331:=Tryz.func275.trans (fy some bi)
 f332:=Tryz.func276.trans (fy some bi)
 f343:=Tryz.func278.trans (fy some bi)
 t0:=Tryz.underlying0
 a0:=Tryz.isAgg0
 z0:=Tryz.sizeOf0
 v0:=Tryz.zeroValue0
 t3:=Tryz.underlying3
 a3:=Tryz.isAgg3
 z3:=Tryz.sizeOf3
 v3:=Tryz.zeroValue3
 t4:=Tryz.underlying4
 a4:=Tryz.isAgg4
 z4:=Tryz.sizeOf4
 v4:=Tryz.zeroValue4
 t5:=Tryz.underlying5
 a5:=Tryz.isAgg5
 z5:=Tryz.sizeOf5
 v5:=Tryz.zeroValue5
 t9:=Tryz.underlying9
 a9:=Tryz.isAgg9
 z9:=Tryz.sizeOf9
 v9:=Tryz.zeroValue9
 t28:=Tryz.underlying76
 a28:=Tryz.isAgg76
 z28:=Tryz.sizeOf76
 v28:=Tryz.zeroValue76
 t46:=Tryz.underlying192
 a46:=Tryz.isAgg192
 z46:=Tryz.sizeOf192
 v46:=Tryz.zeroValue192
 t51:=Tryz.underlying206
 a51:=Tryz.isAgg206
 z51:=Tryz.sizeOf206
 v51:=Tryz.zeroValue206
 t53:=Tryz.underlying208
 a53:=Tryz.isAgg208
 z53:=Tryz.sizeOf208
 v53:=Tryz.zeroValue208
 t131:=Tryz.underlying214
 a131:=Tryz.isAgg214
 z131:=Tryz.sizeOf214
 v131:=Tryz.zeroValue214
 t182:=Tryz.underlying229
 a182:=Tryz.isAgg229
 z182:=Tryz.sizeOf229
 v182:=Tryz.zeroValue229
 t183:=Tryz.underlying230
 a183:=Tryz.isAgg230
 z183:=Tryz.sizeOf230
 v183:=Tryz.zeroValue230
 t218:=Tryz.underlying238
 a218:=Tryz.isAgg238
 z218:=Tryz.sizeOf238
 v218:=Tryz.zeroValue238
 t222:=Tryz.underlying226
 a222:=Tryz.isAgg226
 z222:=Tryz.sizeOf226
 v222:=Tryz.zeroValue226
 t228:=Tryz.underlying241
 a228:=Tryz.isAgg241
 z228:=Tryz.sizeOf241
 v228:=Tryz.zeroValue241
 t229:=Tryz.underlying236
 a229:=Tryz.isAgg236
 z229:=Tryz.sizeOf236
 v229:=Tryz.zeroValue236}
end
end Go.Proofs

namespace Go.Proofs.YtahlgcidhnjlbaaGreat
section
open Go Go.Pv
def e2(xs:List Int):List af:=xs.map (af.int .i64)
def aba{w:World}{ν:bd}:∀{xs:List Int} {us:List Value},dw w ν 1 (e2 xs) us->us=xs.map (Value.int .i64)
 |[],us,h=>by simpa[e2,dw]using h
 |x::xs,us,h=>by simp only[e2,ha,dw]at h;obtain⟨u,a,rfl,⟨J,_,_⟩,U⟩:=h;simp only[aU]at J;subst J;rw[aba U];rfl
def Xn(w:World)(ν:bd):∀xs:List Int,dw w ν 1 (e2 xs) (xs.map (Value.int .i64))
 |[]=>by simp[e2,dw]
 |x::xs=>by simp only[e2,ha,dw];exact⟨.int .i64 x,_,rfl,⟨by simp[aU],rfl,by intro c aw;simp[pw]at aw;subst aw;rfl⟩,Xn w ν xs⟩
def oo(K:Nat)(xs:List Int):cT:=⟨[],[(.obj K,⟨xs.length,3,1,some (e2 xs)⟩)]⟩
def uX(S:aB->Prop)(xs:List Int):aH S (e2 xs):=by
 induction xs with
 |nil=>simp[e2,aH]
 |cons x r a=>simp only[e2,ha,aH,az];exact⟨trivial,a⟩
def KD(K:Nat)(xs:List Int):eA (oo K xs):=by unfold oo;refine eA.of ⟨by intro m;simp[ae],by intro m;simp[ae]⟩ Ψ ?_;intro x a ys b;simp at a;subst a;simp at b;subst b;exact uX _ xs
def sC(xs:List Int):List Int:=xs.mergeSort fun x y=>decide (x<=y)
def abI(xs:List Int):(sC xs).length=xs.length:=List.length_mergeSort xs
def ajr(K:Nat)(xs:List Int)(av:xs.length<=1000000):bH au 191 [.row 1 (.obj K) xs.length] (oo K xs) fun r O=>r= .tuple []/\O=oo K (sC xs):=by
 refine bH.sem (KD K xs).obj fun w ν bm E f=>?_;refine .inl ⟨⟨Tryz.f191,Tryz.func191,by kernel_rfl,by kernel_rfl⟩,?_⟩;have b:=f.slot 0;simp only[je,Pv.get,if_true]at b;have l:ae (.obj K) (oo K xs).e=some ⟨xs.length,3,1,some (e2 xs)⟩:=by simp[oo,ae]
 obtain⟨v,us,m,p,Z,G⟩:=f.good.own (.obj K) _ l;obtain⟨X,B,V⟩:=G _ rfl;have z:=aba B;subst z;simp only[aU]at b;obtain⟨⟨R,Q,y⟩,_,n',u,d,aC,M⟩:=b;rw[m]at d;simp only[dU,js]at d;obtain⟨rfl,rfl⟩:=d;have t:=M rfl;have c:bm= #[v]:=by
  have J:bm.size=1:=by simpa using E
  apply Array.ext (by simpa using J);intro i U s;simp at s;subst s;rw[<-t];simp[Array.getD,J]
 have H:v≠ .slice none 0 0:=by rw[<-t,y];simp
 obtain⟨g,cap,rfl,_,A,W,N,Eg,S⟩:=Lib.holds_of_ownsRow p H;have aw:=Any.sort_Ints Tryz.lays191 g 0 cap xs w S A Ω;subst c;refine aw.mono ?_;rintro e w' ⟨rfl,n,os,rfl⟩;have a:=abI xs;have h:=Lib.ownsRow_putRow (q:=n) (k:=xs.length) (ys:=sC xs) p a (dP _);rw[ix Ω]at h;obtain⟨L,Y,_⟩:=f.setRowM (w':=Sort.putRow (Value.int .i64) (Sort.ahead w n) g 0 (sC xs).toArray) l rfl m (bl:=g) rfl (v':= .slice (some ⟨g,0,none⟩) xs.length cap) rfl (xs':=e2 (sC xs)) (us:=(sC xs).map (Value.int .i64)) (.inl ⟨by simp[e2,a],rfl⟩) rfl rfl rfl
  (fun j P=>by simp[Sort.putRow,Sort.mapBlock,Sort.ahead,Array.getElem?_modify,Ne.symm P]) (by simp[Sort.putRow,Sort.mapBlock,Sort.ahead]) (by simpa[e2,a]using h) (Xn _ _ _)
 have F:=L.grown (w':=Sort.grow (Sort.putRow (Value.int .i64) (Sort.ahead w n) g 0 (sC xs).toArray) os) ⟨rfl,rfl,rfl,Ψ,fun k ab _=>Sort.heap_grow_old _ _ ab⟩;refine⟨_,_,_,_,.tuple [],oo K (sC xs),rfl,F,by simp[aU,c7],by simp[oo,lY],?_,?_,?_,(KD K _).obj,by simp[az,aH],rfl,rfl⟩
 ·simp[oo,lY,aM,ae]
 ·intro k cs ab;simp[oo,ae]at ab
 ·intro k o ab;have hm:=u0 ab;simp[oo]at hm;obtain⟨rfl,rfl⟩:=hm;refine⟨by simp[oo,ae,cK,e2,a],.inr (by simp[ab]),fun ys x=>?_⟩;simp at x;subst x;exact uX _ _
def pJ(l:List Int):List af:=k0 (l.map fun x=>(x,.bool true))
def n1(S:aB->Prop)(l:List Int):aH S (pJ l):=by
 have:∀l:List Int,aH S (flat (l.map fun x=>(x,.bool true))):=by
  intro l;induction l with
  |nil=>simp[flat,aH]
  |cons x r a=>simp[flat,aH,a,az]
 simp[pJ,k0,aH,this,az]
def KP(v:Int)(l:List Int):List Int:=if v∈l then l else l++[v]
def RF(k:Int):∀l:List Int,ql k (.bool true) (l.map fun x=>(x,af.bool true))=if k∈l then some (l.map fun x=>(x,af.bool true))else none
 |[]=>rfl
 |i::r=>by
  by_cases h:k=i
  ·simp[ql,h]
  ·by_cases U:k∈r<;>simp[ql,h,U,RF k r]
@[simp]def awK(k:Int)(l:List Int):qO .i (aj k) (.bool true) (pJ l)=some (pJ (KP k l)):=by
 simp only[pJ,YX,GC,RF,KP];split<;>rename_i h
 ·split at h
  ·simp at h;subst h;simp[*]
  ·cases h
 ·split at h
  ·cases h
  ·simp[*]
@[simp]def atZ:pJ []=k0 []:=rfl
@[simp]def aw2(l:List Int):gY (pJ l)=false:=rfl
@[simp]def axa(m:aB)(l:List Int):z8 m (pJ l)=some (cd l.length [] m):=by simp[pJ]
def amC(f:aB->be (List af))(gl mk:aB)(n:Nat)(seen:List Nat)(b:Nat)(l:List Int)(x:Int)(hi:f gl=some (cd n (seen++[b]) mk))(hm:f mk=some (pJ l))(c:n=l.length)(a:l[b]? =some x):qM f (.ptr gl 0)=some (True,.tuple [aj x,.bool true]):=by rw[Yz f gl mk n seen b _ hi hm (by simpa using c)];simp[a]
def afx{st:bp}{d:Nat}{K:bp->Prop}{gl mk:aB}{n:Nat}{seen:List Nat}{l:List Int}(hi:ae gl st.b=some (cd n seen mk))(hm:ae mk st.b=some (pJ l))(g:n=l.length)
  (J:(∀b,b<l.length->b∈seen)->K {st with t:=Pv.put d (.tuple [.bool false]) st.t}) (U:∀b x,l[b]? =some x->b∉seen->K {st with t:=Pv.put d (.tuple [.bool true,aj x,.bool true]) st.t,b:=cK gl (cd n (seen++[b]) mk) st.b}):
  uC st d (.ptr gl 0) K:=by
 refine UI hi hm (by simpa using g) (fun h=>J fun b a=>h b Ω) (fun b k v a f=>?_);simp only[List.getElem?_map,hs]at a;obtain⟨x,e,c⟩:=a;simp only[js]at c;obtain⟨rfl,rfl⟩:=c;exact U b x e f
def _root_.Go.Pv.T.fold{α:Type}(f:Int->α->α):T->α->α
 | .var n,a=>f n a
 | .pair x y,a=>y.fold f (x.fold f a)
 |_,a=>a
def VE{α:Type}(S:α->cT)(dF:∀a,eA (S a))(e8:∀a b,Same (S a) (S b))(g:Nat)(dH:List af)(aw:∀a,aH (aM (S a)) dH)(dy:cf dH=dH)(f:Int->α->α)(l:∀v a,bH au g (aj v::dH) (S a) fun r e=>r= .tuple []/\e=S (f v a))(t:T):
  ∀a,bH au 134 [t.e,.func g dH] (S a) fun r e=>r= .tuple []/\e=S (t.fold f a):=by
 have c:∀a m,ae (.loc m) (S a).b=none:=fun a=>(dF a).obj.1;have hu:∀a m cs,cK (.loc m) cs (S a).b=(S a).b++[(.loc m,cs)]:=fun a m cs=>kO (c a m);have ar:∀a m,aB.loc m∉cL (S a):=fun a=>kK (dF a).obj;induction t with
 |pair x y k j=>intro a;have d:=dF a;refine bH.mk mixed a1 Tryz.func134 Co Ψ d.obj fun i h=>?_;unfold yR;simp[hu,ar,c6,c,dy];(repeat' first|refine ao ?_|simp[hu,ar,c6,c]);refine CallDo.ob (k a) d aX aX (by simp[aw]) ?_;rintro r e ⟨rfl,rfl⟩;refine⟨e8 _ _,?_⟩;simp[hK,jA,cM,c];(repeat' first|refine ao ?_|simp[hu,ar,c6,c]);rw[dy];refine CallDo.ob (j (x.fold f a)) (dF (x.fold f a)) aX aX (by simp[aw]) ?_;rintro r e ⟨rfl,rfl⟩;refine⟨e8 _ _,?_⟩;simp[hK,jA,cM,c];refine c5.at (S (y.fold f (x.fold f a))) (.inr rfl) (dF _) (e8 _ _) aX aX ?_;simp[dd,bc,bf,a6];simp[T.fold]
 |var n=>intro a;have d:=dF a;refine bH.mk mixed a1 Tryz.func134 Co Ψ d.obj fun i h=>?_;unfold yR;simp[hu,ar,c6,c,dy];(repeat' first|refine ao ?_|simp[hu,ar,c6,c]);refine CallDo.ob (l n a) d aX aX (by simp[aw]) ?_;rintro r e ⟨rfl,rfl⟩;refine⟨e8 _ _,?_⟩;simp[hK,jA,cM,c,c6];refine c5.at (S (f n a)) (.inr rfl) (dF _) (e8 _ _) aX aX ?_;simp[dd,bc,bf,a6];simp[T.fold]
 |_=>intro a;have d:=dF a;refine bH.mk mixed a1 Tryz.func134 Co Ψ d.obj fun i h=>?_;unfold yR;simp[hu,ar,c6,c,dy];(repeat' first|refine ao ?_|simp[hu,ar,c6,c]);refine c5.at (S a) (.inr rfl) d (Same.refl _) aX aX ?_;simp[dd,bc,bf,a6];simp[T.fold]
def vw(l:List Int):cT:=⟨[(.obj 304,pJ l)],[]⟩
def Ro(l:List Int):eA (vw l):=by unfold vw;exact eA.of ⟨by intro m;simp[ae],by intro m;simp[ae]⟩ (by simp[n1,aH,az,aM,ae]) Ψ
def K4:C:=(aa [c0 1 0,bz 2 false] (.seq (.seq (.fz false 1 (.region [ay 6 1 1,cY 7 158 6,cO 8 7])) (aW 8 (aa [bz 2 false] .ret) .skip)) (.seq (aa [ay 9 1 1,cw 10 9,bQ 11 0] (gx 12 11 10 (.seq (.block 1 (aa [ck 13 5 9 11,bk 14 5 13,dI 4 kx,bV 5 4 14] (aa [dt (.alloc 5 (some 731) (.bool false)),dt (.store 1 (.t 5) (.c (.bool true)))] (aa [hr 15 1 4 4,bk 16 4 15,cb 17 (.mkf 159 [.t 1,.t 5]),cc 18 134 16 17] (aa [ay 19 1 5,cO 20 19,I 21 20,ax 21 false (hr 22 1 4 4),ax 21 false (aF 23 0 1 22),ax 21 false (ay 24 1 23),ax 21 false (aV 25 .eql 24 1),cg 21 false 26 25,ax 26 true (hr 27 1 4 4),ax 26 true (aF 28 1 1 27),ax 26 true (ay 29 1 28),ax 26 true (aF 30 0 1 4),ax 26 true (ay 31 1 30),ax 26 true (bu 32 .geq 29 31),ax 21 false (ei 33 26 32),ds 34 21 33] (aW 34 (aa [bz 2 false] .ret) .skip)))))) (.region [aV 35 .add 11 1,I 11 35])))) (aa [bz 2 true] .ret))))
def K5:C:=(aa [ay 4 1 1,I 5 0,cc 6 139 4 5,aV 7 .geq 6 0] (aW 7 (.region [dt (.store 1 (.t 2) (.c (.bool false)))]) .skip))
def R5:C:=(aa [fw 4 5,bz 5 false] (.seq (aa [I 8 0,cY 9 86 8,cO 10 9,I 11 10,cg 11 false 12 1,ax 11 false (cY 13 86 12),ax 11 false (cO 14 13),ds 15 11 14] (aW 15 (aa [fw 4 5,bz 5 false] .ret) .skip)) (aa [I 17 1,cY 18 205 17,I 16 18,cV 19 0 16,cV 20 1 16,I 6 19,I 7 20] (aa [I 21 0,I 22 6,I 23 7,dT 24 186 [.t 21,.t 22,.t 23],cV 25 0 24,cV 26 1 24,I 4 25,I 5 26] .ret))))
def Sa:C:=(aa [fw 4 5] (.seq (aa [I 8 0,cY 9 86 8,cO 10 9,I 11 10,cg 11 false 12 1,ax 11 false (cY 13 86 12),ax 11 false (cO 14 13),ds 15 11 14] (aW 15 (aa [fw 4 5] .ret) .skip)) (aa [fe 16 5 113 [],I 5 16] (.seq (aa [I 17 1,cw 18 17,bQ 19 0] (gx 20 19 18 (.seq (.block 1 (aa [ck 21 5 17 19,bk 22 5 21,dI 7 kx,bV 5 7 22] (aa [I 23 0,aF 24 0 1 7,ay 25 1 24,cc 26 139 23 25,aV 27 .lss 26 0] (aW 27 (.drawn true 39 [I 28 5,aF 29 0 1 7,ay 30 1 29,hr 31 1 4 7,bk 32 4 31,cY 33 143 32,jr 34 kx [(0,1,(.t 30)),(1,4,(.t 33))],fe 35 5 113 [.t 34],h3 36 5 113 28 35,I 5 36]) .skip)))) (.region [aV 37 .add 19 1,I 19 37])))) (aa [I 38 5,I 4 38] .ret)))))
def K8:C:=(aa [fw 2 5] (aa [fe 6 5 113 [],I 3 6] (.seq (aa [I 7 0,cw 8 7,bQ 9 0] (gx 10 9 8 (.seq (.block 1 (aa [ck 11 5 7 9,bk 12 5 11,dI 5 kx,bV 5 5 12] (.drawn true 24 [I 13 3,aF 14 0 1 5,ay 15 1 14,hr 16 1 4 5,bk 17 4 16,cY 18 143 17,jr 19 kx [(0,1,(.t 15)),(1,4,(.t 18))],fe 20 5 113 [.t 19],h3 21 5 113 13 20,I 3 21]))) (.region [aV 22 .add 9 1,I 9 22])))) (aa [I 23 3,I 2 23] .ret))))
def K9:C:=(aa [bz 4 false] (.seq (aa [I 6 0,cw 7 6,I 8 1,cw 9 8,bu 10 .neq 7 9] (aW 10 (aa [bz 4 false] .ret) .skip)) (.seq (aa [I 11 0,cw 12 11,bQ 13 0] (gx 14 13 12 (.seq (.block 1 (aa [I 15 13,I 5 15] (.seq (.drawn true 42 [I 16 0,I 17 5,ck 18 5 16 17,aF 19 0 1 18,ay 20 1 19,I 21 1,I 22 5,ck 23 5 21 22,aF 24 0 1 23,ay 25 1 24,bu 26 .neq 20 25,I 27 26,cg 27 false 28 0,cg 27 false 29 5,ax 27 false (ck 30 5 28 29),ax 27 false (hr 31 1 4 30),ax 27 false (bk 32 4 31),cg 27 false 33 1,cg 27 false 34 5,ax 27 false (ck 35 5 33 34),ax 27 false (hr 36 1 4 35),ax 27 false (bk 37 4 36),ax 27 false (cc 38 142 32 37),ax 27 false (cO 39 38),ds 40 27 39]) (aW 40 (aa [bz 4 false] .ret) .skip)))) (.region [aV 41 .add 13 1,I 13 41])))) (aa [bz 4 true] .ret))))
def St:C:=(aa [fw 2 4,fw 3 4] (aa [fe 8 4 30 [],I 4 8] (aa [fe 9 4 30 [],I 5 9] (.seq (aa [I 10 0,cw 11 10,bQ 12 0] (gx 13 12 11 (.seq (.block 1 (aa [ck 14 5 10 12,bk 15 5 14,dI 7 kx,bV 5 7 15] (aa [I 16 4,aF 17 0 1 7,ay 18 1 17,cY 19 116 18,fe 20 4 30 [.t 19],h3 21 4 30 16 20,I 4 21] (.region [I 22 5,hr 23 1 4 7,bk 24 4 23,fe 25 4 30 [.t 24],h3 26 4 30 22 25,I 5 26])))) (.region [aV 27 .add 12 1,I 12 27])))) (aa [I 28 4,I 29 5,I 2 28,I 3 29] .ret)))))
def Sz:C:=(aa [bQ 4 0] (.seq (aa [bQ 5 0] (.block 0 (.loop (.seq (aa [I 8 5,I 9 0,cw 10 9,bu 11 .lss 8 10,I 12 11,cg 12 true 13 5,cg 12 true 14 1,ax 12 true (cw 15 14),ax 12 true (bu 16 .lss 13 15),ei 17 12 16] (aW 17 .skip (.exit 0))) (.seq (.block 1 (.seq (.seq (.drawn true 53 [I 20 0,I 21 5,ck 22 5 20 21,aF 23 0 1 22,ay 24 1 23,I 25 1,I 26 5,ck 27 5 25 26,aF 28 0 1 27,ay 29 1 28,cc 30 190 24 29,I 6 30]) (aa [I 31 6,aV 32 .neq 31 0] (aW 32 (aa [I 33 6,I 4 33] .ret) .skip))) (.seq (.drawn true 53 [I 34 0,I 35 5,ck 36 5 34 35,hr 37 1 4 36,bk 38 4 37,I 39 1,I 40 5,ck 41 5 39 40,hr 42 1 4 41,bk 43 4 42,cc 44 133 38 43,I 7 44]) (aa [I 45 7,aV 46 .neq 45 0] (aW 46 (aa [I 47 7,I 4 47] .ret) .skip))))) (.region [I 18 5,aV 19 .add 18 1,I 5 19])))))) (aa [I 48 0,cw 49 48,I 50 1,cw 51 50,cc 52 190 49 51,I 4 52] .ret)))
def Sw:C:=(aa [bz 4 false] (.seq (aa [I 11 0,cw 12 11,bQ 13 0] (gx 14 13 12 (.seq (.block 1 (aa [ck 15 5 11 13,bk 16 5 15,dI 6 kx,bV 5 6 16] (aa [I 18 1,aF 19 0 1 6,ay 20 1 19,cY 21 116 20,cc 22 69 18 21,I 17 22,cV 23 0 17,cV 24 1 17,dI 7 eC,bV 4 7 23,I 8 24] (aa [I 26 1,hr 27 1 4 6,bk 28 4 27,cc 29 69 26 28,I 25 29,cV 30 0 25,cV 31 1 25,dI 9 eC,bV 4 9 30,I 10 31] (aa [I 32 8,cO 33 32,I 34 33,cg 34 false 35 10,ax 34 false (cO 36 35),ds 37 34 36,I 38 37,ax 38 false (bk 39 4 7),ax 38 false (bk 40 4 9),ax 38 false (cc 41 142 39 40),ax 38 false (cO 42 41),ds 43 38 42] (aW 43 (aa [bz 4 false] .ret) .skip)))))) (.region [aV 44 .add 13 1,I 13 44])))) (aa [bz 4 true] .ret)))
def Zf:b4 aT K4 [.tmp 2] 1 Tryz.f86=true:=bi
def Zg:b4 aT K5 [] 3 Tryz.f159=true:=bi
def anw:b4 aT R5 [.tmp 4,.tmp 5] 2 Tryz.f165=true:=bi
def anC:b4 aT Sa [.tmp 4] 2 Tryz.f166=true:=bi
def Zj:b4 aT K8 [.tmp 2] 1 Tryz.f168=true:=bi
def Zk:b4 aT K9 [.tmp 4] 2 Tryz.f169=true:=bi
def anU:b4 aT St [.tmp 2,.tmp 3] 1 Tryz.f205=true:=bi
def an0:b4 aT Sz [.tmp 4] 2 Tryz.f207=true:=bi
def anX:b4 aT Sw [.tmp 4] 2 Tryz.f208=true:=bi
def SI:C:=(aa [dI 2 eC] (aa [I 3 0,jr 4 eC [(0,1,(gV 1)),(1,1,(.t 3))],bV 4 2 4] .ret))
def Sx:C:=(aa [cb 0 (.mov (.c (.nilp)))] (aa [dt (.mkmap 1 (some 702)),dt (.mkmap 2 (some 703)),dt (.mkmap 3 (some 704)),dt (.mkmap 4 (some 705)),dt (.mkmap 5 (some 706)),dt (.mkmap 6 (some 707)),cb 7 (.build [.junk,.junk,.junk,.junk,.junk,.junk] [(0,1,(.t 1)),(1,1,(.t 2)),(2,1,(.t 3)),(3,1,(.t 4)),(4,1,(.t 5)),(5,1,(.t 6))]),c0 8 7,I 0 8] (.fz true 0 .ret)))
def Sm:C:=(aa [bQ 4 0] (.seq (aa [I 8 0,gw 9 8,aF 10 0 1 9,ay 11 1 10,I 12 1,cb 13 (.mget .i (.int .i64 0) true (.t 11) (.t 12)),I 7 13,cV 14 0 7,cV 15 1 7,I 5 14,I 6 15] (aa [I 16 6,cO 17 16] (aW 17 (.region [I 18 0,gw 19 18,aF 20 0 1 19,ay 21 1 20,I 22 1,I 23 1,dt (.mput .i (.t 21) (.t 22) (.t 23))]) .skip))) (.seq (.block 0 (.loop (.seq (aa [I 24 0,gw 25 24,aF 26 0 1 25,ay 27 1 26,I 28 1,cb 29 (.mget .i (.int .i64 0) false (.t 27) (.t 28)),I 30 1,bu 31 .neq 29 30] (aW 31 .skip (.exit 0))) (.block 1 (.seq (.drawn true 55 [I 32 0,gw 33 32,aF 34 0 1 33,ay 35 1 34,I 36 1,I 37 0,gw 38 37,aF 39 0 1 38,ay 40 1 39,I 41 0,gw 42 41,aF 43 0 1 42,ay 44 1 43,I 45 1,cb 46 (.mget .i (.int .i64 0) false (.t 44) (.t 45)),cb 47 (.mget .i (.int .i64 0) false (.t 40) (.t 46)),dt (.mput .i (.t 35) (.t 36) (.t 47))]) (.region [I 48 0,gw 49 48,aF 50 0 1 49,ay 51 1 50,I 52 1,cb 53 (.mget .i (.int .i64 0) false (.t 51) (.t 52)),I 1 53])))))) (aa [I 54 1,I 4 54] .ret))))
def Si:C:=(aa [c0 2 0,c0 3 1] (.fz false 2 (.region [bk 4 4 3,cb 5 (.mkf 245 [.t 2]),cc 6 134 4 5])))
def w4:C:=(aa [c0 4 1,c0 5 2,bz 6 false] (.seq (.block 0 (aa [aF 12 0 1 4,ay 13 1 12,aV 14 .eql 13 1,I 15 14,ax 15 true (aF 16 0 1 5),ax 15 true (ay 17 1 16),ax 15 true (aV 18 .eql 17 1),ei 19 15 18,I 11 19] (aW 11 (aa [I 20 0,aF 21 1 1 4,ay 22 1 21,cc 23 216 20 22,I 7 23] (aa [I 24 0,aF 25 1 1 5,ay 26 1 25,cc 27 216 24 26,I 8 27] (.seq (aa [I 28 7,I 29 8,bu 30 .eql 28 29] (aW 30 (aa [bz 6 true] .ret) .skip)) (.seq (aa [I 31 8,I 32 7,bu 33 .lss 31 32] (aW 33 (.region [I 34 8,I 35 7,I 7 34,I 8 35]) .skip)) (aa [I 36 0,gw 37 36,aF 38 0 1 37,ay 39 1 38,I 40 8,I 41 7,dt (.mput .i (.t 39) (.t 40) (.t 41))] (.seq (aa [I 42 0,gw 43 42,aF 44 2 1 43,ay 45 1 44,I 46 8,cb 47 (.mget .i (.bool false) false (.t 45) (.t 46)),cO 48 47] (aW 48 (aa [I 49 0,gw 50 49,aF 51 2 1 50,ay 52 1 51,I 53 7,cb 54 (.mget .i (.bool false) false (.t 52) (.t 53)),cO 55 54,I 56 55,cg 56 false 57 0,cg 56 false 58 0,ax 56 false (gw 59 58),ax 56 false (aF 60 1 1 59),ax 56 false (ay 61 1 60),cg 56 false 62 7,yz 56 false 63 (.mget .i (.agg eC) false (.t 61) (.t 62)),cg 56 false 64 7,ys 56 false (.mkmap 65 (some 715)),ax 56 false (dT 66 246 [.t 57,.t 63,.t 64,.t 65]),ax 56 false (cO 67 66),ds 68 56 67,I 6 68] .ret) .skip)) (aa [I 69 0,gw 70 69,aF 71 1 1 70,ay 72 1 71,I 73 8,cb 74 (.mget .i (.agg eC) false (.t 72) (.t 73)),dI 9 eC,bV 4 9 74] (.seq (aa [I 75 0,gw 76 75,aF 77 2 1 76,ay 78 1 77,I 79 7,cb 80 (.mget .i (.bool false) false (.t 78) (.t 79)),cO 81 80] (aW 81 (aa [I 82 0,I 83 7,bk 84 4 9,dT 85 247 [.t 82,.t 83,.t 84],I 6 85] .ret) .skip)) (.seq (.drawnW [715,716] 198 [I 86 0,bk 87 4 9,I 88 7,dt (.mkmap 89 (some 715)),dT 90 246 [.t 86,.t 87,.t 88,.t 89],cO 91 90,I 92 91,cg 92 true 93 0,cg 92 true 94 0,ax 92 true (gw 95 94),ax 92 true (aF 96 1 1 95),ax 92 true (ay 97 1 96),cg 92 true 98 7,yz 92 true 99 (.mgetB .i (.agg eC) false (.t 97) (.t 98)),cg 92 true 100 7,ys 92 true (.mkmap 101 (some 716)),ax 92 true (dT 102 246 [.t 93,.t 99,.t 100,.t 101]),ax 92 true (cO 103 102),ei 104 92 103,I 105 104,cg 105 true 106 0,cg 105 true 107 0,ax 105 true (gw 108 107),ax 105 true (aF 109 1 1 108),ax 105 true (ay 110 1 109),cg 105 true 111 7,yz 105 true 112 (.mgetB .i (.agg eC) false (.t 110) (.t 111)),ax 105 true (bk 113 4 9),ax 105 true (dT 114 218 [.t 106,.t 112,.t 113]),ei 115 105 114,I 6 115]) .ret))))))))) (aa [aF 117 0 1 4,ay 118 1 117,aV 119 .eql 118 1,I 116 119] (aW 116 (aa [I 120 0,aF 121 1 1 4,ay 122 1 121,cc 123 216 120 122,I 10 123] (.seq (aa [I 124 0,gw 125 124,aF 126 2 1 125,ay 127 1 126,I 128 10,cb 129 (.mget .i (.bool false) false (.t 127) (.t 128)),cO 130 129] (aW 130 (aa [I 131 0,I 132 10,bk 133 4 5,dT 134 247 [.t 131,.t 132,.t 133],I 6 134] .ret) .skip)) (.seq (.drawn false 198 [I 135 0,I 136 0,gw 137 136,aF 138 1 1 137,ay 139 1 138,I 140 10,cb 141 (.mgetB .i (.agg eC) false (.t 139) (.t 140)),bk 142 4 5,dT 143 218 [.t 135,.t 141,.t 142],I 6 143]) .ret))) (aa [aF 145 0 1 5,ay 146 1 145,aV 147 .eql 146 1,I 144 147] (aW 144 (aa [I 148 0,bk 149 4 5,bk 150 4 4,dT 151 218 [.t 148,.t 149,.t 150],I 6 151] .ret) (aa [aF 153 0 1 4,ay 154 1 153,aF 155 0 1 5,ay 156 1 155,bu 157 .neq 154 156,I 158 157,ax 158 false (aF 159 1 1 4),ax 158 false (ay 160 1 159),ax 158 false (aF 161 1 1 5),ax 158 false (ay 162 1 161),ax 158 false (bu 163 .neq 160 162),ds 164 158 163,I 165 164,ax 165 false (aF 166 2 1 4),ax 165 false (ay 167 1 166),ax 165 false (aF 168 2 1 5),ax 165 false (ay 169 1 168),ax 165 false (bu 170 .neq 167 169),ds 171 165 170,I 152 171] (aW 152 (aa [bz 6 false] .ret) (aa [aF 173 0 1 4,ay 174 1 173,aV 175 .eql 174 4,I 172 175] (aW 172 (.seq (.drawn false 198 [I 176 0,aF 177 3 1 4,ay 178 1 177,kC 179 4 178 0,bk 180 4 179,aF 181 3 1 5,ay 182 1 181,kC 183 4 182 0,bk 184 4 183,dT 185 218 [.t 176,.t 180,.t 184],I 186 185,cg 186 true 187 0,ax 186 true (aF 188 3 1 4),ax 186 true (ay 189 1 188),ax 186 true (kC 190 4 189 1),ax 186 true (bk 191 4 190),ax 186 true (aF 192 3 1 5),ax 186 true (ay 193 1 192),ax 186 true (kC 194 4 193 1),ax 186 true (bk 195 4 194),ax 186 true (dT 196 218 [.t 187,.t 191,.t 195]),ei 197 186 196,I 6 197]) .ret) .skip))))))))))) (aa [bz 6 true] .ret)))
def Sj:C:=(.region [ay 3 1 1,I 4 0,cc 5 216 3 4])
def Sk:C:=(aa [c0 4 0,c0 5 1,c0 6 2,c0 7 3,bz 8 false] (aa [dt (.alloc 9 (some 712) (.bool false)),dt (.store 1 (.t 9) (.c (.bool false)))] (.seq (.fz false 7 (.fz false 6 (.fz false 4 (.region [bk 10 4 5,cb 11 (.mkf 257 [.t 4,.t 9,.t 6,.t 7]),cc 12 134 10 11])))) (aa [ay 13 1 9,I 8 13] .ret))))
def Sh:C:=(aa [c0 5 2,bz 6 false] (.seq (.drawn true 24 [I 7 0,gw 8 7,aF 9 1 1 8,ay 10 1 9,I 11 1,bk 12 4 5,dt (.mput .i (.t 10) (.t 11) (.t 12))]) (aa [I 13 0,gw 14 13,aF 15 2 1 14,ay 16 1 15,I 17 1,dt (.mput .i (.t 16) (.t 17) (.c (.bool true)))] (aa [I 18 0,bk 19 4 5,I 20 1,dt (.mkmap 21 (some 715)),dT 22 246 [.t 18,.t 19,.t 20,.t 21],cO 23 22,I 6 23] .ret))))
def AR:C:=(aa [c0 2 0,bz 4 false] (.seq (.seq (.fz false 2 (.region [ay 6 1 2,gw 7 6,aF 8 3 1 7,ay 9 1 8,I 10 1,cb 11 (.mget .i (.int .i64 0) false (.t 9) (.t 10)),aV 12 .eql 11 2])) (aW 12 (aa [bz 4 true] .ret) .skip)) (.seq (aa [ay 13 1 2,gw 14 13,aF 15 3 1 14,ay 16 1 15,I 17 1,cb 18 (.mget .i (.int .i64 0) false (.t 16) (.t 17)),aV 19 .eql 18 1] (aW 19 (aa [bz 4 false] .ret) .skip)) (aa [ay 20 1 2,gw 21 20,aF 22 3 1 21,ay 23 1 22,I 24 1,dt (.mput .i (.t 23) (.t 24) (gV 1))] (aa [ay 25 1 2,gw 26 25,aF 27 4 1 26,ay 28 1 27,I 29 1,dt (.mput .i (.t 28) (.t 29) (gV 1))] (.seq (aa [ay 30 1 2,gw 31 30,aF 32 2 1 31,ay 33 1 32,I 34 1,cb 35 (.mget .i (.bool false) false (.t 33) (.t 34))] (aW 35 (aa [dt (.alloc 5 (some 712) (.bool false)),dt (.store 1 (.t 5) (.c (.bool true)))] (aa [ay 36 1 2,gw 37 36,aF 38 1 1 37,ay 39 1 38,I 40 1,cb 41 (.mget .i (.agg eC) false (.t 39) (.t 40)),cb 42 (.mkf 258 [.t 5,.t 2]),cc 43 134 41 42] (.seq (aa [ay 44 1 5,cO 45 44] (aW 45 (aa [bz 4 false] .ret) .skip)) (.drawn false 64 [ay 46 1 2,gw 47 46,aF 48 4 1 47,ay 49 1 48,I 50 1,ay 51 1 2,gw 52 51,aF 53 1 1 52,ay 54 1 53,I 55 1,cb 56 (.mgetB .i (.agg eC) false (.t 54) (.t 55)),cb 57 (.mkf 259 [.t 2]),cc 58 192 56 57,dt (.mput .i (.t 49) (.t 50) (.t 58))])))) .skip)) (aa [ay 59 1 2,gw 60 59,aF 61 3 1 60,ay 62 1 61,I 63 1,dt (.mput .i (.t 62) (.t 63) (gV 2))] (aa [bz 4 true] .ret))))))))
def GL:C:=(aa [c0 2 0,dI 4 eC] (.seq (.seq (.fz false 2 (.region [ay 9 1 2,gw 10 9,aF 11 5 1 10,ay 12 1 11,I 13 1,cb 14 (.mget .i (.agg eC) true (.t 12) (.t 13)),I 8 14,cV 15 0 8,cV 16 1 8,dI 5 eC,bV 4 5 15,I 6 16])) (aa [I 17 6] (aW 17 (aa [bk 18 4 5,bV 4 4 18] .ret) .skip))) (aa [I 19 1,cY 20 116 19,dI 7 eC,bV 4 7 20] (.seq (aa [ay 21 1 2,gw 22 21,aF 23 2 1 22,ay 24 1 23,I 25 1,cb 26 (.mget .i (.bool false) false (.t 24) (.t 25))] (aW 26 (.region [ay 27 1 2,gw 28 27,aF 29 1 1 28,ay 30 1 29,I 31 1,cb 32 (.mget .i (.agg eC) false (.t 30) (.t 31)),cb 33 (.mkf 260 [.t 2]),cc 34 194 32 33,bV 4 7 34]) .skip)) (.seq (.drawn true 42 [ay 35 1 2,gw 36 35,aF 37 5 1 36,ay 38 1 37,I 39 1,bk 40 4 7,dt (.mput .i (.t 38) (.t 39) (.t 40))]) (aa [bk 41 4 7,bV 4 4 41] .ret))))))
def Sl:C:=(aa [ay 7 1 1,I 8 0,cc 9 216 7 8,I 6 9] (.seq (aa [ay 10 1 2,I 11 10,cg 11 false 12 6,ax 11 false (ay 13 1 3),ax 11 false (bu 14 .eql 12 13),ds 15 11 14] (aW 15 (aa [dt (.store 1 (.t 2) (.c (.bool true)))] .ret) .skip)) (aa [ay 16 1 4,I 17 6,cb 18 (.mget .i (.bool false) false (.t 16) (.t 17)),cO 19 18,I 20 19,ax 20 true (ay 21 1 1),ax 20 true (gw 22 21),ax 20 true (aF 23 2 1 22),ax 20 true (ay 24 1 23),cg 20 true 25 6,ax 20 true (cb 26 (.mget .i (.bool false) false (.t 24) (.t 25))),ei 27 20 26] (aW 27 (aa [ay 28 1 4,I 29 6,dt (.mput .i (.t 28) (.t 29) (.c (.bool true)))] (.drawn false 40 [ay 30 1 1,ay 31 1 1,gw 32 31,aF 33 1 1 32,ay 34 1 33,I 35 6,cb 36 (.mgetB .i (.agg eC) false (.t 34) (.t 35)),ay 37 1 3,ay 38 1 4,dT 39 246 [.t 30,.t 36,.t 37,.t 38],bV 1 2 39])) .skip))))
def K7:C:=(.seq (.drawn false 13 [cb 4 (.loadB false 1 (.t 1)),I 5 4,ax 5 true (ay 6 1 2),ax 5 true (ay 7 1 2),cg 5 true 8 0,ax 5 true (cc 9 216 7 8),ax 5 true (cc 10 248 6 9),ax 5 true (cO 11 10),ei 12 5 11]) (aW 12 (.region [dt (.store 1 (.t 1) (.c (.bool false)))]) .skip))
def Sq:C:=(aa [bQ 3 0] (.seq (.drawn false 12 [ay 4 1 1,gw 5 4,aF 6 4 1 5,ay 7 1 6,ay 8 1 1,I 9 0,cc 10 216 8 9,cb 11 (.mgetB .i (.int .i64 0) false (.t 7) (.t 10)),I 3 11]) .ret))
def Sp:C:=(aa [dI 3 eC,bz 4 false] (.seq (.drawn false 10 [ay 5 1 1,ay 6 1 1,I 7 0,cc 8 216 6 7,cc 9 249 5 8,bV 4 3 9,bz 4 true]) .ret))
def an9:b4 aT SI [.cell 2 true 4] 1 Tryz.f116=true:=bi
def anY:b4 aT Sx [.tmp 0] 0 Tryz.f215=true:=bi
def anO:b4 aT Sm [.tmp 4] 2 Tryz.f216=true:=bi
def anK:b4 aT Si [] 2 Tryz.f217=true:=bi
def zS:b4 aT w4 [.tmp 6] 3 Tryz.f218=true:=bi
def anL:b4 aT Sj [] 2 Tryz.f245=true:=bi
def anM:b4 aT Sk [.tmp 8] 4 Tryz.f246=true:=bi
def anJ:b4 aT Sh [.tmp 6] 3 Tryz.f247=true:=bi
def Ff:b4 aT AR [.tmp 4] 2 Tryz.f248=true:=bi
def O3:b4 aT GL [.cell 4 true 4] 2 Tryz.f249=true:=bi
def anN:b4 aT Sl [] 5 Tryz.f257=true:=bi
def Zi:b4 aT K7 [] 3 Tryz.f258=true:=bi
def anR:b4 aT Sq [.tmp 3] 2 Tryz.f259=true:=bi
def anQ:b4 aT Sp [.cell 3 true 4,.tmp 4] 2 Tryz.f260=true:=bi
end
section
open Go Go.Pv
section
variable {α:Type} (S:α->cT) (dF:∀a,eA (S a)) (e8:∀a b,Same (S a) (S b)) (g:Nat) (dH:List af) (aw:∀a,aH (aM (S a)) dH) (dy:cf dH=dH)
include dF e8 aw dy in
theorem VF(e:α->Prop)(f:Int->α->be α)(o:∀v a br,e a->f v a=some br->e br/\bH au g (aj v::dH) (S a) fun r d=>r= .tuple []/\d=S br)(t:T):
  ∀a br,e a->t.foldO f a=some br->e br/\bH au 134 [t.e,.func g dH] (S a) fun r d=>r= .tuple []/\d=S br:=by
 have b:∀a m,ae (.loc m) (S a).b=none:=fun a=>(dF a).obj.1;have hu:∀a m cs,cK (.loc m) cs (S a).b=(S a).b++[(.loc m,cs)]:=fun a m cs=>kO (b a m);have ar:∀a m,aB.loc m∉cL (S a):=fun a=>kK (dF a).obj;induction t with
 |pair x y l k=>intro a br hi he;have c:=dF a;simp only[T.foldO,mY]at he;obtain⟨h,J,U⟩:=he;obtain⟨i1,g1⟩:=l a h hi J;obtain⟨i2,g2⟩:=k h br i1 U;refine⟨i2,?_⟩;refine bH.mk mixed a1 Tryz.func134 Co Ψ c.obj fun j i=>?_;unfold yR;simp[hu,ar,c6,b,dy];(repeat' first|refine ao ?_|simp[hu,ar,c6,b]);refine CallDo.ob g1 c aX aX (by simp[aw]) ?_;rintro r d ⟨rfl,rfl⟩;refine⟨e8 _ _,?_⟩;simp[hK,jA,cM,b];(repeat' first|refine ao ?_|simp[hu,ar,c6,b]);rw[dy];refine CallDo.ob g2 (dF h) aX aX (by simp[aw]) ?_;rintro r d ⟨rfl,rfl⟩;refine⟨e8 _ _,?_⟩;simp[hK,jA,cM,b];refine c5.at (S br) (.inr rfl) (dF _) (e8 _ _) aX aX ?_;simp[dd,bc,bf,a6]
 |var n=>intro a br hi he;have c:=dF a;simp only[T.foldO]at he;obtain⟨i1,g1⟩:=o n a br hi he;refine⟨i1,?_⟩;refine bH.mk mixed a1 Tryz.func134 Co Ψ c.obj fun j i=>?_;unfold yR;simp[hu,ar,c6,b,dy];(repeat' first|refine ao ?_|simp[hu,ar,c6,b]);refine CallDo.ob g1 c aX aX (by simp[aw]) ?_;rintro r d ⟨rfl,rfl⟩;refine⟨e8 _ _,?_⟩;simp[hK,jA,cM,b,c6];refine c5.at (S br) (.inr rfl) (dF _) (e8 _ _) aX aX ?_;simp[dd,bc,bf,a6]
 |_=>intro a br hi he;have c:=dF a;simp only[T.foldO,dU]at he;subst he;refine⟨hi,?_⟩;refine bH.mk mixed a1 Tryz.func134 Co Ψ c.obj fun j i=>?_;unfold yR;simp[hu,ar,c6,b,dy];(repeat' first|refine ao ?_|simp[hu,ar,c6,b]);refine c5.at (S a) (.inr rfl) c (Same.refl _) aX aX ?_;simp[dd,bc,bf,a6]
include dF e8 aw dy in
theorem Mp(f:Int->α->be α)(c:∀v a br,f v a=some br->bH au g (aj v::dH) (S a) fun r b=>r= .tuple []/\b=S br)(t:T)(a br:α)(h:t.foldO f a=some br):bH au 134 [t.e,.func g dH] (S a) fun r b=>r= .tuple []/\b=S br:=(VF S dF e8 g dH aw dy (fun _=>True) f (fun v a br _ h=>⟨trivial,c v a br h⟩) t a br trivial h).2
include dF e8 aw dy in
theorem ai2(f:Int->α->be (T×α))(s:∀v a p,f v a=some p->bH au g (aj v::dH) (S a) fun r h=>r= .tuple [p.1.e,.bool true]/\h=S p.2)(t:T):
  ∀a p,t.mapO f a=some p->bH au 194 [t.e,.func g dH] (S a) fun r h=>r=p.1.e/\h=S p.2:=by
 have b:∀a m,ae (.loc m) (S a).b=none:=fun a=>(dF a).obj.1;have j:∀a m,ae (.loc m) (S a).e=none:=fun a=>(dF a).obj.2;have hu:∀a m cs,cK (.loc m) cs (S a).b=(S a).b++[(.loc m,cs)]:=fun a m cs=>kO (b a m);have ar:∀a m,aB.loc m∉cL (S a):=fun a=>kK (dF a).obj;have c:∀a m p r,cK (.loc m) p ((S a).b++r)=(S a).b++cK (.loc m) p r:=fun a m p r=>C1 (b a m);induction t with
 |pair x y q o=>intro a p he;have d:=dF a;simp only[T.mapO,mY,hs]at he;obtain⟨e,J,i,U,rfl⟩:=he;refine bH.mk mixed a1 Tryz.func194 Cp Ψ d.obj fun l k=>?_;unfold yS;simp[hu,ar,c6,b,j,dy,c];(repeat' first|refine ao ?_|simp[hu,ar,c6,b,j,c]);refine hM.ob (q a e J) d (dF e.2) (e8 _ _) aX aX (by simp[aw]) ?_;simp[hK,jA,cM,b,dy];(repeat' first|refine ao ?_|simp[hu,ar,c6,b,j,c]);refine hM.ob (o e.2 i U) (dF e.2) (dF i.2) (e8 _ _) aX aX (by simp[aw,dy]) ?_;simp[hK,jA,cM,b,dy];(repeat' first|refine ao ?_|refine aO (Kn _ _) ?_|refine aP (Kn _ _) ?_|simp[c6,b,c]);refine c5.at (S i.2) (.inl rfl) (dF _) (e8 _ _) aX aX ?_;simp[dd,bc,bf,a6,c6,b]
 |var n=>
  intro a p he;have d:=dF a;simp only[T.mapO]at he;refine bH.mk mixed a1 Tryz.func194 Cp Ψ d.obj fun l k=>?_;unfold yS;simp[hu,ar,c6,b,dy,c];(repeat' first|refine ao ?_|simp[hu,ar,c6,b,c]);refine CallDo.ob (s n a p he) d aX aX (by simp[aw]) ?_;rintro r h ⟨rfl,rfl⟩;refine⟨e8 _ _,?_⟩;simp[hK,jA,cM,b,hu,ar,c6];(repeat' first|refine ao ?_|refine aO (vk _) ?_|refine aP (vk _) ?_|simp[hu,ar,c6,b,c]);all_goals refine c5.at (S p.2) (.inl rfl) (dF _) (e8 _ _) aX aX ?_
  all_goals simp[dd,bc,bf,a6,c6,b]
 |_=>intro a p he;have d:=dF a;simp only[T.mapO,dU]at he;subst he;refine bH.mk mixed a1 Tryz.func194 Cp Ψ d.obj fun l k=>?_;unfold yS;simp[hu,ar,c6,b,dy,c];(repeat' first|refine ao ?_|simp[hu,ar,c6,b,c]);refine c5.at (S a) (.inl rfl) d (Same.refl _) aX aX ?_;simp[dd,bc,bf,a6,c6,b]
include dF e8 aw dy in
theorem ajn(i:α->Prop)(f:Int->α->be (Int×α))(A:∀v a p,i a->f v a=some p->i p.2/\0<=p.1/\p.1<=1000000)(z:∀v a p,i a->f v a=some p->bH au g (aj v::dH) (S a) fun r e=>r=aj p.1/\e=S p.2)(t:T):
  ∀a p,i a->t.sizeO f a=some p->i p.2/\(0<=p.1/\p.1<=5001)/\bH au 192 [t.e,.func g dH] (S a) fun r e=>r=aj p.1/\e=S p.2:=by
 have b:∀a m,ae (.loc m) (S a).b=none:=fun a=>(dF a).obj.1;have hu:∀a m cs,cK (.loc m) cs (S a).b=(S a).b++[(.loc m,cs)]:=fun a m cs=>kO (b a m);have ar:∀a m,aB.loc m∉cL (S a):=fun a=>kK (dF a).obj;induction t with
 |pair x y s q=>
  intro a p hi he;have c:=dF a;simp only[T.sizeO,mY]at he;obtain⟨d,J,U⟩:=he;obtain⟨i1,u,g1⟩:=s a d hi J;by_cases o:5000<d.1
  ·rw[if_pos o]at U;cases U;refine⟨i1,u,?_⟩;refine bH.mk mixed a1 Tryz.func192 zT Ψ c.obj fun k j=>?_;unfold w5;simp[hu,ar,c6,b,dy];(repeat' first|refine ao ?_|simp[hu,ar,c6,b]);refine CallDo.ob g1 c aX aX (by simp[aw]) ?_;rintro r e ⟨rfl,rfl⟩;refine⟨e8 _ _,?_⟩;simp[hK,jA,cM,b];((with_reducible repeat' first|((first|apply ct|apply cz|apply cy)<;>intro h<;>try simp at h)|refine ao ?_|simp[hu,ar,c6,b])<;>(try contradiction));all_goals first|omega|(refine c5.at (S p.2) (.inl rfl) (dF _) (e8 _ _) aX aX ?_;simp[dd,bc,bf,a6])
  ·rw[if_neg o,hs]at U;obtain⟨l,U,rfl⟩:=U;obtain⟨i2,B,g2⟩:=q d.2 l i1 U;refine⟨i2,by simp only;split<;>omega,?_⟩;refine bH.mk mixed a1 Tryz.func192 zT Ψ c.obj fun k j=>?_;unfold w5;simp[hu,ar,c6,b,dy];(with_reducible repeat' first|((first|apply ct|apply cz|apply cy)<;>intro h<;>try simp at h)|refine ao ?_|simp[hu,ar,c6,b]);refine CallDo.ob g1 c aX aX (by simp[aw]) ?_;rintro r e ⟨rfl,rfl⟩;refine⟨e8 _ _,?_⟩;simp[hK,jA,cM,b];((repeat' first|refine ao ?_|simp[hu,ar,c6,b]|((first|apply ct|apply cz|apply cy)<;>intro h<;>try simp at h))<;>(try exact c3));all_goals first|omega|skip
   rw[dy];refine CallDo.ob g2 (dF d.2) aX aX (by simp[aw]) ?_;rintro r s2 ⟨rfl,rfl⟩;refine⟨e8 _ _,?_⟩;simp[hK,jA,cM,b];(repeat' first|refine ao ?_|simp[hu,ar,c6,b]);refine c5.at (S l.2) (.inl rfl) (dF _) (e8 _ _) aX aX ?_;simp[dd,bc,bf,a6]
 |var n=>intro a p hi he;have c:=dF a;simp only[T.sizeO,hs]at he;obtain⟨d,J,rfl⟩:=he;have w:=A n a d hi J;refine⟨w.1,by simp only;split<;>omega,?_⟩;refine bH.mk mixed a1 Tryz.func192 zT Ψ c.obj fun k j=>?_;unfold w5;simp[hu,ar,c6,b,dy];(repeat' first|refine ao ?_|simp[hu,ar,c6,b]);refine CallDo.ob (z n a d hi J) c aX aX (by simp[aw]) ?_;rintro r e ⟨rfl,rfl⟩;refine⟨e8 _ _,?_⟩;simp[hK,jA,cM,b];refine c5.at (S d.2) (.inl rfl) (dF _) (e8 _ _) aX aX ?_;simp[dd,bc,bf,a6]
 |_=>intro a p hi he;have c:=dF a;simp only[T.sizeO,dU]at he;subst he;refine⟨hi,Ψ,?_⟩;refine bH.mk mixed a1 Tryz.func192 zT Ψ c.obj fun k j=>?_;unfold w5;simp[hu,ar,c6,b,dy];(repeat' first|refine ao ?_|simp[hu,ar,c6,b]);refine c5.at (S a) (.inl rfl) c (Same.refl _) aX aX ?_;simp[dd,bc,bf,a6]
end
end
end Go.Proofs.YtahlgcidhnjlbaaGreat
namespace Go.Pv
section
open Go Go.RowKit
section
variable {P:cI} {ob:List aB} {st:bp} {Q:Exit->bp->Prop} {c:C} {α:Type}
def eZ(b:List Nat)(cs:Nat->α->List (Nat×af))(n:Nat)(d:Nat->α->Prop)(a0:α)(hw:gp ob st (qN st b (cs 0 a0)))(g:d 0 a0)(e:∀a,d n a->(∀i,eN (get i (qN st b (cs n a)).t))->df P ob c (bY ob (AB (fun i a=>qN st b (cs i a)) n d) 0 Q) (qN st b (cs n a)))
  (f:∀i a,i<n->d i a->(∀j,eN (get j (qN st b (cs i a)).t))->df P ob c (bY ob (AB (fun i a=>qN st b (cs i a)) n d) (n-i) Q) (qN st b (cs i a))):df P ob (.loop c) Q st:=
 fU (fun i a=>qN st b (cs i a)) n d a0 hw g e f
def xd(b:List Nat)(cs:α->List (Nat×af))(μ:α->Nat)(d:α->Prop)(a0:α)(hw:gp ob st (qN st b (cs a0)))(f:d a0)
  (e:∀a,d a->(∀j,eN (get j (qN st b (cs a)).t))->df P ob c (bY ob (Dc (fun a=>qN st b (cs a)) μ d) (μ a) Q) (qN st b (cs a))):df P ob (.loop c) Q st:=
 o6 (fun a=>qN st b (cs a)) μ d a0 hw f e
end
attribute [simp] amZ
end
end Go.Pv
namespace Go.Proofs.YtahlgcidhnjlbaaGreat
section
open Go Go.Pv
def Oj{α β:Type}(k:aB):∀{l:List (aB×α)} {a:List (aB×β)},l.map (·.1)=a.map (·.1)->(ae k l).isSome=(ae k a).isSome
 |[],[],_=>rfl
 |[],_::_,h=>by simp at h
 |_::_,[],h=>by simp at h
 |(i,x)::r,(j,y)::b,h=>by
  simp only[ha,rR]at h;simp only[ae];obtain⟨rfl,h⟩:=h;split
  ·rfl
  ·exact Oj k h
def _root_.Go.Pv.Same.keys{s a:cT}(b:s.b.map (·.1)=a.b.map (·.1))(he:s.e.map (·.1)=a.e.map (·.1)):Same s a:=⟨fun k=>Oj k b,fun k=>Oj k he⟩
section
variable {α:Type} (e:α->af)
def tG(l:List (Int×α)):List af:=k0 (l.map fun x=>(x.1,e x.2))
def RA(k:Int):∀l:List (Int×α),yM k (l.map fun x=>(x.1,e x.2))=(dp k l).map e
 |[]=>rfl
 |(i,v)::r=>by
  simp only[ha,yM,dp];split
  ·rfl
  ·exact RA k r
def RH(k:Int)(v:α):∀l:List (Int×α),ql k (e v) (l.map fun x=>(x.1,e x.2))=if(dp k l).isSome then some ((fA k v l).map fun x=>(x.1,e x.2))else none
 |[]=>rfl
 |(i,w)::r=>by
  simp only[ha,ql,dp,fA];by_cases h:k=i
  ·subst h;simp
  ·simp only[h,if_false,RH k v r];cases (dp k r).isSome<;>simp
def ach{k:Int}{v:α}:∀{l:List (Int×α)},dp k l=none->fA k v l=l++[(k,v)]
 |[],_=>rfl
 |(i,w)::r,h=>by
  simp only[dp]at h;split at h
  ·cases h
  ·rename_i a;simp[fA,a,ach h]
def OH(k:Int)(v:α)(l:List (Int×α)):qO .i (aj k) (e v) (tG e l)=some (tG e (fA k v l)):=by
 simp only[tG,YX,GC,RH];cases h:dp k l with
 |some w=>simp
 |none=>simp[ach h]
def OC(f:aB->be (List af))(m:aB)(l:List (Int×α))(z:af)(ok:Bool)(k:Int)(hm:f m=some (tG e l)):pe f .i z ok (.gmap m) (aj k)=some (True,if ok then .tuple [((dp k l).map e).getD z,.bool (dp k l).isSome]else((dp k l).map e).getD z):=by rw[amI f m _ z ok k hm,RA];cases dp k l<;>rfl
@[simp]def aw8(l:List (Int×α)):gY (tG e l)=false:=rfl
def N4(S:aB->Prop)(he:∀x,az S (e x))(l:List (Int×α)):aH S (tG e l):=by
 have:∀l:List (Int×α),aH S (flat (l.map fun x=>(x.1,e x.2))):=by
  intro l;induction l with
  |nil=>simp[flat,aH]
  |cons x r a=>simp[flat,aH,a,he]
 simp[tG,k0,aH,this,az]
end
def oK:List (Int×Int)->List af:=tG (af.int .i64)
def rD:List (Int×Bool)->List af:=tG af.bool
def u4:List (Int×T)->List af:=tG T.e
@[simp]def aw5(l):gY (oK l)=false:=rfl
@[simp]def aw3(l):gY (rD l)=false:=rfl
@[simp]def aw7(l):gY (u4 l)=false:=rfl
@[simp]def avN(S:aB->Prop)(l):aH S (oK l)=True:=h4 (N4 _ S (fun _=>by simp) l)
@[simp]def avM(S:aB->Prop)(l):aH S (rD l)=True:=h4 (N4 _ S (fun _=>by simp) l)
@[simp]def avO(S:aB->Prop)(l):aH S (u4 l)=True:=h4 (N4 _ S (fun _=>by simp) l)
@[simp]def awM(k v:Int)(l):qO .i (aj k) (aj v) (oK l)=some (oK (fA k v l)):=OH _ k v l
@[simp]def awL(k:Int)(v:Bool)(l):qO .i (aj k) (.bool v) (rD l)=some (rD (fA k v l)):=OH _ k v l
@[simp]def awO(k:Int)(v:T)(l):qO .i (aj k) v.e (u4 l)=some (u4 (fA k v l)):=OH _ k v l
def E3(a:kl)(z:af)(ok:Bool)(o:be (List af))(k:af):be (Prop×af):=pe (fun _=>o) a z ok (.gmap (.loc 0)) k
@[simp]def awJ(f:aB->be (List af))(a:kl)(z:af)(ok:Bool)(m:aB)(k:af):pe f a z ok (.gmap m) k=E3 a z ok (f m) k:=by simp only[E3,YD]
def amK(f:aB->be (List af))(m:aB)(l:List (Int×Int))(ok:Bool)(k:Int)(hm:f m=some (oK l)):pe f .i (aj 0) ok (.gmap m) (aj k)=some (True,if ok then .tuple [aj (jV l k),.bool (dp k l).isSome]else aj (jV l k)):=by rw[OC _ f m l _ ok k hm];unfold jV;cases dp k l<;>rfl
def amJ(f:aB->be (List af))(m:aB)(l:List (Int×Bool))(ok:Bool)(k:Int)(hm:f m=some (rD l)):pe f .i (.bool false) ok (.gmap m) (aj k)=some (True,if ok then .tuple [.bool ((dp k l).getD false),.bool (dp k l).isSome]else .bool ((dp k l).getD false)):=by rw[OC _ f m l _ ok k hm];cases dp k l<;>rfl
def ab4:af:= .agg [aj 0,aj 0,.str [],.slice 4 .nil []]
def yt(o:be T):af:=(o.map T.e).getD ab4
def amL(f:aB->be (List af))(m:aB)(l:List (Int×T))(ok:Bool)(k:Int)(hm:f m=some (u4 l)):pe f .i (.agg [aj 0,aj 0,.str [],.slice 4 .nil []]) ok (.gmap m) (aj k)=some (True,if ok then .tuple [yt (dp k l),.bool (dp k l).isSome]else yt (dp k l)):=by rw[OC _ f m l _ ok k hm];rfl
@[simp]def awH(l:List (Int×Int))(ok:Bool)(k:Int):E3 .i (aj 0) ok (some (oK l)) (aj k)=some (True,if ok then .tuple [aj (jV l k),.bool (dp k l).isSome]else aj (jV l k)):=amK _ _ l ok k rfl
@[simp]def awG(l:List (Int×Bool))(ok:Bool)(k:Int):E3 .i (.bool false) ok (some (rD l)) (aj k)=some (True,if ok then .tuple [.bool ((dp k l).getD false),.bool (dp k l).isSome]else .bool ((dp k l).getD false)):=amJ _ _ l ok k rfl
@[simp]def awI(l:List (Int×T))(ok:Bool)(k:Int):E3 .i (.agg [aj 0,aj 0,.str [],.slice 4 .nil []]) ok (some (u4 l)) (aj k)=some (True,if ok then .tuple [yt (dp k l),.bool (dp k l).isSome]else yt (dp k l)):=amL _ _ l ok k rfl
@[simp]def ax7(o:be T):b7 (yt o)=(o.getD .nil).e:=by cases o<;>simp[yt,ab4,b7,cf]
@[simp]def awv:[af.hdm 0 []]=k0 []:=rfl
def aE:af:= .eptr (.agg [.gmap (.obj 702),.gmap (.obj 703),.gmap (.obj 704),.gmap (.obj 705),.gmap (.obj 706),.gmap (.obj 707)])
def aD(c:bK):List (aB×List af):=[(.obj 702,oK c.up),(.obj 703,u4 c.shape),(.obj 704,rD c.shaped),(.obj 705,oK c.color),(.obj 706,oK c.size),(.obj 707,u4 c.full)]
def aQ(c:bK):cT:=⟨aD c,[]⟩
def cx(c:bK):eA (aQ c):=by unfold aQ aD;exact eA.of ⟨by intro m;simp[ae],by intro m;simp[ae]⟩ Ψ Ψ
def Gs(c a:bK):Same (aQ c) (aQ a):=by
 refine⟨fun k=>?_,fun k=>rfl⟩;simp only[aQ,aD,ae];repeat' split
 all_goals rfl
def sY(c:bK)(v r:Int)(d:bK)(he:rt c v=some (r,d)):bH au 216 [aE,aj v] (aQ c) fun g j=>g=aj r/\j=aQ d:=by
 have f:=cx c;have e:=cx d;have e8:=Gs c d;simp only[rt,hs,js]at he;obtain⟨⟨i,m1⟩,he,rfl,rfl⟩:=he;unfold aQ aD at f e e8⊢;simp only at e e8⊢;unfold aE;refine bH.mk mixed a1 Tryz.func216 anO Ψ f.obj fun o l=>?_;unfold Sm;simp;(with_reducible repeat' first|((first|apply ct|apply cz|apply cy)<;>intro h<;>try simp at h)|refine ao ?_|simp);all_goals
  refine o6 (α:=Nat×Int×List (Int×Int)) (fun a=>⟨[(0,aE),(1,aj a.2.1)],[(.obj 702,oK a.2.2),(.obj 703,u4 c.shape),(.obj 704,rD c.shaped),(.obj 705,oK c.color),(.obj 706,oK c.size),(.obj 707,u4 c.full)],[],0,[.obj 702,.obj 703,.obj 704,.obj 705,.obj 706,.obj 707]⟩) (fun a=>a.1) (fun a=>yi a.1 a.2.2 a.2.1=some (i,m1)) (v.toNat+1,v,AI v c.up) (by simp[AI,h,aE];exact⟨by simp[fresh,aH,az,cd,aM,ae,aE],eo (by simp[fresh,aH,az,cd,aM,ae,aE]),ep (by simp[fresh,aH,az,dV,aM,ae,aE]),Ψ⟩) he ?_
  rintro⟨n,u,m⟩ b k
  simp only at b k⊢
  cases n with
  |zero=>simp[yi]at b
  |succ n=>
   simp only[yi]at b
   simp[aE]
   (with_reducible repeat' first|((first|apply ct|apply cz|apply cy)<;>intro h<;>try simp at h)|refine ao ?_|simp)
   ·rw[if_neg h]at b
    refine bY.whl (n,jV (fA u (jV m (jV m u)) m) u,fA u (jV m (jV m u)) m) (Nat.lt_succ_self n) b ?_
    simp[aE]
    exact⟨by simp[fresh,aH,az,cd,aM,ae,aE],eo (by simp[fresh,aH,az,cd,aM,ae,aE]),ep (by simp[fresh,aH,az,dV,aM,ae,aE]),Ψ⟩
   ·rw[if_pos h]at b
    cases b
    refine c5.at _ (.inl rfl) e e8 aX aX ?_
    simp[dd,bc,bf,a6]
end
section
open Go Go.Pv
def ajb(c:bK)(v r:Int)(a:bK)(he:rt c v=some (r,a)):bH au 245 [aj v,.eptr aE] (aQ c) fun e b=>e= .tuple []/\b=aQ a:=by have d:=cx c;simp only[aQ,aD]at d⊢;refine bH.mk mixed a1 Tryz.func245 anL Ψ d.obj fun g f=>?_;unfold Sj;simp[aE];(refine CallDo.ob (sY c v r a he) ci bv bv d7 ?_;rintro r b ⟨rfl,rfl⟩;refine⟨(Same.keys co co),?_⟩;simp[cM,aQ,aD,aE]);(refine c5.at (aQ a) Ψ ci (Same.keys co co) bv bv ?_;simp[dd,bc,bf,a6,aM,ae,aQ,aD,aE])
def Ms(c:bK)(t:T)(b:bK)(he:B7 t c=some b):bH au 217 [aE,t.e] (aQ c) fun f d=>f= .tuple []/\d=aQ b:=by
 have e:=cx c;have key:=Mp aQ cx Gs 245 [.eptr aE] (fun a=>by simp[aQ,aD,aE,aM,ae]) rfl (fun(v:Int) (c:bK)=>(rt c v).map Prod.snd) (fun v a br h=>by rw[hs]at h;obtain⟨⟨r,g⟩,J,rfl⟩:=h;exact ajb a v r g J) t c b he
 simp only[aQ,aD]at e⊢;refine bH.mk mixed a1 Tryz.func217 anK Ψ e.obj fun j i=>?_;unfold Si;simp[aE];(refine CallDo.ob (key) ci bv bv d7 ?_;rintro r d ⟨rfl,rfl⟩;refine⟨(Same.keys co co),?_⟩;simp[cM,aQ,aD,aE]);(refine c5.at (aQ b) Ψ ci (Same.keys co co) bv bv ?_;simp[dd,bc,bf,a6,aM,ae,aQ,aD,aE])
def ff(K:Nat)(a:bK×List (Int×Bool)):cT:=⟨aD a.1++[(.obj K,rD a.2)],[]⟩
def gX(K:Nat)(a:vv):cT:=⟨aD a.c++[(.obj K,rD a.seen),(.obj 712,[.bool a.found])],[]⟩
def zQ(K:Nat):Prop:=K=715\/K=716
def jg{K:Nat}(b:zQ K)(a):eA (ff K a):=by unfold ff aD;rcases b with rfl|rfl;all_goals exact eA.of ⟨by intro m;simp[ae],by intro m;simp[ae]⟩ Ψ Ψ
def q7{K:Nat}(b:zQ K)(a):eA (gX K a):=by unfold gX aD;rcases b with rfl|rfl;all_goals exact eA.of ⟨by intro m;simp[ae],by intro m;simp[ae]⟩ Ψ Ψ
def KC{K:Nat}(a b):Same (gX K a) (gX K b):=by
 refine⟨fun k=>?_,fun k=>rfl⟩;simp only[gX,aD,b6,ca,ae];repeat' split
 all_goals rfl
def ajh{K:Nat}(k:zQ K)(n:Nat)(x:Int)(m:∀t c seen a,qQ n x t c seen=some a->bH au 246 [aE,t.e,aj x,.gmap (.obj K)] (ff K (c,seen)) fun r g=>r= .bool a.found/\g=ff K (a.c,a.seen))
  (v:Int) (a br:vv) (he:yg (qQ n x) x v a=some br):bH au 257 [aj v,.eptr aE,.ptr (.obj 712) 0,.eptr (aj x),.eptr (.gmap (.obj K))] (gX K a) fun r g=>r= .tuple []/\g=gX K br:=by
 have l:=q7 k a;simp only[yg,mY]at he;obtain⟨⟨r,b⟩,J,U⟩:=he;simp only at U;have ab:=k;rcases ab with rfl|rfl;all_goals
  simp only[gX,aD,b6,ca]at l⊢
  refine bH.mk mixed a1 Tryz.func257 anN Ψ l.obj fun s q=>?_;unfold Sl
  simp[aE]
  (refine CallDo.ob (sY a.c v r b J) ci bv bv d7 ?_;rintro r g ⟨rfl,rfl⟩;refine⟨(Same.keys co co),?_⟩;simp[cM,aQ,aD,aE])
  obtain⟨ac,e,p⟩:=a
  cases p with
  |true=>
   simp at U;subst U
   (repeat' first|refine ao ?_|simp)
   (refine c5.at (gX _ ⟨b,e,true⟩) Ψ (by first|exact q7 _|exact q7 ‹_› _) (Same.keys (by simp[gX,aD,aE]) (by simp[gX,aD,aE])) d9 d9 ?_;simp[dd,bc,bf,a6,aM,ae,gX,aD,aE])
  |false=>
   by_cases h:r=x
   ·simp[h]at U;subst U
    (repeat' first|refine ao ?_|simp[h])
    (refine c5.at (gX _ ⟨b,e,true⟩) Ψ (by first|exact q7 _|exact q7 ‹_› _) (Same.keys (by simp[gX,aD,aE]) (by simp[gX,aD,aE])) d9 d9 ?_;simp[dd,bc,bf,a6,aM,ae,gX,aD,aE])
   ·have i:(r==x)=false:=by simp[h]
    simp only[h,hT,or_self,if_false]at U
    cases d:(dp r e).getD false with
    |true=>
     simp[d]at U;subst U
     (repeat' first|refine ao ?_|simp[i,d])
     (refine c5.at (gX _ ⟨b,e,false⟩) Ψ (by first|exact q7 _|exact q7 ‹_› _) (Same.keys (by simp[gX,aD,aE]) (by simp[gX,aD,aE])) d9 d9 ?_;simp[dd,bc,bf,a6,aM,ae,gX,aD,aE])
    |false=>
     cases f:b.shd r with
     |false=>
      have j:(dp r b.shaped).getD false=false:=f
      simp[d,f]at U;subst U
      (repeat' first|refine ao ?_|simp[i,d,j])
      (refine c5.at (gX _ ⟨b,e,false⟩) Ψ (by first|exact q7 _|exact q7 ‹_› _) (Same.keys (by simp[gX,aD,aE]) (by simp[gX,aD,aE])) d9 d9 ?_;simp[dd,bc,bf,a6,aM,ae,gX,aD,aE])
     |true=>
      have j:(dp r b.shaped).getD false=true:=f
      simp[d,f]at U
      have o:=m _ _ _ _ U
      (repeat' first|refine ao ?_|simp[i,d,j])
      (refine hM.ob (o) d8 d8 (Same.keys (by simp[ff,aD,aE]) (by simp[ff,aD,aE])) (by simp only[ff,aD,aE,b6,ca];exact aX) (by simp only[ff,aD,aE,b6,ca];exact aX) (by simp[aM,ae,ff,aD,aE]) ?_;simp[cM,ff,aD,aE])
      (repeat' first|refine ao ?_|simp)
      (refine c5.at (gX _ br) Ψ (by first|exact q7 _|exact q7 ‹_› _) (Same.keys (by simp[gX,aD,aE]) (by simp[gX,aD,aE])) d9 d9 ?_;simp[dd,bc,bf,a6,aM,ae,gX,aD,aE])
def Hz{K:Nat}(b:zQ K)(x:Int)(n:Nat):∀(t:T) (c:bK) (seen:List (Int×Bool)) (a:vv),qQ n x t c seen=some a->bH au 246 [aE,t.e,aj x,.gmap (.obj K)] (ff K (c,seen)) fun r d=>r= .bool a.found/\d=ff K (a.c,a.seen):=by
 induction n with
 |zero=>intro t c seen a h;simp[qQ]at h
 |succ n f=>
  intro t c seen a h;simp only[qQ]at h;have e:=jg b (c,seen);have key:=Mp (gX K) (q7 b) KC 257 [.eptr aE,.ptr (.obj 712) 0,.eptr (aj x),.eptr (.gmap (.obj K))] (fun a=>by rcases b with rfl|rfl<;>simp[gX,aD,aE,aM,ae]) rfl (yg (qQ n x) x) (fun v a br h=>ajh b n x f v a br h) t ⟨c,seen,false⟩ a h;have ab:=b;rcases ab with rfl|rfl;all_goals
   simp only[ff,aD,b6,ca]at e⊢
   refine bH.mk mixed a1 Tryz.func246 anM Ψ e.obj fun i g=>?_;unfold Sk
   simp[aE]
   refine CallDo.new key (q7 b _) d9 d9 (by simp[aM,ae,gX,aD,aE]) ?_
   rintro r d ⟨rfl,rfl⟩
   refine⟨fun m hm=>.inl ⟨?_,KC _ _⟩,?_⟩
   ·exact((KC _ _).inObs _).2 hm
   simp[cM,gX,aD]
   (repeat' first|refine ao ?_|simp)
   (refine c5.at (ff _ (a.c,a.seen)) Ψ d8 (Same.keys (by simp[ff,aD,aE]) (by simp[ff,aD,aE])) (by simp only[ff,aD,aE,b6,ca];exact aX) (by simp only[ff,aD,aE,b6,ca];exact aX) ?_;simp[dd,bc,bf,a6,aM,ae,ff,aD,aE])
@[simp]def Om:rD []=k0 []:=rfl
@[simp]def aya(t:T):yt (some t)=t.e:=rfl
@[simp]def ax9:yt none= .agg [aj 0,aj 0,.str [],.slice 4 .nil []]:=rfl
def VL(n:Nat)(x:Int)(t:T)(c:bK)(p:Bool×bK)(he:wv n x t c=some p):bH au 247 [aE,aj x,t.e] (aQ c) fun r b=>r= .bool p.1/\b=aQ p.2:=by have d:=cx c;simp only[wv,hs]at he;obtain⟨a,J,rfl⟩:=he;have e:zQ 715:= .inl rfl;have key:=Hz e x n t (c.know x t) [] a J;simp only[aQ,aD]at d⊢;refine bH.mk mixed a1 Tryz.func247 anJ Ψ d.obj fun g f=>?_;unfold Sh;simp[aE];(refine CallDo.ob (key) d8 (by simp only[ff,aD,aE,bK.know,b6,ca];exact aX) (by simp only[ff,aD,aE,bK.know,b6,ca];exact aX) (by simp[aM,ae,ff,aD,aE,bK.know]) ?_;rintro r b ⟨rfl,rfl⟩;refine⟨(Same.keys (by simp[ff,aD,aE,bK.know]) (by simp[ff,aD,aE,bK.know])),?_⟩;simp[cM,ff,aD,aE,bK.know]);(refine c5.at (aQ a.c) Ψ ci (Same.keys co co) bv bv ?_;simp[dd,bc,bf,a6,aM,ae,aQ,aD,aE])
def VG(n:Nat):∀(a b:T) (c:bK) (p:Bool×bK),hx n a b c=some p->bH au 218 [aE,a.e,b.e] (aQ c) fun r w=>r= .bool p.1/\w=aQ p.2:=by
 induction n with
 |zero=>intro a b c p h;simp[hx]at h
 |succ n L=>
  intro a b c p he;have t:=cx c;have EE:∀i j,a= .var i->b= .var j->bH au 218 [aE,a.e,b.e] (aQ c) fun r w=>r= .bool p.1/\w=aQ p.2:=by
   rintro i j rfl rfl;simp only[hx,mY]at he;obtain⟨⟨x,A⟩,J,⟨y,s⟩,U,E⟩:=he;simp only at U E;simp only[aQ,aD]at t⊢;refine bH.mk mixed a1 Tryz.func218 zS Ψ t.obj fun M K=>?_;unfold w4;simp[aE];(refine CallDo.ob (sY c i x A J) ci bv bv d7 ?_;rintro r w ⟨rfl,rfl⟩;refine⟨(Same.keys co co),?_⟩;simp[cM,aQ,aD,aE]);(repeat' first|refine ao ?_|simp);(refine CallDo.ob (sY A j y s U) ci bv bv d7 ?_;rintro r w ⟨rfl,rfl⟩;refine⟨(Same.keys co co),?_⟩;simp[cM,aQ,aD,aE]);by_cases V:x=y
   ·rw[if_pos V]at E;cases E;(repeat' first|refine ao ?_|simp[V]);(refine c5.at (aQ s) Ψ ci (Same.keys co co) bv bv ?_;simp[dd,bc,bf,a6,aM,ae,aQ,aD,aE])
   ·rw[if_neg V]at E;have O:(x==y)=false:=by simp[V]
    have V5:zQ 715:= .inl rfl;have Z:zQ 716:= .inr rfl;obtain⟨u,v,P,z⟩:∃u v,((u=y/\v=x/\y<x)\/(u=x/\v=y/\¬y<x))/\sW (hx n) n u v (s.join u v)=some p:=by
     by_cases q:y<x
     ·rw[if_pos q]at E;exact⟨y,x,.inl ⟨rfl,rfl,q⟩,E⟩
     ·rw[if_neg q]at E;exact⟨x,y,.inr ⟨rfl,rfl,q⟩,E⟩
    clear E;obtain⟨d,G⟩:∃d,d=s.join u v:=⟨_,rfl⟩;have m:d.up=fA v u s.up:=by rw[G];rfl
    have f:d.shape=s.shape:=by rw[G];rfl
    have e:d.shaped=s.shaped:=by rw[G];rfl
    have l:d.color=s.color:=by rw[G];rfl
    have k:d.size=s.size:=by rw[G];rfl
    have g:d.full=s.full:=by rw[G];rfl
    rw[<-G]at z;simp only[sW]at z;cases N:d.shd v with
    |false=>
     have F:(dp v s.shaped).getD false=false:=by rw[<-e];exact N
     rw[if_pos N]at z;cases hu:d.shd u with
     |false=>
      have B:(dp u s.shaped).getD false=false:=by rw[<-e];exact hu
      rw[if_pos hu]at z;cases z;rcases P with⟨rfl,rfl,q⟩|⟨rfl,rfl,q⟩;all_goals
       (repeat' first|refine ao ?_|simp[O,q,F,B])
       (refine c5.at (aQ d) Ψ ci (Same.keys (by simp[aQ,aD,aE,m,f,e,l,k,g]) (by simp[aQ,aD,aE,m,f,e,l,k,g])) (by simp only[aQ,aD,aE,m,f,e,l,k,g,b6,ca];exact aX) (by simp only[aQ,aD,aE,m,f,e,l,k,g,b6,ca];exact aX) ?_;simp[dd,bc,bf,a6,aM,ae,aQ,aD,aE,m,f,e,l,k,g])
     |true=>
      have B:(dp u s.shaped).getD false=true:=by rw[<-e];exact hu
      rw[if_neg (by simp[hu]),hs]at z;obtain⟨a,Y,rfl⟩:=z;have key:=Hz V5 u n _ _ _ _ Y;rw[show d.shp u=(dp u s.shape).getD .nil from by rw[<-f];rfl]at key;rcases P with⟨rfl,rfl,q⟩|⟨rfl,rfl,q⟩;all_goals
       (repeat' first|refine ao ?_|simp[O,q,F,B])
       (refine CallDo.ob (key) d8 (by simp only[ff,aD,aE,m,f,e,l,k,g,b6,ca];exact aX) (by simp only[ff,aD,aE,m,f,e,l,k,g,b6,ca];exact aX) (by simp[aM,ae,ff,aD,aE,m,f,e,l,k,g]) ?_;rintro r w ⟨rfl,rfl⟩;refine⟨(Same.keys (by simp[ff,aD,aE,m,f,e,l,k,g]) (by simp[ff,aD,aE,m,f,e,l,k,g])),?_⟩;simp[cM,ff,aD,aE,m,f,e,l,k,g])
       (repeat' first|refine ao ?_|simp)
       (refine c5.at (aQ a.c) Ψ ci (Same.keys co co) bv bv ?_;simp[dd,bc,bf,a6,aM,ae,aQ,aD,aE])
    |true=>
     have F:(dp v s.shaped).getD false=true:=by rw[<-e];exact N
     rw[if_neg (by simp[N])]at z;rw[show d.shp v=(dp v s.shape).getD .nil from by rw[<-f];rfl]at z;cases hu:d.shd u with
     |false=>
      have B:(dp u s.shaped).getD false=false:=by rw[<-e];exact hu
      rw[if_pos hu]at z;have key:=VL n u _ d p z;cases H:dp v s.shape;all_goals
       rw[H]at key
       simp only[lJ,k5]at key
       rcases P with⟨rfl,rfl,q⟩|⟨rfl,rfl,q⟩
       all_goals
        (repeat' first|refine ao ?_|simp[O,q,F,B,H])
        (refine CallDo.ob (key) ci (by simp only[aQ,aD,aE,m,f,e,l,k,g,b6,ca];exact aX) (by simp only[aQ,aD,aE,m,f,e,l,k,g,b6,ca];exact aX) (by simp[aM,ae,aQ,aD,aE,m,f,e,l,k,g]) ?_;rintro r w ⟨rfl,rfl⟩;refine⟨(Same.keys (by simp[aQ,aD,aE,m,f,e,l,k,g]) (by simp[aQ,aD,aE,m,f,e,l,k,g])),?_⟩;simp[cM,aQ,aD,aE,m,f,e,l,k,g])
        (repeat' first|refine ao ?_|simp)
        (refine c5.at (aQ p.2) Ψ ci (Same.keys co co) bv bv ?_;simp[dd,bc,bf,a6,aM,ae,aQ,aD,aE])
     |true=>
      have B:(dp u s.shaped).getD false=true:=by rw[<-e];exact hu
      rw[if_neg (by simp[hu]),mY]at z;obtain⟨a,Y,R⟩:=z;have key:=Hz V5 u n _ _ _ _ Y;obtain⟨o,H⟩:∃o,dp v s.shape=o:=⟨_,rfl⟩;rw[H]at key R;obtain⟨ac,CT,KQ⟩:=a;cases KQ with
      |true=>
       simp at R;subst R;cases o;all_goals
        simp only[lJ,k5]at key
        rcases P with⟨rfl,rfl,q⟩|⟨rfl,rfl,q⟩
        all_goals
         (repeat' first|refine ao ?_|simp[O,q,F,B,H])
         (refine hM.ob (key) d8 d8 (Same.keys (by simp[ff,aD,aE,m,f,e,l,k,g]) (by simp[ff,aD,aE,m,f,e,l,k,g])) (by simp only[ff,aD,aE,m,f,e,l,k,g,b6,ca];exact aX) (by simp only[ff,aD,aE,m,f,e,l,k,g,b6,ca];exact aX) (by simp[aM,ae,ff,aD,aE,m,f,e,l,k,g]) ?_;simp[cM,ff,aD,aE,m,f,e,l,k,g])
         (repeat' first|refine ao ?_|simp)
         (refine c5.at (aQ ac) Ψ ci (Same.keys co co) bv bv ?_;simp[dd,bc,bf,a6,aM,ae,aQ,aD,aE])
      |false=>
       simp only[hT,if_false,mY]at R;obtain⟨b,eb,S⟩:=R;have Q:=Hz Z u n _ _ _ _ eb;rw[show ac.shp u=(dp u ac.shape).getD .nil from rfl]at Q;obtain⟨KX,at2,ad8⟩:=b;cases ad8 with
       |true=>
        simp at S;subst S;cases o;all_goals
         simp only[lJ,k5]at key
         rcases P with⟨rfl,rfl,q⟩|⟨rfl,rfl,q⟩
         all_goals
          (repeat' first|refine ao ?_|simp[O,q,F,B,H])
          (refine hM.ob (key) d8 d8 (Same.keys (by simp[ff,aD,aE,m,f,e,l,k,g]) (by simp[ff,aD,aE,m,f,e,l,k,g])) (by simp only[ff,aD,aE,m,f,e,l,k,g,b6,ca];exact aX) (by simp only[ff,aD,aE,m,f,e,l,k,g,b6,ca];exact aX) (by simp[aM,ae,ff,aD,aE,m,f,e,l,k,g]) ?_;simp[cM,ff,aD,aE,m,f,e,l,k,g])
          (repeat' first|refine ao ?_|simp)
          (refine hM.ob (Q) d8 d8 (Same.keys (by simp[ff,aD,aE]) (by simp[ff,aD,aE])) (by simp only[ff,aD,aE,b6,ca];exact aX) (by simp only[ff,aD,aE,b6,ca];exact aX) (by simp[aM,ae,ff,aD,aE]) ?_;simp[cM,ff,aD,aE])
          (repeat' first|refine ao ?_|simp)
          (refine c5.at (aQ KX) Ψ ci (Same.keys co co) bv bv ?_;simp[dd,bc,bf,a6,aM,ae,aQ,aD,aE])
       |false=>
        simp only[hT,if_false]at S;have NY:=L _ _ _ _ S;rw[show KX.shp u=(dp u KX.shape).getD .nil from rfl]at NY;cases o;all_goals
         simp only[lJ,k5]at key NY
         rcases P with⟨rfl,rfl,q⟩|⟨rfl,rfl,q⟩
         all_goals
          (repeat' first|refine ao ?_|simp[O,q,F,B,H])
          (refine hM.ob (key) d8 d8 (Same.keys (by simp[ff,aD,aE,m,f,e,l,k,g]) (by simp[ff,aD,aE,m,f,e,l,k,g])) (by simp only[ff,aD,aE,m,f,e,l,k,g,b6,ca];exact aX) (by simp only[ff,aD,aE,m,f,e,l,k,g,b6,ca];exact aX) (by simp[aM,ae,ff,aD,aE,m,f,e,l,k,g]) ?_;simp[cM,ff,aD,aE,m,f,e,l,k,g])
          (repeat' first|refine ao ?_|simp)
          (refine hM.ob (Q) d8 d8 (Same.keys (by simp[ff,aD,aE]) (by simp[ff,aD,aE])) (by simp only[ff,aD,aE,b6,ca];exact aX) (by simp only[ff,aD,aE,b6,ca];exact aX) (by simp[aM,ae,ff,aD,aE]) ?_;simp[cM,ff,aD,aE])
          (repeat' first|refine ao ?_|simp)
          (refine hM.ob (NY) ci ci (Same.keys co co) bv bv d7 ?_;simp[cM,aQ,aD,aE])
          (repeat' first|refine ao ?_|simp)
          (refine c5.at (aQ p.2) Ψ ci (Same.keys co co) bv bv ?_;simp[dd,bc,bf,a6,aM,ae,aQ,aD,aE])
  have N:∀i,a= .var i->b.kind≠1->bH au 218 [aE,a.e,b.e] (aQ c) fun r w=>r= .bool p.1/\w=aQ p.2:=by
   rintro i rfl ag;have xr:((rt c i).bind fun p=>if p.2.shd p.1=false then wv n p.1 b p.2 else hx n (p.2.shp p.1) b p.2)=some p:=by cases b<;>first|exact he|simp at ag
   simp only[mY]at xr;obtain⟨⟨x,A⟩,J,U⟩:=xr;simp only at U;have dZ:(b.kind==1)=false:=by simp[ag]
   simp only[aQ,aD]at t⊢;refine bH.mk mixed a1 Tryz.func218 zS Ψ t.obj fun M K=>?_;unfold w4;simp[aE];(repeat' first|refine ao ?_|simp[dZ,ag]);(refine CallDo.ob (sY c i x A J) ci bv bv d7 ?_;rintro r w ⟨rfl,rfl⟩;refine⟨(Same.keys co co),?_⟩;simp[cM,aQ,aD,aE]);cases W:A.shd x with
   |false=>have X:(dp x A.shaped).getD false=false:=W;rw[if_pos W]at U;(repeat' first|refine ao ?_|simp[X]);(refine CallDo.ob (VL n x b A p U) ci bv bv d7 ?_;rintro r w ⟨rfl,rfl⟩;refine⟨(Same.keys co co),?_⟩;simp[cM,aQ,aD,aE]);(refine c5.at (aQ p.2) Ψ ci (Same.keys co co) bv bv ?_;simp[dd,bc,bf,a6,aM,ae,aQ,aD,aE])
   |true=>have X:(dp x A.shaped).getD false=true:=W;rw[if_neg (by simp[W])]at U;have key:=L _ _ _ _ U;(repeat' first|refine ao ?_|simp[X]);(refine hM.ob (key) ci ci (Same.keys co co) bv bv d7 ?_;simp[cM,aQ,aD,aE]);(repeat' first|refine ao ?_|simp);(refine c5.at (aQ p.2) Ψ ci (Same.keys co co) bv bv ?_;simp[dd,bc,bf,a6,aM,ae,aQ,aD,aE])
  cases a with
  |var i=>
   cases b with
   |var j=>exact EE i j rfl rfl
   |_=>exact N i rfl Ψ
  |pair bq a2=>
   cases b with
   |var j=>simp only[hx]at he;have key:=L _ _ _ _ he;simp only[aQ,aD]at t⊢;refine bH.mk mixed a1 Tryz.func218 zS Ψ t.obj fun M K=>?_;unfold w4;simp[aE];(refine CallDo.ob (key) ci bv bv d7 ?_;rintro r w ⟨rfl,rfl⟩;refine⟨(Same.keys co co),?_⟩;simp[cM,aQ,aD,aE]);(refine c5.at (aQ p.2) Ψ ci (Same.keys co co) bv bv ?_;simp[dd,bc,bf,a6,aM,ae,aQ,aD,aE])
   |pair cm b8=>
    simp only[hx,mY]at he;obtain⟨⟨f1,A⟩,J,U⟩:=he;have key:=L _ _ _ _ J;simp only[aQ,aD]at t⊢;refine bH.mk mixed a1 Tryz.func218 zS Ψ t.obj fun M K=>?_;unfold w4;simp[aE];(repeat' first|refine ao ?_|simp);(refine hM.ob (key) ci ci (Same.keys co co) bv bv d7 ?_;simp[cM,aQ,aD,aE]);cases f1 with
    |false=>simp at U;subst U;(repeat' first|refine ao ?_|simp);(refine c5.at (aQ A) Ψ ci (Same.keys co co) bv bv ?_;simp[dd,bc,bf,a6,aM,ae,aQ,aD,aE])
    |true=>simp at U;have Q:=L _ _ _ _ U;(repeat' first|refine ao ?_|simp);(refine hM.ob (Q) ci ci (Same.keys co co) bv bv d7 ?_;simp[cM,aQ,aD,aE]);(repeat' first|refine ao ?_|simp);(refine c5.at (aQ p.2) Ψ ci (Same.keys co co) bv bv ?_;simp[dd,bc,bf,a6,aM,ae,aQ,aD,aE])
   |_=>simp[hx]at he;subst he;simp only[aQ,aD]at t⊢;refine bH.mk mixed a1 Tryz.func218 zS Ψ t.obj fun M K=>?_;unfold w4;simp[aE];(refine c5.at (aQ c) Ψ ci (Same.keys co co) bv bv ?_;simp[dd,bc,bf,a6,aM,ae,aQ,aD,aE])
  |_=>
   cases b with
   |var j=>simp only[hx]at he;have key:=L _ _ _ _ he;simp only[aQ,aD]at t⊢;refine bH.mk mixed a1 Tryz.func218 zS Ψ t.obj fun M K=>?_;unfold w4;simp[aE];(refine CallDo.ob (key) ci bv bv d7 ?_;rintro r w ⟨rfl,rfl⟩;refine⟨(Same.keys co co),?_⟩;simp[cM,aQ,aD,aE]);(refine c5.at (aQ p.2) Ψ ci (Same.keys co co) bv bv ?_;simp[dd,bc,bf,a6,aM,ae,aQ,aD,aE])
   |_=>
    simp[hx]at he;subst he;simp only[aQ,aD]at t⊢;refine bH.mk mixed a1 Tryz.func218 zS Ψ t.obj fun M K=>?_;unfold w4;simp[aE];((repeat' first|refine ao ?_|simp|((first|apply ct|apply cz|apply cy)<;>intro h<;>try simp at h))<;>(try exact c3));all_goals(refine c5.at (aQ c) Ψ ci (Same.keys co co) bv bv ?_;simp[dd,bc,bf,a6,aM,ae,aQ,aD,aE])
    all_goals simp_all
def nI(c:bK):Prop:= ∀x,0<=c.sz x/\c.sz x<=5001
def nI.rt{c:bK}(h:nI c){v r:Int}{a:bK}(he:rt c v=some (r,a)):nI a:=by simp only[Pv.rt,hs,js]at he;obtain⟨p,_,_,rfl⟩:=he;exact h
def nI.put{c:bK}(h:nI c){x k:Int}(ab:0<=k/\k<=5001)(m:List (Int×Int)):nI {c with size:=fA x k c.size,color:=m}:=fun z=>by
 show 0<=(dp z (fA x k c.size)).getD 0/\(dp z (fA x k c.size)).getD 0<=5001;rw[oS];split
 ·exact ab
 ·exact h z
def ajz(c:bK)(v:Int)(p:Int×bK)(he:Aj v c=some p):bH au 259 [aj v,.eptr aE] (aQ c) fun r d=>r=aj p.1/\d=aQ p.2:=by have b:=cx c;simp only[Aj,hs]at he;obtain⟨⟨r,a⟩,J,rfl⟩:=he;simp only[aQ,aD]at b⊢;refine bH.mk mixed a1 Tryz.func259 anR Ψ b.obj fun f e=>?_;unfold Sq;simp[aE];(refine hM.ob (sY c v r a J) ci ci (Same.keys co co) bv bv d7 ?_;simp[cM,aQ,aD,aE]);(repeat' first|refine ao ?_|simp);(refine c5.at (aQ a) Ψ ci (Same.keys co co) bv bv ?_;simp[dd,bc,bf,a6,aM,ae,aQ,aD,aE]);all_goals rfl
def hl(a:bK×Bool):cT:=⟨aD a.1++[(.obj 712,[.bool a.2])],[]⟩
def rZ(a):eA (hl a):=by unfold hl aD;exact eA.of ⟨by intro m;simp[ae],by intro m;simp[ae]⟩ Ψ Ψ
def adB(a b):Same (hl a) (hl b):=Same.keys (by simp[hl,aD]) (by simp[hl,aD])
def ajy(n:Nat)(h:∀x c p,rP n x c=some p->nI c->nI p.2/\bH au 248 [aE,aj x] (aQ c) fun r d=>r= .bool p.1/\d=aQ p.2)
  (v:Int) (a br:bK×Bool) (g:nI a.1) (he:Av (rP n) v a=some br):nI br.1/\bH au 258 [aj v,.ptr (.obj 712) 0,.eptr aE] (hl a) fun r d=>r= .tuple []/\d=hl br:=by
 have b:=rZ a;obtain⟨c,f⟩:=a;cases f with
 |false=>simp[Av]at he;subst he;refine⟨g,?_⟩;simp only[hl,aD,b6,ca]at b⊢;refine bH.mk mixed a1 Tryz.func258 Zi Ψ b.obj fun k i=>?_;unfold K7;simp[aE];(repeat' first|refine ao ?_|simp);(refine c5.at (hl (c,false)) Ψ (by first|exact rZ _|exact rZ ‹_› _) (Same.keys (by simp[hl,aD,aE]) (by simp[hl,aD,aE])) (by simp only[hl,aD,aE,b6,ca];exact aX) (by simp only[hl,aD,aE,b6,ca];exact aX) ?_;simp[dd,bc,bf,a6,aM,ae,hl,aD,aE])
 |true=>
  simp only[Av,if_true,mY,hs]at he;obtain⟨⟨r,j⟩,J,⟨f2,e⟩,U,rfl⟩:=he;obtain⟨z2,key⟩:=h _ _ _ U (g.rt J);refine⟨z2,?_⟩;simp only[hl,aD,b6,ca]at b⊢;refine bH.mk mixed a1 Tryz.func258 Zi Ψ b.obj fun k i=>?_;unfold K7;simp[aE];(repeat' first|refine ao ?_|simp);(refine hM.ob (sY c v r j J) ci ci (Same.keys co co) bv bv d7 ?_;simp[cM,aQ,aD,aE]);(repeat' first|refine ao ?_|simp);(refine hM.ob (key) ci ci (Same.keys co co) bv bv d7 ?_;simp[cM,aQ,aD,aE]);cases f2 with
  |true=>(repeat' first|refine ao ?_|simp);(refine c5.at (hl (e,true)) Ψ (by first|exact rZ _|exact rZ ‹_› _) (Same.keys (by simp[hl,aD,aE]) (by simp[hl,aD,aE])) (by simp only[hl,aD,aE,b6,ca];exact aX) (by simp only[hl,aD,aE,b6,ca];exact aX) ?_;simp[dd,bc,bf,a6,aM,ae,hl,aD,aE])
  |false=>(repeat' first|refine ao ?_|simp);(refine c5.at (hl (e,false)) Ψ (by first|exact rZ _|exact rZ ‹_› _) (Same.keys (by simp[hl,aD,aE]) (by simp[hl,aD,aE])) (by simp only[hl,aD,aE,b6,ca];exact aX) (by simp only[hl,aD,aE,b6,ca];exact aX) ?_;simp[dd,bc,bf,a6,aM,ae,hl,aD,aE])
def ajx(n:Nat):∀(x:Int) (c:bK) (p:Bool×bK),rP n x c=some p->nI c->nI p.2/\bH au 248 [aE,aj x] (aQ c) fun r t=>r= .bool p.1/\t=aQ p.2:=by
 induction n with
 |zero=>intro x c p h;simp[rP]at h
 |succ n B=>
  intro x c p he d;have b:=cx c;simp only[rP]at he;by_cases U:c.col x=2
  ·rw[if_pos U]at he;cases he;have l:jV c.color x=2:=U;refine⟨d,?_⟩;simp only[aQ,aD]at b⊢;refine bH.mk mixed a1 Tryz.func248 Ff Ψ b.obj fun s q=>?_;unfold AR;simp[aE];(repeat' first|refine ao ?_|simp[l]);(refine c5.at (aQ c) Ψ ci (Same.keys co co) bv bv ?_;simp[dd,bc,bf,a6,aM,ae,aQ,aD,aE])
  rw[if_neg U]at he;have l:(jV c.color x==2)=false:=by simp;exact U
  by_cases J:c.col x=1
  ·rw[if_pos J]at he;cases he;have g:jV c.color x=1:=J;refine⟨d,?_⟩;simp only[aQ,aD]at b⊢;refine bH.mk mixed a1 Tryz.func248 Ff Ψ b.obj fun s q=>?_;unfold AR;simp[aE];(repeat' first|refine ao ?_|simp[g]);(refine c5.at (aQ c) Ψ ci (Same.keys co co) bv bv ?_;simp[dd,bc,bf,a6,aM,ae,aQ,aD,aE])
  rw[if_neg J]at he;have g:(jV c.color x==1)=false:=by simp;exact J
  have y:nI (c.grey x):=d.put Ω _;cases o:(c.grey x).shd x with
  |false=>rw[if_pos o]at he;cases he;have m:(dp x c.shaped).getD false=false:=o;refine⟨y,?_⟩;simp only[aQ,aD]at b⊢;refine bH.mk mixed a1 Tryz.func248 Ff Ψ b.obj fun s q=>?_;unfold AR;simp[aE];(repeat' first|refine ao ?_|simp[l,g,m]);(refine c5.at (aQ ((c.grey x).black x)) Ψ ci (Same.keys (by simp[aQ,aD,aE,bK.grey,bK.black]) (by simp[aQ,aD,aE,bK.grey,bK.black])) (by simp only[aQ,aD,aE,bK.grey,bK.black,b6,ca];exact aX) (by simp only[aQ,aD,aE,bK.grey,bK.black,b6,ca];exact aX) ?_;simp[dd,bc,bf,a6,aM,ae,aQ,aD,aE,bK.grey,bK.black])
  |true=>
   rw[if_neg (by simp[o]),mY]at he;have m:(dp x c.shaped).getD false=true:=o;obtain⟨⟨e,f⟩,E,j⟩:=he;simp only at j;obtain⟨i,key⟩:=VF hl rZ adB 258 [.ptr (.obj 712) 0,.eptr aE] (fun a=>by simp[hl,aD,aE,aM,ae]) rfl (fun a=>nI a.1) (Av (rP n)) (fun v a br d h=>ajy n B v a br d h) _ _ _ y E;rw[show(c.grey x).shp x=(dp x c.shape).getD .nil from rfl]at key;cases f with
   |false=>simp at j;subst j;refine⟨i,?_⟩;simp only[aQ,aD]at b⊢;refine bH.mk mixed a1 Tryz.func248 Ff Ψ b.obj fun s q=>?_;unfold AR;simp[aE];(repeat' first|refine ao ?_|simp[l,g,m]);(refine CallDo.ob (key) (by first|exact rZ _|exact rZ ‹_› _) (by simp only[hl,aD,aE,bK.grey,b6,ca];exact aX) (by simp only[hl,aD,aE,bK.grey,b6,ca];exact aX) (by simp[aM,ae,hl,aD,aE,bK.grey]) ?_;rintro r t ⟨rfl,rfl⟩;refine⟨(Same.keys (by simp[hl,aD,aE,bK.grey]) (by simp[hl,aD,aE,bK.grey])),?_⟩;simp[cM,hl,aD,aE,bK.grey]);(repeat' first|refine ao ?_|simp);(refine c5.at (aQ e) Ψ ci (Same.keys co co) bv bv ?_;simp[dd,bc,bf,a6,aM,ae,aQ,aD,aE])
   |true=>
    rw[if_neg Ψ,hs]at j;obtain⟨⟨k,w⟩,z,rfl⟩:=j;obtain⟨z2,A,u⟩:=ajn aQ cx Gs 259 [.eptr aE] (fun a=>by simp[aQ,aD,aE,aM,ae]) rfl nI Aj (fun v a p d h=>by simp only[Aj,hs]at h;obtain⟨⟨r,F⟩,J,rfl⟩:=h;exact⟨d.rt J,(d.rt J r).1,Int.le_trans (d.rt J r).2 Ω⟩) (fun v a p _ h=>ajz a v p h) _ _ _ i z
    rw[show bK.shp e x=(dp x e.shape).getD .nil from rfl]at u;refine⟨z2.put A _,?_⟩;simp only[aQ,aD]at b⊢;refine bH.mk mixed a1 Tryz.func248 Ff Ψ b.obj fun s q=>?_;unfold AR;simp[aE];(repeat' first|refine ao ?_|simp[l,g,m]);(refine CallDo.ob (key) (by first|exact rZ _|exact rZ ‹_› _) (by simp only[hl,aD,aE,bK.grey,b6,ca];exact aX) (by simp only[hl,aD,aE,bK.grey,b6,ca];exact aX) (by simp[aM,ae,hl,aD,aE,bK.grey]) ?_;rintro r t ⟨rfl,rfl⟩;refine⟨(Same.keys (by simp[hl,aD,aE,bK.grey]) (by simp[hl,aD,aE,bK.grey])),?_⟩;simp[cM,hl,aD,aE,bK.grey]);(repeat' first|refine ao ?_|simp);(refine hM.ob (u) ci ci (Same.keys co co) bv bv d7 ?_;simp[cM,aQ,aD,aE]);(repeat' first|refine ao ?_|simp);(refine c5.at (aQ (({w with size:=fA x k w.size}:bK).black x)) Ψ ci (Same.keys (by simp[aQ,aD,aE,bK.black]) (by simp[aQ,aD,aE,bK.black])) (by simp only[aQ,aD,aE,bK.black,b6,ca];exact aX) (by simp only[aQ,aD,aE,bK.black,b6,ca];exact aX) ?_;simp[dd,bc,bf,a6,aM,ae,aQ,aD,aE,bK.black])
def ajw(n:Nat)(d:∀x c p,rO n x c=some p->bH au 249 [aE,aj x] (aQ c) fun r a=>r=p.1.e/\a=aQ p.2)
  (v:Int) (c:bK) (p:T×bK) (he:C7 (rO n) v c=some p):bH au 260 [aj v,.eptr aE] (aQ c) fun r a=>r= .tuple [p.1.e,.bool true]/\a=aQ p.2:=by
 have b:=cx c;simp only[C7,mY]at he;obtain⟨⟨r,e⟩,J,U⟩:=he;have key:=d _ _ _ U;simp only[aQ,aD]at b⊢;refine bH.mk mixed a1 Tryz.func260 anQ Ψ b.obj fun g f=>?_;unfold Sp;simp[aE];(repeat' first|refine ao ?_|simp);(refine hM.ob (sY c v r e J) ci ci (Same.keys co co) bv bv d7 ?_;simp[cM,aQ,aD,aE]);(repeat' first|refine ao ?_|simp);(refine hM.ob (key) ci ci (Same.keys co co) bv bv d7 ?_;simp[cM,aQ,aD,aE]);(repeat' first|refine ao ?_|simp);(refine c5.at (aQ p.2) Ψ ci (Same.keys co co) bv bv ?_;simp[dd,bc,bf,a6,aM,ae,aQ,aD,aE])
def l4(n:Int):bT au 116 [aj n] (T.var n).e:=by refine bI a1 Tryz.func116 an9 fun a=>?_;unfold SI;exact cn
def ajv(n:Nat):∀(x:Int) (c:bK) (p:T×bK),rO n x c=some p->bH au 249 [aE,aj x] (aQ c) fun r j=>r=p.1.e/\j=aQ p.2:=by
 induction n with
 |zero=>intro x c p h;simp[rO]at h
 |succ n l=>
  intro x c p he;have b:=cx c;simp only[rO]at he;cases d:dp x c.full with
  |some t=>rw[d]at he;cases he;simp only[aQ,aD]at b⊢;refine bH.mk mixed a1 Tryz.func249 O3 Ψ b.obj fun k g=>?_;unfold GL;simp[aE];(repeat' first|refine ao ?_|simp[d]);(refine c5.at (aQ c) Ψ ci (Same.keys co co) bv bv ?_;simp[dd,bc,bf,a6,aM,ae,aQ,aD,aE])
  |none=>
   rw[d]at he;simp only at he;cases e:c.shd x with
   |false=>have f:(dp x c.shaped).getD false=false:=e;rw[if_pos e]at he;cases he;simp only[aQ,aD]at b⊢;refine bH.mk mixed a1 Tryz.func249 O3 Ψ b.obj fun k g=>?_;unfold GL;simp[aE];(repeat' first|refine ao ?_|refine aO (l4 _) ?_|refine aP (l4 _) ?_|simp[d,f]);(refine c5.at (aQ {c with full:=fA x (.var x) c.full}) Ψ ci (Same.keys co co) bv bv ?_;simp[dd,bc,bf,a6,aM,ae,aQ,aD,aE])
   |true=>have f:(dp x c.shaped).getD false=true:=e;rw[if_neg (by simp[e]),hs]at he;obtain⟨⟨t,i⟩,J,rfl⟩:=he;have key:=ai2 aQ cx Gs 260 [.eptr aE] (fun a=>by simp[aQ,aD,aE,aM,ae]) rfl (C7 (rO n)) (fun v a p h=>ajw n l v a p h) _ _ _ J;rw[show c.shp x=(dp x c.shape).getD .nil from rfl]at key;simp only[aQ,aD]at b⊢;refine bH.mk mixed a1 Tryz.func249 O3 Ψ b.obj fun k g=>?_;unfold GL;simp[aE];(repeat' first|refine ao ?_|refine aO (l4 _) ?_|refine aP (l4 _) ?_|simp[d,f]);(refine CallDo.ob (key) ci bv bv d7 ?_;rintro r j ⟨rfl,rfl⟩;refine⟨(Same.keys co co),?_⟩;simp[cM,aQ,aD,aE]);(repeat' first|refine ao ?_|simp);(refine c5.at (aQ {i with full:=fA x t i.full}) Ψ ci (Same.keys co co) bv bv ?_;simp[dd,bc,bf,a6,aM,ae,aQ,aD,aE])
def ajc:bH au 215 [] ⟨[],[]⟩ fun r a=>r=aE/\a=aQ bK.new:=by have b:eA ⟨[],[]⟩:=eA.of sw Ψ Ψ;refine bH.mk mixed a1 Tryz.func215 anY Ψ b.obj fun d c=>?_;unfold Sx;simp;refine c5.new (aQ bK.new) (.inl rfl) (cx _) ⟨trivial,trivial⟩ (by simp only[aQ,aD,bK.new];exact aX) (by simp only[aQ,aD,bK.new];exact aX) ?_;simp[dd,bc,bf,a6,aM,ae,aQ,aD,aE]
def abJ{a b:List Int}(h:a.Perm b):sC a=sC b:=by
 have e:∀a b c:Int,(decide (a<=b))=true->(decide (b<=c))=true->(decide (a<=c))=true:=by intro a b c;simp;omega
 have d:∀a b:Int,(decide (a<=b)||decide (b<=a))=true:=by intro a b;simp;omega
 have J:=List.pairwise_mergeSort e d a;have U:=List.pairwise_mergeSort e d b;refine Rg (le:=fun x y:Int=>(decide (x<=y))=true) (fun x y _ _ J U=>by simp at J U;omega) J U ?_;exact(List.mergeSort_perm a _).trans (h.trans (List.mergeSort_perm b _).symm)
def alK(l:List Int)(k:Nat)(st:bp):Prop:=∃(seen:List Nat) (xs:List Int),seen.Nodup/\(∀b∈seen,b<l.length)/\k=l.length-seen.length/\xs=seen.filterMap (fun b=>l[b]?)/\xs.length=seen.length/\st=⟨[(3,.row 1 (.obj 306) xs.length),(7,.ptr (.loc 0) 0)],[(.obj 304,pJ l),(.loc 0,cd l.length seen (.obj 304))],[(.obj 306,⟨xs.length,3,1,some (e2 xs)⟩)],1,[.obj 306,.obj 304]⟩
@[simp]def avw(xs:List Int):(e2 xs).length=xs.length:=by simp[e2]
@[simp]def ax1(xs:List Int):cf (e2 xs)=e2 xs:=by
 induction xs with
 |nil=>rfl
 |cons x r a=>simp only[e2,ha,cf,b7]at a⊢;rw[a]
@[simp]def avx:e2 []=[]:=rfl
def alF(xs:List Int)(x:Int):e2 xs++[af.int .i64 x]=e2 (xs++[x]):=by simp[e2]
def aju(l:List Int)(v:l.length<=1000000):bH au 136 [.gmap (.obj 304)] (vw l) fun r n=>r=cX (e2 (sC l))/\n=vw l:=by
 have e:=Ro l;unfold vw at e⊢;refine bH.mk mixed a1 Tryz.func136 an8 Ψ e.obj fun w m=>?_;unfold SH;simp;refine qs (alK l) l.length _ ⟨by simp[fresh,aH,az,cd,aM,ae,n1,uX],eo (by simp[fresh,aH,az,cd,aM,ae,n1,uX]),ep (by simp[fresh,aH,az,dV,aM,ae,n1,uX]),Ψ⟩ ⟨[],[],Ψ,Ψ,Ψ,Ψ,Ψ,rfl⟩ ?_;rintro k st ⟨seen,xs,d,a,ab,i,s,rfl⟩ q m;clear q m;have hle:=JY d a;simp;refine afx (mk:= .obj 304) (seen:=seen) (l:=l) Ψ Ψ rfl (fun p=>?_) (fun b x g o=>?_)
 ·simp;have h:=Qg d a p;rw[<-i]at h;refine CallDo.ob (ajr 306 xs Ω) (KD 306 xs) (by unfold oo;exact aX) (by unfold oo;exact aX) (by simp[oo,aM,ae]) ?_;rintro r n ⟨rfl,rfl⟩;refine⟨⟨fun _=>rfl,fun k=>by simp only[oo,ae];split<;>rfl⟩,?_⟩;unfold oo;simp[cM,abI];refine c5.at _ (.inl rfl) e (Same.refl _) aX aX ?_;simp[dd,bc,bf,a6];rw[abJ h];simp[az,uX]
 ·have t:∀f:aB->be (List af),f (.loc 0)=some (cd l.length (seen++[b]) (.obj 304))->f (.obj 304)=some (pJ l)->qM f (.ptr (.loc 0) 0)=some (True,.tuple [aj x,.bool true]):=fun f J U=>amC f (.loc 0) (.obj 304) l.length seen b l x J U rfl g;have j:b<l.length:=(fH.1 g).1;have u:=Qh d a j o;simp[t,alF];refine⟨by unfold lim;omega,?_⟩;refine bY.next (l.length-(seen.length+1)) Ω ⟨seen++[b],xs++[x],OU d o,(by simp;intro c aw;rcases aw with aw|rfl;exact a c aw;exact j),Ψ,by rw[List.filterMap_append,<-i];simp[g],by simp[s],rfl⟩ ⟨by simp[fresh,aH,az,cd,aM,ae,n1,uX],eo (by simp[fresh,aH,az,cd,aM,ae,n1,uX]),ep (by simp[fresh,aH,az,dV,aM,ae,n1,uX]),Ψ⟩
@[simp]def avL(S:aB->Prop)(xs:List Int):aH S (e2 xs)=True:=h4 (uX S xs)
@[simp]def auk:cells .junk=[.junk]:=rfl
def SG:C:=(aa [fw 6 5,bz 7 false] (aa [dT 12 215 [],I 8 12] (.seq (aa [I 13 0,cw 14 13,bQ 15 0] (gx 16 15 14 (.seq (.block 1 (aa [ck 17 5 13 15,bk 18 5 17,dI 10 kx,bV 5 10 18] (aa [I 19 8,aF 20 0 1 10,ay 21 1 20,cc 22 216 19 21] (aa [I 23 8,hr 24 1 4 10,bk 25 4 24,cc 26 217 23 25] (.seq (.drawn false 69 [I 27 8,aF 28 0 1 10,ay 29 1 28,cY 30 116 29,hr 31 1 4 10,bk 32 4 31,dT 33 218 [.t 27,.t 30,.t 32],cO 34 33]) (aW 34 (aa [fw 6 5,bz 7 false] .ret) .skip)))))) (.region [aV 35 .add 15 1,I 15 35])))) (.seq (aa [I 36 1,cw 37 36,bQ 38 0] (.block 2 (.loop (aa [bu 39 .lss 38 37] (.seq (aW 39 .skip (.exit 2)) (.seq (.block 3 (aa [I 40 38,I 11 40] (aa [I 41 8,I 42 1,I 43 11,ck 44 4 42 43,bk 45 4 44,cc 46 217 41 45] (aa [I 47 8,I 48 2,I 49 11,ck 50 4 48 49,bk 51 4 50,cc 52 217 47 51] (.seq (.drawn false 69 [I 53 8,I 54 1,I 55 11,ck 56 4 54 55,bk 57 4 56,I 58 2,I 59 11,ck 60 4 58 59,bk 61 4 60,dT 62 218 [.t 53,.t 57,.t 61],cO 63 62]) (aW 63 (aa [fw 6 5,bz 7 false] .ret) .skip)))))) (.region [aV 64 .add 38 1,I 38 64]))))))) (aa [I 65 8,cY 66 219 65,cV 67 0 66,cV 68 1 66,I 6 67,I 7 68] .ret)))))
def Sn:C:=(aa [fw 2 5,bz 3 false] (aa [dt (.mkmap 12 (some 304)),I 4 12] (.seq (aa [I 13 0,gw 14 13,aF 15 0 1 14,ay 16 1 15,dt (.range 17 none (.t 16))] (.block 0 (.loop (aa [⟨none,.next 18 (.t 17)⟩,cV 19 0 18] (.seq (aW 19 .skip (.exit 0)) (.block 1 (aa [cb 20 (.ment (.t 17)),cV 21 0 20,I 5 21] (.region [I 22 4,I 23 5,dt (.mput .i (.t 22) (.t 23) (.c (.bool true)))])))))))) (aa [I 24 4,cY 25 136 24,I 6 25] (aa [dt (.bslm 26 none 5 113 []),I 7 26] (.seq (aa [I 27 6,cw 28 27,bQ 29 0] (.block 2 (.loop (aa [bu 30 .lss 29 28] (.seq (aW 30 .skip (.exit 2)) (.seq (.block 3 (aa [ck 31 1 27 29,ay 32 1 31,I 9 32] (aa [I 33 0,I 34 9,cc 35 216 33 34,I 10 35] (.seq (aa [I 36 0,I 37 10,cc 38 248 36 37,cO 39 38] (aW 39 (aa [fw 2 5,bz 3 false] .ret) .skip)) (.seq (aa [I 40 10,I 41 9,bu 42 .eql 40 41,I 43 42,cg 43 true 44 0,ax 43 true (gw 45 44),ax 43 true (aF 46 2 1 45),ax 43 true (ay 47 1 46),cg 43 true 48 10,ax 43 true (cb 49 (.mget .i (.bool false) false (.t 47) (.t 48))),ax 43 true (cO 50 49),ei 51 43 50] (aW 51 (.exit 3) .skip)) (aa [I 52 7,I 53 9,jr 54 kx [(0,1,(.t 53))],fe 55 5 113 [.t 54],dt (.appm 56 none 5 113 (.t 52) (.t 55)),I 7 56] (aa [I 57 0,gw 58 57,aF 59 4 1 58,ay 60 1 59,I 61 10,cb 62 (.mget .i (.int .i64 0) false (.t 60) (.t 61)),aV 63 .gtr 62 5000,I 64 63,cg 64 false 65 7,ax 64 false (cw 66 65),ax 64 false (aV 67 .gtr 66 400),ds 68 64 67] (aW 68 (aa [fw 2 5,bz 3 false] .ret) .skip)))))))) (.region [aV 69 .add 29 1,I 29 69]))))))) (.seq (aa [I 70 7,cw 71 70,bQ 72 0] (.block 4 (.loop (aa [bu 73 .lss 72 71] (.seq (aW 73 .skip (.exit 4)) (.seq (.block 5 (aa [I 74 72,I 11 74] (.region [I 75 7,I 76 11,I 77 0,I 78 0,I 79 7,I 80 11,ck 81 5 79 80,aF 82 0 1 81,ay 83 1 82,cc 84 216 78 83,cc 85 249 77 84,cY 86 143 85,ck 87 5 75 76,hr 88 1 4 87,bV 4 88 86]))) (.region [aV 89 .add 72 1,I 72 89]))))))) (.seq (.pub 7 (.region [I 90 7,I 2 90,bz 3 true])) .ret))))))))
def an7:b4 aT SG [.tmp 6,.tmp 7] 3 Tryz.f186=true:=bi
def anP:b4 aT Sn [.tmp 2,.tmp 3] 1 Tryz.f219=true:=bi
def hk(o:be (List Bd)):af:= .tuple [bL ((o.getD []).map Bd.e),.bool o.isSome]
def amE(f:aB->be (List af))(gl mk:aB)(n:Nat)(seen:List Nat)(b:Nat)(l:List (Int×Int))(x:Int×Int)(hi:f gl=some (cd n (seen++[b]) mk))(hm:f mk=some (oK l))(c:n=l.length)(a:l[b]? =some x):qM f (.ptr gl 0)=some (True,.tuple [aj x.1,aj x.2]):=by rw[Yz f gl mk n seen b _ hi hm (by simpa using c)];simp[a]
def afy{st:bp}{d:Nat}{K:bp->Prop}{gl mk:aB}{n:Nat}{seen:List Nat}{l:List (Int×Int)}(hi:ae gl st.b=some (cd n seen mk))(hm:ae mk st.b=some (oK l))(g:n=l.length)
  (J:(∀b,b<l.length->b∈seen)->K {st with t:=Pv.put d (.tuple [.bool false]) st.t}) (U:∀b x,l[b]? =some x->b∉seen->K {st with t:=Pv.put d (.tuple [.bool true,aj x.1,aj x.2]) st.t,b:=cK gl (cd n (seen++[b]) mk) st.b}):
  uC st d (.ptr gl 0) K:=by
 refine UI hi hm (by simpa using g) (fun h=>J fun b a=>h b Ω) (fun b k v a f=>?_);simp only[List.getElem?_map,hs]at a;obtain⟨x,e,c⟩:=a;simp only[js]at c;obtain⟨rfl,rfl⟩:=c;exact U b x e f
@[simp]def axb(m:aB)(l:List (Int×Int)):z8 m (oK l)=some (cd l.length [] m):=by simp[oK,tG]
def o0(v:Int):af:= .agg [aj v,aj 0,aj 0,.str [],.slice 4 .nil []]
@[simp]def al6(S:aB->Prop)(l:List Int):aH S (l.map o0)=True:=by
 apply h4;induction l with
 |nil=>simp[aH]
 |cons x r a=>simp only[ha,aH];exact⟨by simp[o0,az,aH],a⟩
@[simp]def avZ(S:aB->Prop)(v:Int):az S (o0 v)=True:=by simp[o0,az,aH]
@[simp]def axm(v:Int):eU (o0 v)=true:=rfl
@[simp]def at5(v:Int):cells (o0 v)=[aj v,aj 0,aj 0,.str [],.slice 4 .nil []]:=rfl
def aqL(v:Int)(f:Nat)(cs:List af):od (o0 v) f cs= .agg (nB [aj v,aj 0,aj 0,.str [],.slice 4 .nil []] f cs):=rfl
def j2{S:aB->Prop}:∀{a b:List af},aH S (a++b)↔(aH S a/\aH S b)
 |[],b=>by simp[aH]
 |x::a,b=>by simp[aH,j2 (a:=a),and_assoc]
@[simp]def avK(S:aB->Prop)(k:Nat)(l:List Int):aH S (oV k (l.map o0))=True:=by rw[<-List.map_drop];exact al6 S _
@[simp]def awf(S:aB->Prop)(o:be (List Bd)):az S (hk o)=True:=by simp[hk]
def KV(l:List Int)(v:Int):l.map o0++[.agg [aj v,aj 0,aj 0,.str [],.slice 4 .nil []]]=(l++[v]).map o0:=by simp[o0]
def alG(c:bK)(k:Nat)(st:bp):Prop:=∃(seen:List Nat) (xs:List Int),seen.Nodup/\(∀b∈seen,b<c.up.length)/\k=c.up.length-seen.length/\xs=seen.filterMap (fun b=>(c.up[b]?).map (·.1))/\xs.length=seen.length/\st=⟨[(0,aE),(4,.gmap (.obj 304)),(17,.ptr (.loc 0) 0)],aD c++[(.obj 304,pJ xs),(.loc 0,cd c.up.length seen (.obj 702))],[],1,[.obj 304,.obj 702,.obj 703,.obj 704,.obj 705,.obj 706,.obj 707]⟩
def aqV{c:bK}{seen:List Nat}(e:seen.Nodup)(d:∀b∈seen,b<c.up.length)(a:∀b,b<c.up.length->b∈seen):(seen.filterMap fun b=>(c.up[b]?).map (·.1)).Perm (cH c.up):=by have:=Qg (l:=cH c.up) e (by simpa[cH]using d) (by simpa[cH]using a);simpa[cH]using this
def aqW{c:bK}(g:(cH c.up).Nodup){seen:List Nat}{b:Nat}(j:b∉seen){x:Int×Int}(k:c.up[b]? =some x):x.1∉seen.filterMap fun b=>(c.up[b]?).map (·.1):=by
 intro hm;rw[List.mem_filterMap]at hm;obtain⟨b2,J,U⟩:=hm;obtain⟨y,i,l⟩:=hs.1 U;have e:(cH c.up)[b]? =some x.1:=by simp[cH,k]
 have f:(cH c.up)[b2]? =some x.1:=by simp[cH,i,l]
 have d:=(fH.1 e).1;have a:=(fH.1 f).1;have f1:=(fH.1 e).2;have f2:=(fH.1 f).2;rcases Nat.lt_trichotomy b b2 with h|h|h
 ·exact q4.1 g b b2 d a h (f1.trans f2.symm)
 ·subst h;exact j J
 ·exact q4.1 g b2 b a d h (f2.trans f1.symm)
def ajp(n:Nat)(c:bK)(o:be (List Bd))(he:FU n (sD (cH c.up)) c=some o)(Er:(cH c.up).Nodup)(hlen:c.up.length<=1000000)(bC:nI c):bH au 219 [aE] (aQ c) fun r A=>r=hk o/\∃cD,A=aQ cD:=by
 have ai:=cx c;simp only[aQ,aD]at ai⊢;refine bH.mk mixed a1 Tryz.func219 anP Ψ ai.obj fun aR c4=>?_;unfold Sn;simp[aE];have O:∀S:aB->Prop,aH S (k0 []):=fun S=>n1 S [];refine qs (alG c) c.up.length _ ⟨by simp[fresh,aH,az,cd,aM,ae,n1,aE,aD,O],eo (by simp[fresh,aH,az,cd,aM,ae,n1,aE,aD,O]),ep (by simp[fresh,aH,az,dV,aM,ae,n1,aE,aD,O]),Ψ⟩ ⟨[],[],Ψ,Ψ,Ψ,Ψ,Ψ,rfl⟩ ?_;rintro k st ⟨seen,xs,s,K,ab,P,kW,rfl⟩ lS c4;clear lS c4;have hle:=JY s K;simp[aD,aE];refine afy (mk:= .obj 702) (seen:=seen) (l:=c.up) Ψ Ψ rfl (fun mF=>?_) (fun b x N p=>?_);rotate_left
 ·have BC:∀f:aB->be (List af),f (.loc 0)=some (cd c.up.length (seen++[b]) (.obj 702))->f (.obj 702)=some (oK c.up)->qM f (.ptr (.loc 0) 0)=some (True,.tuple [aj x.1,aj x.2]):=fun f J U=>amE f (.loc 0) (.obj 702) c.up.length seen b c.up x J U rfl N;have gh:b<c.up.length:=(fH.1 N).1;have qD:=Qh s K gh p;have j0:=aqW Er p N;rw[<-P]at j0;simp[BC,KP,j0];refine bY.next (c.up.length-(seen.length+1)) Ω ⟨seen++[b],xs++[x.1],OU s p,(by simp;intro c aw;rcases aw with aw|rfl;exact K c aw;exact gh),Ψ,by rw[List.filterMap_append,<-P];simp[N],by simp[kW],rfl⟩ ⟨by simp[fresh,aH,az,cd,aM,ae,n1,aE,aD],eo (by simp[fresh,aH,az,cd,aM,ae,n1,aE,aD]),ep (by simp[fresh,aH,az,dV,aM,ae,n1,aE,aD]),Ψ⟩
 ·simp;have xF:=aqV s K mF;rw[<-P]at xF;have X:xs.length<=1000000:=Ω
  refine CallDo.ob (aju xs X) (Ro _) (by simp only[vw];exact aX) (by simp only[vw];exact aX) (by simp[aM,vw,ae]) ?_;rintro r A ⟨rfl,rfl⟩;refine⟨Same.refl _,?_⟩;have BJ:sC xs=sD (cH c.up):=abJ xF;rw[BJ];obtain⟨bm,ls⟩:∃bm,bm=sD (cH c.up):=⟨_,rfl⟩;rw[<-ls]at he⊢;simp[vw,cM];simp only[FU,mY]at he;obtain⟨res,Bu,y⟩:=he;have pX:bm.length<=1000000:=by rw[ls,(FX _).length_eq];simpa[cH]using hlen
  refine fU (α:=bK×List Int) (fun i a=>⟨[(0,aE),(27,cX (e2 bm)),(28,aj bm.length),(7,.row 5 (.loc 1) a.2.length),(29,aj i)],aD a.1,[(.loc 1,⟨a.2.length,113,5,some (a.2.map o0)⟩)],2,[.obj 702,.obj 703,.obj 704,.obj 705,.obj 706,.obj 707]⟩) bm.length (fun i a=>tV n (bm.drop i) a.1 a.2=some res/\nI a.1/\a.2.length<=400) (c,[]) (by simp[aE,aD];exact⟨by simp[fresh,aH,az,cd,aM,ae,n1,aE,aD],eo (by simp[fresh,aH,az,cd,aM,ae,n1,aE,aD]),ep (by simp[fresh,aH,az,dV,aM,ae,n1,aE,aD]),Ψ⟩) ⟨by simpa using Bu,bC,Ψ⟩ ?_ ?_
  ·rintro⟨Q,out⟩ ⟨J,U,M⟩ p;simp only at J U M p⊢;simp[tV]at J;subst J;simp only[hs]at y;obtain⟨⟨L,aeq⟩,Z,rfl⟩:=y;simp[aE,aD];refine fU (α:=bK×List Bd) (fun j a=>⟨[(0,aE),(7,.row 5 (.loc 1) out.length),(71,aj out.length),(72,aj j)],aD a.1,[(.loc 1,⟨out.length,113,5,some (a.2.map Bd.e++(out.drop j).map o0)⟩)],2,[.obj 702,.obj 703,.obj 704,.obj 705,.obj 706,.obj 707]⟩) out.length (fun j a=>a.2.length=j/\∃rest,Ak n (out.drop j) a.1=some (rest,aeq)/\a.2++rest=L) (Q,[]) (by simp[aE,aD];exact⟨by simp[fresh,aH,az,cd,aM,ae,aE,aD],eo (by simp[fresh,aH,az,cd,aM,ae,aE,aD]),ep (by simp[fresh,aH,az,dV,aM,ae,aE,aD]),Ψ⟩) ⟨rfl,L,by simpa using Z,rfl⟩ ?_ ?_
   ·rintro⟨w,done⟩ ⟨q,rest,m,g⟩ p;simp only at q m g p⊢;simp[Ak]at m;obtain⟨rfl,rfl⟩:=m;simp at g;subst g;simp[aE,aD,q];refine c5.at (aQ w) Ψ (cx _) (Same.keys (by simp[aQ,aD]) (by simp[aQ,aD])) (by simp only[aQ,aD];exact aX) (by simp only[aQ,aD];exact aX) ?_;simp[dd,bc,bf,a6,aQ,aD,hk];exact⟨w,Ψ⟩
   ·rintro j ⟨w,done⟩ B ⟨q,rest,m,g⟩ p;simp only at q m g p⊢;obtain⟨v,u⟩:∃v,out[j]? =some v:=⟨_,cl B⟩;have s:out.drop j=v::out.drop (j+1):=by rw[lH B];rw[cl B]at u;cases u;rfl
    rw[s]at m;simp only[Ak,mY,hs,js]at m;obtain⟨⟨x,d⟩,eb,⟨t,h7⟩,lP,⟨V,auw⟩,uG,rfl,rfl⟩:=m;simp only at lP uG;have key:=ajv n x d _ lP;rw[s];have iN:∀R,(done.map Bd.e++o0 v::R)[j]? =some (o0 v):=fun R=>by rw[vp d6];simp[q]
    have xJ:∀R x,(done.map Bd.e++o0 v::R).set j x=done.map Bd.e++x::R:=fun R x=>by rw[List.set_append_right _ _ d6];simp[q]
    simp[aE,aD];(repeat' first|refine ao ?_|simp[iN,B]);(refine CallDo.ob (sY w v x d eb) ci bv bv d7 ?_;rintro r A ⟨rfl,rfl⟩;refine⟨(Same.keys co co),?_⟩;simp[cM,aQ,aD,aE]);(repeat' first|refine ao ?_|simp);(refine CallDo.ob (key) ci bv bv d7 ?_;rintro r A ⟨rfl,rfl⟩;refine⟨(Same.keys co co),?_⟩;simp[cM,aQ,aD,aE]);(repeat' first|refine ao ?_|refine aO (vk _) ?_|refine aP (vk _) ?_|simp[iN,xJ,B,aqL,-od]);refine bY.rng (h7,done++[⟨v,t⟩]) B ⟨by simp[q],V,uG,by simpa using g⟩ ?_;simp[aE,aD];exact⟨by simp[fresh,aH,az,cd,aM,ae,aE,aD,j2],eo (by simp[fresh,aH,az,cd,aM,ae,aE,aD,j2]),ep (by simp[fresh,aH,az,dV,aM,ae,aE,aD,j2]),Ψ⟩
  ·rintro i ⟨Q,out⟩ hi ⟨J,U,M⟩ p;simp only at J U M p⊢;obtain⟨v,u⟩:∃v,bm[i]? =some v:=⟨_,cl hi⟩;have s:bm.drop i=v::bm.drop (i+1):=by rw[lH hi];rw[cl hi]at u;cases u;rfl
   rw[s]at J;simp only[tV,mY]at J;obtain⟨⟨x,w⟩,q,⟨f,d⟩,m,g⟩:=J;simp only at m g;obtain⟨z3,key⟩:=ajx n x w _ m (U.rt q);have Y:∀h,(e2 bm)[i]'h=aj v:=fun h=>by rw[cl hi]at u;simp only[dU]at u;simp[e2,u]
   simp[aE,aD];(repeat' first|refine ao ?_|simp[Y,hi]);(refine CallDo.ob (sY Q v x w q) ci bv bv d7 ?_;rintro r A ⟨rfl,rfl⟩;refine⟨(Same.keys co co),?_⟩;simp[cM,aQ,aD,aE]);(repeat' first|refine ao ?_|simp);(refine CallDo.ob (key) ci bv bv d7 ?_;rintro r A ⟨rfl,rfl⟩;refine⟨(Same.keys co co),?_⟩;simp[cM,aQ,aD,aE]);cases f with
   |false=>simp at g;subst g;simp at y;subst y;(repeat' first|refine ao ?_|simp);refine c5.at (aQ d) Ψ (cx _) (Same.keys (by simp[aQ,aD]) (by simp[aQ,aD])) (by simp only[aQ,aD];exact aX) (by simp only[aQ,aD];exact aX) ?_;simp[dd,bc,bf,a6,aQ,aD,hk];exact⟨d,Ψ⟩
   |true=>
    simp only[Bool.true_eq_false,if_false]at g;by_cases aw:x=v/\d.shd x=false
    ·rw[if_pos aw]at g;obtain⟨W,nq⟩:=aw;subst W;have uQ:(dp x d.shaped).getD false=false:=nq;(repeat' first|refine ao ?_|simp[uQ]);refine bY.rng (d,out) hi ⟨g,z3,M⟩ ?_;exact⟨by simp[fresh,aH,az,cd,aM,ae,aE,aD],eo (by simp[fresh,aH,az,cd,aM,ae,aE,aD]),ep (by simp[fresh,aH,az,dV,aM,ae,aE,aD]),Ψ⟩
    ·rw[if_neg aw]at g;have WR:(x==v)=false\/((x==v)=true/\(dp x d.shaped).getD false=true):=by
      by_cases e:x=v
      ·right;refine⟨by simp[e],?_⟩;cases aC:d.shd x with
       |false=>exact absurd ⟨e,aC⟩ aw
       |true=>exact aC
      ·left;simp[e]
     by_cases H:5000<d.sz x\/400<out.length+1
     ·rw[if_pos H]at g;cases g;simp at y;subst y;have oE:(decide (5000<jV d.size x))=true\/(decide (5000<jV d.size x)=false/\400<out.length+1):=by
       by_cases e:5000<jV d.size x
       ·left;simp[e]
       ·right;exact⟨by simp[e],H.resolve_left e⟩
      have E:True:=trivial;have F:True:=trivial;rcases WR with z|⟨z,E⟩;all_goals
       rcases oE with G|⟨G,F⟩
       all_goals
        ((repeat' first|refine ao ?_|simp[z,E,G,F]|((first|apply ct|apply cz|apply cy)<;>intro h<;>try simp at h))<;>(try exact c3))
        refine c5.at (aQ d) Ψ (cx _) (Same.keys (by simp[aQ,aD]) (by simp[aQ,aD])) (by simp only[aQ,aD];exact aX) (by simp only[aQ,aD];exact aX) ?_
        simp[dd,bc,bf,a6,aQ,aD,hk]
        exact⟨d,Ψ⟩
     ·rw[if_neg H]at g;have G:decide (5000<jV d.size x)=false:=by simp;exact Int.not_lt.1 fun h=>H (.inl h)
      have F:¬400<out.length+1:=fun h=>H (.inr h);have E:True:=trivial;rcases WR with z|⟨z,E⟩;all_goals
       ((repeat' first|refine ao ?_|simp[z,E,G,F]|((first|apply ct|apply cz|apply cy)<;>intro h<;>try simp at h))<;>(try exact c3))
       all_goals try refine⟨by unfold lim;omega,?_⟩
       ((repeat' first|refine ao ?_|simp[z,E,G,F]|((first|apply ct|apply cz|apply cy)<;>intro h<;>try simp at h))<;>(try exact c3))
       refine bY.rng (d,out++[v]) hi ⟨g,z3,by simp;omega⟩ ?_
       exact⟨by simp[fresh,aH,az,cd,aM,ae,aE,aD,KV,j2],eo (by simp[fresh,aH,az,cd,aM,ae,aE,aD,KV,j2]),ep (by simp[fresh,aH,az,dV,aM,ae,aE,aD,KV,j2]),Ψ⟩
def QN:∀{a b:T},a.tm=b.tm->a=b:=by
 intro a;induction a with
 |pair x y d c=>intro b h;cases b<;>simp[T.tm]at h;rw[d h.1,c h.2]
 |_=>intro b h;cases b<;>simp[T.tm]at h⊢ <;>exact h
def adK(l:List Bt):Prop:= ∃s:List Bd,l=s.map Bd.b/\rI s/\jD s/\iy s
def KI(l:List Bt):Prop:= ∃s:List Bd,l=s.map Bd.b/\rI s/\gD s/\iy s
def RS:∀{l:List Bt},(∀b∈l,b.t.fits=true)->∃s:List Bd,l=s.map Bd.b/\Be s
 |[],_=>⟨[],rfl,fun b d=>by simp at d⟩
 |b::l,h=>by
  obtain⟨s,J,U⟩:=RS (l:=l) fun c aw=>h c (by simp[aw]);obtain⟨x,a,e⟩:=Tm.fits_ex (h b Ψ);refine⟨⟨b.v,x⟩::s,by rw[J];simp[Bd.b,a],fun c aw=>?_⟩;rcases gJ.1 aw with rfl|aw
  ·exact e
  ·exact U c aw
def Kp{l:List Bt}:AH l↔adK l:=by
 constructor
 ·rintro⟨J,U⟩;obtain⟨s,rfl,f⟩:=RS (l:=l) fun b a=>by obtain⟨i,hi,e⟩:=pA a;exact(U i hi b (by rw[cl hi,e])).2.2
  have n:∀b∈s,b.t.ok=true/\b.t.size<=5000:=fun b a=>by have:=f b a;simpa[T.fit]using this
  refine⟨s,rfl,fun b a=>⟨?_,(n b a).1⟩,?_,by simpa using J,fun b a=>(n b a).2⟩
  ·obtain⟨i,hi,e⟩:=pA a;have:=(U i (by simpa using hi) b.b (by simp[cl hi,e])).1;exact this
  ·rw[jD,q4];have g:∀i (h:i+1<s.length),s[i].v<s[i+1].v:=fun i h=>by have:=(U (i+1) (by simpa using h) s[i+1].b (by simp[cl h])).2.1 s[i].b Ω (by simp[cl (show i<s.length by omega)]);exact this
   have:∀(d i:Nat) (h:i+d+1<s.length),s[i].v<s[i+d+1].v:=by
    intro d;induction d with
    |zero=>intro i h;exact g i h
    |succ d q=>intro i h;have o:=q i Ω;have a2:=g (i+d+1) Ω;simp only[Nat.add_assoc]at o a2⊢;omega
   intro i j hi w u;have:=this (j-i-1) i Ω;simpa[show i+(j-i-1)+1=j from by omega]using this
 ·rintro⟨s,rfl,ar,p,m⟩;refine⟨by simpa using m.1,fun i hi b a=>?_⟩;simp only[List.getElem?_map,hs]at a;obtain⟨c,aw,rfl⟩:=a;have hm:=ft aw;refine⟨(ar c hm).1,fun d v k=>?_,?_⟩
  ·simp only[List.getElem?_map,hs]at k;obtain⟨e,he,rfl⟩:=k;obtain⟨J,r⟩:=fH.1 he;obtain⟨U,t⟩:=fH.1 aw;have:=q4.1 p (i-1) i J U Ω;rw[r,t]at this;exact this
  ·show c.t.tm.fits=true;rw[Tm.fits_T];simp[T.fit,(ar c hm).2,m.2 c hm]
def w9(s:List Bd)(v:Int)(f:Bool):Bool:=if 0<=oA s v then false else f
def nJ(s:List Bd)(b:Bd):Bool:=b.t.fold (w9 s) true&& !(b.t.kind==1&&decide (b.v<=b.t.int))
def Vs{s:List Bd}(e:jD s)(t:T):∀f:Bool,t.fold (w9 s) f=true↔f=true/\∀w,t.occ w=true->dG s w=none:=by
 induction t with
 |var n=>
  intro f;simp only[T.fold,T.occ,ey,w9];have:=Vo e n;by_cases h:0<=oA s n
  ·rw[if_pos h];constructor
   ·intro h;cases h
   ·rintro⟨_,U⟩;have:=this.2 (U n rfl);omega
  ·rw[if_neg h];exact⟨fun i=>⟨i,fun w hw=>by subst hw;exact this.1 Ω⟩,fun h=>h.1⟩
 |pair a b d c=>
  intro f;simp only[T.fold,d,c,T.occ,og];constructor
  ·rintro⟨⟨J,U⟩,g⟩;exact⟨J,fun w hw=>hw.elim (U w) (g w)⟩
  ·rintro⟨J,U⟩;exact⟨⟨J,fun w hw=>U w (.inl hw)⟩,fun w hw=>U w (.inr hw)⟩
 |_=>intro f;simp[T.fold,T.occ]
def KY{s:List Bd}(a:jD s)(b:Bd):nJ s b=true↔(∀w,b.t.occ w=true->dG s w=none)/\∀w,b.t= .var w->w<b.v:=by
 unfold nJ;rw[cR,Vs a];simp only[true_and];refine and_congr_right fun _=>?_;constructor
 ·intro h w hw;have ab:(b.t.kind==1)=true:=by rw[hw];rfl
  have hi:b.t.int=w:=by rw[hw];rfl
  rw[ab,hi]at h;simpa using h
 ·intro h;cases ab:(b.t.kind==1)with
  |false=>rfl
  |true=>
   obtain⟨w,hw⟩:∃w,b.t= .var w:=by
    cases e:b.t with
    |var w=>exact⟨w,rfl⟩
    |_=>rw[e]at ab;simp at ab
   have hi:b.t.int=w:=by rw[hw];rfl
   have:=h w hw;rw[hi];simpa using this
def abH{s:List Bd}(c:jD s):gD s↔∀b∈s,nJ s b=true:=by
 constructor
 ·intro h b a;exact(KY c b).2 ⟨h.free b a,h.ori b a⟩
 ·intro h;exact⟨c,fun b a=>((KY c b).1 (h b a)).1,fun b a=>((KY c b).1 (h b a)).2⟩
def qK{α:Type}(p:α->Bool)(s:List α)(i:Nat)(_:Unit):Prop:= ∀k b,k<i->s[k]? =some b->p b=true
def qK.step{α:Type}{p:α->Bool}{s:List α}{i:Nat}(h:qK p s i ()){b:α}(d:s[i]? =some b)(a:p b=true):qK p s (i+1) ():=fun k c ab aw=>by
 rcases(by omega:k<i\/k=i)with J|rfl
 ·exact h k c J aw
 ·rw[d]at aw;cases aw;exact a
open Classical in
noncomputable def hC(l:List Bt):Bool:=decide (KI l)
def sF{l:List Bt}:hC l=true↔KI l:=by unfold hC;simp
def jF(f:Bool):cT:=⟨[(.obj 731,[.bool f])],[]⟩
def wW(f:Bool):eA (jF f):=by unfold jF;exact eA.of ⟨by intro m;simp[ae],by intro m;simp[ae]⟩ Ψ Ψ
def adz(a b:Bool):Same (jF a) (jF b):=Same.keys (by simp[jF]) (by simp[jF])
def aiL(s:List Bd)(a:s.length<=1000000)(v:Int)(f:Bool):bH au 159 [aj v,.eptr (bL (s.map Bd.e)),.ptr (.obj 731) 0] (jF f) fun r d=>r= .tuple []/\d=jF (w9 s v f):=by
 have b:=wW f;simp only[jF]at b⊢;by_cases h:0<=oA s v
 ·rw[w9,if_pos h];refine bH.mk mixed a1 Tryz.func159 Zg Ψ b.obj fun e c=>?_;unfold K5;simp;(repeat' first|refine ao ?_|refine aO (vm s v a) ?_|refine aP (vm s v a) ?_|simp[h]);(refine c5.at (jF false) Ψ (by first|exact wW _|exact wW ‹_› _) (Same.keys (by simp[jF]) (by simp[jF])) (by simp only[jF,b6,ca];exact aX) (by simp only[jF,b6,ca];exact aX) ?_;simp[dd,bc,bf,a6,aM,ae,jF])
 ·rw[w9,if_neg h];refine bH.mk mixed a1 Tryz.func159 Zg Ψ b.obj fun e c=>?_;unfold K5;simp;(repeat' first|refine ao ?_|refine aO (vm s v a) ?_|refine aP (vm s v a) ?_|simp[h]);(refine c5.at (jF f) Ψ (by first|exact wW _|exact wW ‹_› _) (Same.keys (by simp[jF]) (by simp[jF])) (by simp only[jF,b6,ca];exact aX) (by simp only[jF,b6,ca];exact aX) ?_;simp[dd,bc,bf,a6,aM,ae,jF])
def QV(l:List Bt):bT au 86 [bL (l.map Bt.e)] (.bool (hC l)):=by
 have p:=asf l;by_cases h:AH l;rotate_left
 ·have m:hC l=false:=by unfold hC;simp only[iR];rintro⟨s,J,U,f,A⟩;exact h (Kp.2 ⟨s,J,U,f.asc,A⟩)
  rw[m];refine bI a1 Tryz.func86 Zf fun K=>?_;unfold K4;exact cn
 ·obtain⟨s,rfl,ar,E,B⟩:=Kp.1 h;have G:s.length<=1000000:=by have:=B.1;omega
  have H:(s.map Bd.b).map Bt.e=s.map Bd.e:=by rw[List.map_map];exact List.map_congr_left fun b _=>Bd.b_e b
  have m:hC (s.map Bd.b)=s.all (nJ s):=by
   rw[q2,j7,sF,<-abH E];constructor
   ·rintro⟨z,J,U,f,A⟩;have:z=s:=by
     have n:∀a b:List Bd,a.map Bd.b=b.map Bd.b->a=b:=by
      intro a;induction a with
      |nil=>intro b c;cases b<;>simp at c⊢
      |cons x a F=>
       intro b c;cases b with
       |nil=>simp at c
       |cons y b=>simp only[ha,rR,Bd.b,Bt.mk.injEq]at c;rw[F b c.2];have:=QN c.1.2;obtain⟨⟨L,_⟩,_⟩:=c;cases x;cases y;simp_all
     exact(n _ _ J).symm
    rw[<-this];exact f
   ·intro f;exact⟨s,rfl,ar,f,B⟩
  rw[m];rw[H]at p⊢;refine bI a1 Tryz.func86 Zf fun K=>?_;unfold K4;simp;(repeat' first|refine ao ?_|refine aO p ?_|refine aP p ?_|simp[h]);refine fU (α:=Unit) (fun i _=>⟨[(1,.eptr (bL (s.map Bd.e))),(9,bL (s.map Bd.e)),(10,aj s.length),(11,aj i)],[],[],1,[]⟩) s.length (qK (nJ s) s) () b9 (fun k b ab=>Ω) (fun _ j _=>?_) (fun i _ hi j _=>?_)
  ·have:s.all (nJ s)=true:=by rw[j7];intro b c;obtain⟨k,ab,e⟩:=pA c;exact j k b ab (by rw[cl ab,e])
   rw[this];exact cn
  ·obtain⟨b,d⟩:∃b,s[i]? =some b:=⟨_,cl hi⟩;have u:∀h,(s[i]'h)=b:=fun h=>by rw[cl hi]at d;exact e7 d
   have key:=VE jF wW adz 159 [.eptr (bL (s.map Bd.e)),.ptr (.obj 731) 0] (fun a=>by simp[jF,aM,ae]) Ψ (w9 s) (fun v a=>aiL s G v a) b.t true;have t:nJ s b=false->s.all (nJ s)=false:=fun h=>by rw[Bool.eq_false_iff];intro w;rw[j7]at w;rw[w b (ft d)]at h;cases h
   simp[hi,u];(repeat' first|refine ao ?_|simp[u,hi]);(refine CallDo.ob (key) (by first|exact wW _|exact wW ‹_› _) (by simp only[jF,b6,ca];exact aX) (by simp only[jF,b6,ca];exact aX) (by simp[aM,ae,jF]) ?_;rintro r z ⟨rfl,rfl⟩;refine⟨(Same.keys (by simp[jF]) (by simp[jF])),?_⟩;simp[cM,jF]);generalize o:b.t.fold (w9 s) true=q;have g:nJ s b=(q&& !(b.t.kind==1&&decide (b.v<=b.t.int))):=by unfold nJ;rw[o]
   cases q with
   |false=>rw[t (by rw[g];rfl)];exact cn
   |true=>
    cases ab:(b.t.kind==1)with
    |false=>(repeat' first|refine ao ?_|simp[ab]);refine bY.rng () hi (j.step d (by rw[g,ab];rfl)) ?_;exact b9
    |true=>
     by_cases hle:b.v<=b.t.int
     ·rw[t (by rw[g,ab];simp[hle])];exact cn
     ·(repeat' first|refine ao ?_|simp[ab,hle]);refine bY.rng () hi (j.step d (by rw[g,ab];simp[hle])) ?_;exact b9
@[simp]def avS(S:aB->Prop):aH S (k0 [])=True:=h4 (n1 S [])
def ajo(n:Nat)(s:List Bd)(l r:List T)(Q:l.length=r.length)(V:s.length<=1000000)(S:l.length<=1000000)(o:be (List Bd))(he:CU n (iM s++l.zip r)=some o)
  (hinv:∀c,re n (iM s++l.zip r) bK.new=some (true,c)->(cH c.up).Nodup/\c.up.length<=1000000/\nI c):bT au 186 [bL (s.map Bd.e),dx (l.map T.e),dx (r.map T.e)] (hk o):=by
 obtain⟨E,t⟩:∃E,E=iM s++l.zip r:=⟨_,rfl⟩;rw[<-t]at he hinv;simp only[CU,mY]at he;obtain⟨fin,L,g⟩:=he;have hlen:E.length=s.length+l.length:=by rw[t];simp[iM,Q]
 have G:∀i b,s[i]? =some b->E.drop i=(.var b.v,b.t)::E.drop (i+1):=fun i b e=>by
  have hi:=(fH.1 e).1;have a7:E[i]? =some (.var b.v,b.t):=by rw[t,rS (by simp[iM];exact hi)];simp[iM,e]
  rw[lH Ω];rw[cl Ω]at a7;simp only[dU]at a7;rw[a7]
 have H:∀i a b,l[i]? =some a->r[i]? =some b->E.drop (s.length+i)=(a,b)::E.drop (s.length+(i+1)):=fun i a b p e=>by
  have hi:=(fH.1 p).1;have a7:E[s.length+i]? =some (a,b):=by rw[t,vp (by simp[iM])];simp[iM,List.getElem?_zip_eq_some,p,e]
  rw[lH Ω];rw[cl Ω]at a7;simp only[dU]at a7;rw[a7];rfl
 refine bI a1 Tryz.func186 an7 fun X=>?_;unfold SG;simp;refine CallDo.new ajc (eA.of sw Ψ Ψ) (fun k cs h=>by simp[ae]at h) (fun k cs h=>by simp[ae]at h) Ψ ?_;rintro r0 s0 ⟨rfl,rfl⟩;refine⟨fun m hm=>.inr Ψ,?_⟩;simp[aQ,aD,cM,aE];refine fU (α:=bK) (fun i c=>⟨[(1,dx (l.map T.e)),(2,dx (r.map T.e)),(8,aE),(13,bL (s.map Bd.e)),(14,aj s.length),(15,aj i)],aD c,[],0,[.obj 702,.obj 703,.obj 704,.obj 705,.obj 706,.obj 707]⟩) s.length (fun i c=>re n (E.drop i) c=some fin) bK.new (by simp[aE,aD];exact⟨by simp[fresh,aH,az,cd,aM,ae,aE,aD,bK.new],eo (by simp[fresh,aH,az,cd,aM,ae,aE,aD,bK.new]),ep (by simp[fresh,aH,az,dV,aM,ae,aE,aD,bK.new]),Ψ⟩) (by simpa using L) ?_ ?_
 ·rintro c J e;simp[aE,aD];refine fU (α:=bK) (fun i c=>⟨[(1,dx (l.map T.e)),(2,dx (r.map T.e)),(8,aE),(37,aj l.length),(38,aj i)],aD c,[],0,[.obj 702,.obj 703,.obj 704,.obj 705,.obj 706,.obj 707]⟩) l.length (fun i c=>re n (E.drop (s.length+i)) c=some fin) c (by simp[aE,aD];exact⟨by simp[fresh,aH,az,cd,aM,ae,aE,aD],eo (by simp[fresh,aH,az,cd,aM,ae,aE,aD]),ep (by simp[fresh,aH,az,dV,aM,ae,aE,aD]),Ψ⟩) J ?_ ?_
  ·rintro j J e;rw[List.drop_eq_nil_of_le Ω]at J;simp[re]at J;subst J;simp at g;obtain⟨N,P,O⟩:=hinv j L;simp[aE,aD];refine CallDo.ob (ajp n j o g N P O) (cx _) (by simp only[aQ,aD];exact aX) (by simp only[aQ,aD];exact aX) d7 ?_;rintro r0 s0 ⟨rfl,W,rfl⟩;refine⟨Same.keys (by simp[aQ,aD]) (by simp[aQ,aD]),?_⟩;simp[cM,aQ,aD,hk];exact cn
  ·rintro i c hi J e;simp only at J e⊢;obtain⟨a,p⟩:∃a,l[i]? =some a:=⟨_,cl hi⟩;obtain⟨b,A⟩:∃b,r[i]? =some b:=⟨_,cl Ω⟩;have w:∀h,(l[i]'h)=a:=fun h=>by rw[cl hi]at p;exact e7 p
   have z:∀h,(r[i]'h)=b:=fun h=>by rw[cl h]at A;exact e7 A
   have v:i<r.length:=Ω
   rw[H i a b p A]at J;simp only[re,mY]at J;obtain⟨j,U,B,u,⟨f,y⟩,q,d⟩:=J;simp only at q d;have key:=VG n _ _ _ _ q;simp[aE,aD];(repeat' first|refine ao ?_|simp[w,z,hi,v]);(refine CallDo.ob (Ms c a j U) ci bv bv d7 ?_;rintro r F ⟨rfl,rfl⟩;refine⟨(Same.keys co co),?_⟩;simp[cM,aQ,aD,aE]);(repeat' first|refine ao ?_|simp[w,z,hi,v]);(refine CallDo.ob (Ms j b B u) ci bv bv d7 ?_;rintro r F ⟨rfl,rfl⟩;refine⟨(Same.keys co co),?_⟩;simp[cM,aQ,aD,aE]);(repeat' first|refine ao ?_|simp[w,z,hi,v]);(refine hM.ob (key) ci ci (Same.keys co co) bv bv d7 ?_;simp[cM,aQ,aD,aE]);cases f with
   |false=>simp at d;subst d;simp at g;subst g;(repeat' first|refine ao ?_|simp);simp[bZ,bc,bf,a6];simp[hk]
   |true=>simp at d;(repeat' first|refine ao ?_|simp);refine bY.rng y hi d ?_;simp[aE,aD];exact⟨by simp[fresh,aH,az,cd,aM,ae,aE,aD],eo (by simp[fresh,aH,az,cd,aM,ae,aE,aD]),ep (by simp[fresh,aH,az,dV,aM,ae,aE,aD]),Ψ⟩
 ·rintro i c hi J e;simp only at J e⊢;obtain⟨b,R,M⟩:=eW hi;rw[G i b R]at J;simp only[re,mY]at J;obtain⟨j,U,B,u,⟨f,y⟩,q,d⟩:=J;simp only[B7,T.foldO,hs]at U;obtain⟨⟨x,K⟩,U,rfl⟩:=U;simp only at U u q d;have key:=VG n _ _ _ _ q;simp[aE,aD];(repeat' first|refine ao ?_|simp[M,hi]);(refine CallDo.ob (sY c b.v x K U) ci bv bv d7 ?_;rintro r F ⟨rfl,rfl⟩;refine⟨(Same.keys co co),?_⟩;simp[cM,aQ,aD,aE]);(repeat' first|refine ao ?_|simp);(refine CallDo.ob (Ms K b.t B u) ci bv bv d7 ?_;rintro r F ⟨rfl,rfl⟩;refine⟨(Same.keys co co),?_⟩;simp[cM,aQ,aD,aE]);(repeat' first|refine ao ?_|refine aO (l4 _) ?_|refine aP (l4 _) ?_|simp);(refine hM.ob (key) ci ci (Same.keys co co) bv bv d7 ?_;simp[cM,aQ,aD,aE]);cases f with
  |false=>simp at d;subst d;simp at g;subst g;(repeat' first|refine ao ?_|simp);simp[bZ,bc,bf,a6];simp[hk]
  |true=>simp at d;(repeat' first|refine ao ?_|simp);refine bY.rng y hi d ?_;simp[aE,aD];exact⟨by simp[fresh,aH,az,cd,aM,ae,aE,aD],eo (by simp[fresh,aH,az,cd,aM,ae,aE,aD]),ep (by simp[fresh,aH,az,dV,aM,ae,aE,aD]),Ψ⟩
def as9(s:List Bd)(l r:List T)(m:l.length=r.length)(u:gD s)(q:iy s)(ar:rI s)(g:l.length<=1000000)(J:∀t∈l,t.ok=true)(U:∀t∈r,t.ok=true):
  bT au 186 [bL (s.map Bd.e),dx (l.map T.e),dx (r.map T.e)] (hk (mgu s (l.zip r))):=by
 have d:∀e∈iM s++l.zip r,e.1.ok=true/\e.2.ok=true:=fun e he=>by
  rcases kg.1 he with he|he
  ·obtain⟨b,p,rfl⟩:=hb.1 he;have:=ar b p;exact⟨by simpa[T.ok]using this.1,this.2⟩
  ·exact⟨J _ (List.of_mem_zip he).1,U _ (List.of_mem_zip he).2⟩
 have k:OV (iM s++l.zip r):=fun e he v a=>by
  rcases a with a|a
  ·exact(yw (d e he).1 a).1
  ·exact(yw (d e he).2 a).1
 obtain⟨n,o,h,j,i⟩:=arl _ k;rw[tJ (adI.1 j)];refine ajo n s l r m (by have:=q.1;omega) g o h fun c aw=>?_;obtain⟨f,a2,a3⟩:=i c aw;have:=XK f fun v a=>by
  obtain⟨e,he,a⟩:=a2 v a;rcases a with a|a
  ·exact yw (d e he).1 a
  ·exact yw (d e he).2 a
 refine⟨f,by simp[cH]at this;omega,fun x=>?_⟩;simp[bK.sz,a3,dp]
structure fp (s:List Bd):Prop where
 ok:rI s
 sol:gD s
 fits:iy s
def fp.len{s:List Bd}(h:fp s):s.length<=1000000:=by have:=h.fits.1;omega
def fp.fit{s:List Bd}(h:fp s):Be s:=fun b a=>by simp[T.fit,(h.ok b a).2,h.fits.2 b a]
def fp.mgu{s:List Bd}(h:fp s){E:List (T×T)}(b:∀e∈E,e.1.ok=true/\e.2.ok=true){a:List Bd}(hm:mgu s E=some a):fp a:=⟨amN h.sol h.fits h.ok b hm,(B9 h.sol h.fits hm).1,(B9 h.sol h.fits hm).2⟩
def zN(s:List Bd):(s.map Bd.b).map Bt.e=s.map Bd.e:=by rw[List.map_map];exact List.map_congr_left fun b _=>Bd.b_e b
def q1{s:List Bd}(h:fp s):bT au 86 [bL (s.map Bd.e)] (.bool true):=by have:=QV (s.map Bd.b);rw[zN,sF.2 ⟨s,rfl,h.ok,h.sol,h.fits⟩]at this;exact this
def alW(t:List Bd)(i:Nat)(p:List T×List T):Prop:=p.1=(t.take i).map (fun b=>T.var b.v)/\p.2=(t.take i).map (·.t)
def ass(t:List Bd)(s:t.length<=1000000):bT au 205 [bL (t.map Bd.e)] (.tuple [dx ((t.map fun b=>T.var b.v).map T.e),dx ((t.map (·.t)).map T.e)]):=by
 generalize bt:((t.map fun b=>T.var b.v).map T.e)=q;generalize f:((t.map fun x=>x.t).map T.e)=o;have k:∀S:aB->Prop,aH S q=True:=fun S=>by rw[<-bt];exact XS S _
 have j:∀S:aB->Prop,aH S o=True:=fun S=>by rw[<-f];exact XS S _
 refine bT.mk mixed a1 Tryz.func205 anU Ψ (by simp[az,k,j]) fun r=>?_;unfold St;simp;refine fU (α:=List T×List T) (fun i p=>⟨[(10,bL (t.map Bd.e)),(11,aj t.length),(4,.slice 4 (.own (.loc 0)) (p.1.map T.e)),(5,.slice 4 (.own (.loc 1)) (p.2.map T.e)),(12,aj i)],[],[(.loc 0,⟨p.1.length,30,4,none⟩),(.loc 1,⟨p.2.length,30,4,none⟩)],2,[]⟩) t.length (alW t) ([],[]) b9 ⟨Ψ,Ψ⟩ (fun p d _=>?_) (fun i p hi d _=>?_)
 ·obtain⟨A,B⟩:=p;obtain⟨c,a⟩:=d;simp only at c a⊢;rw[ix (dP _)]at c a;rw[<-bt,<-f,<-c,<-a];simp;(repeat' first|refine ao ?_|simp);simp[bZ,bc,bf,a6]
 ·obtain⟨A,B⟩:=p;obtain⟨c,a⟩:=d;simp only at c a⊢;obtain⟨b,n,g⟩:=eW hi;have e:t.take (i+1)=t.take i++[b]:=by rw[List.take_succ,n];rfl
  have m:A.length<=1000000:=by rw[c];simp;omega
  have l:B.length<=1000000:=by rw[a];simp;omega
  simp[hi,g];((repeat' first|refine ao ?_|refine aO (l4 _) ?_|refine aP (l4 _) ?_|simp[g,hi]|((first|apply ct|apply cz|apply cy)<;>intro h<;>try simp at h))<;>(try exact c3));all_goals try refine⟨by unfold lim;omega,?_⟩
  (repeat' first|refine ao ?_|simp);all_goals try refine⟨by unfold lim;omega,?_⟩
  (repeat' first|refine ao ?_|simp);refine bY.rng (A++[.var b.v],B++[b.t]) hi ⟨by rw[e,c];simp,by rw[e,a];simp⟩ ?_;simp;exact⟨by simp[fresh,aH,az,cd,aM,ae,j2],eo (by simp[fresh,aH,az,cd,aM,ae,j2]),ep (by simp[fresh,aH,az,dV,aM,ae,j2]),Ψ⟩
def ar5{s t:List Bd}(c:fp s)(a:fp t):bT au 165 [bL (s.map Bd.e),bL (t.map Bd.e)] (hk (mgu s (iM t))):=by
 have f:(t.map fun b=>T.var b.v).zip (t.map (·.t))=iM t:=by rw[iM,List.zip_map']
 have key:=as9 s (t.map fun b=>T.var b.v) (t.map (·.t)) Ψ c.sol c.fits c.ok (by simpa using a.len) (fun x e=>by
  obtain⟨b,d,rfl⟩:=hb.1 e;have:=a.ok b d;simpa[T.ok]using this.1) (fun x e=>by
  obtain⟨b,d,rfl⟩:=hb.1 e;exact(a.ok b d).2)
 rw[f]at key;have heq:=ass t a.len;generalize (t.map fun b=>T.var b.v)=A at key heq;generalize (t.map fun x=>x.t)=B at key heq;refine bI a1 Tryz.func165 anw fun g=>?_;unfold R5;simp;(repeat' first|refine ao ?_|refine aO (q1 c) ?_|refine aP (q1 c) ?_|refine aO (q1 a) ?_|refine aP (q1 a) ?_|refine aO heq ?_|refine aP heq ?_|refine aO key ?_|refine aP key ?_|simp);simp[bZ,bc,bf,a6];simp[hk]
def nE{α:Type}{t:List α}{i:Nat}{b:α}(a:t[i]? =some b):t.take (i+1)=t.take i++[b]:=by rw[List.take_succ,a];rfl
def hB(s t:List Bd):List Bd:=t.filter fun b=>(dG s b.v).isNone
def ss(s t:List Bd)(i:Nat)(out:List Bd):Prop:=out=hB s (t.take i)
def ar9{s t:List Bd}(a:fp s)(g:fp t):bT au 166 [bL (s.map Bd.e),bL (t.map Bd.e)] (bL ((hB s t).map Bd.e)):=by
 have k:=g.len;generalize bt:hB s t=R;refine bI a1 Tryz.func166 anC fun m=>?_;unfold Sa;simp;(repeat' first|refine ao ?_|refine aO (q1 a) ?_|refine aP (q1 a) ?_|refine aO (q1 g) ?_|refine aP (q1 g) ?_|simp);refine fU (α:=List Bd) (fun i out=>⟨[(0,bL (s.map Bd.e)),(17,bL (t.map Bd.e)),(18,aj t.length),(5,.slice 5 (.own (.loc 0)) (out.map Bd.e)),(19,aj i)],[],[(.loc 0,⟨out.length,113,5,none⟩)],1,[]⟩) t.length (ss s t) [] b9 (by simp[ss,hB]) (fun out c _=>?_) (fun i out hi c _=>?_)
 ·rw[ss,ix (dP _),bt]at c;rw[<-c];exact cn
 ·obtain⟨b,j,f⟩:=eW hi;have l:out.length<=1000000:=by
   have:out.length<=(t.take i).length:=by rw[c];exact List.length_filter_le _ _
   simp at this;omega
  have h:=Vo a.sol.asc b.v;simp[hi,f];by_cases d:oA s b.v<0
  ·(repeat' first|refine ao ?_|refine aO (vm s b.v a.len) ?_|refine aP (vm s b.v a.len) ?_|refine aO (vk _) ?_|refine aP (vk _) ?_|simp[f,hi,d]);all_goals try refine⟨by unfold lim;omega,?_⟩
   (repeat' first|refine ao ?_|simp);refine bY.rng (out++[b]) hi (by rw[ss,nE j,hB,List.filter_append,c];simp[hB,h.1 d]) ?_;simp;exact⟨by simp[fresh,aH,az,cd,aM,ae,j2],eo (by simp[fresh,aH,az,cd,aM,ae,j2]),ep (by simp[fresh,aH,az,dV,aM,ae,j2]),Ψ⟩
  ·(repeat' first|refine ao ?_|refine aO (vm s b.v a.len) ?_|refine aP (vm s b.v a.len) ?_|simp[f,hi,d]);refine bY.rng out hi (by
    have:dG s b.v≠none:=fun e=>d (h.2 e);rw[ss,nE j,hB,List.filter_append,c];cases e:dG s b.v with
    |none=>exact absurd e this
    |some x=>simp[hB,e]) ?_
   exact b9
def Im(t:List Bd)(i:Nat)(out:List Bd):Prop:=out=t.take i
def acw(t:List Bd)(g:t.length<=1000000):bT au 168 [bL (t.map Bd.e)] (bL (t.map Bd.e)):=by
 refine bI a1 Tryz.func168 Zj fun f=>?_;unfold K8;simp;refine fU (α:=List Bd) (fun i out=>⟨[(7,bL (t.map Bd.e)),(8,aj t.length),(3,.slice 5 (.own (.loc 0)) (out.map Bd.e)),(9,aj i)],[],[(.loc 0,⟨out.length,113,5,none⟩)],1,[]⟩) t.length (Im t) [] b9 (by simp[Im]) (fun out a _=>?_) (fun i out hi a _=>?_)
 ·rw[Im,ix (dP _)]at a;subst a;exact cn
 ·obtain⟨b,d,c⟩:=eW hi;have e:out.length<=1000000:=by rw[a];simp;omega
  simp[hi,c];(repeat' first|refine ao ?_|refine aO (vk _) ?_|refine aP (vk _) ?_|simp[c,hi]);all_goals try refine⟨by unfold lim;omega,?_⟩
  (repeat' first|refine ao ?_|simp);refine bY.rng (out++[b]) hi (by rw[Im,nE d,a]) ?_;simp;exact⟨by simp[fresh,aH,az,cd,aM,ae,j2],eo (by simp[fresh,aH,az,cd,aM,ae,j2]),ep (by simp[fresh,aH,az,dV,aM,ae,j2]),Ψ⟩
def tI(t:List Bd)(b:Bd):Bool:=decide (cC t b.v=b.t.ap (cC t))
def oL(s t:List Bd):Bool:=s.all (tI t)
def FP{t:List Bd}(a:fp t)(v:Int):(cC t v).size<=5000:=by
 unfold cC;cases e:dG t v with
 |none=>simp[T.size]
 |some x=>exact a.fits.2 _ (kQ e)
def acQ(s:List Bd){t:List Bd}(r:s.length<=1000000)(d:fp t):bT au 208 [bL (s.map Bd.e),bL (t.map Bd.e)] (.bool (oL s t)):=by
 refine bI a1 Tryz.func208 anX fun u=>?_;unfold Sw;simp;refine eZ [1,11,12] (fun i (_:Unit)=>[(13,aj i)]) s.length (qK (tI t) s) () b9 (fun k b ab=>Ω) (fun _ j _=>?_) (fun i _ hi j _=>?_)
 ·have:oL s t=true:=by rw[oL,j7];intro b q;obtain⟨k,ab,e⟩:=pA q;exact j k b ab (by rw[cl ab,e])
  rw[this];exact cn
 ·obtain⟨b,o,g⟩:=eW hi;have m:tI t b=false->oL s t=false:=fun h=>by rw[Bool.eq_false_iff];intro n;rw[oL,j7]at n;rw[n b (ft o)]at h;cases h
  have a:=Ko t (.var b.v) d.len d.sol.asc d.fit;have c:=Ko t b.t d.len d.sol.asc d.fit;have l:=FP d b.v;have p:((T.var b.v).ap (cC t)).size<=5000:=l;rw[if_pos p,lK p]at a;rw[show(T.var b.v).ap (cC t)=cC t b.v from rfl]at a;simp[hi,g];by_cases f:(b.t.ap (cC t)).size<=5000
  ·rw[if_pos f,lK f]at c;by_cases he:cC t b.v=b.t.ap (cC t)
   ·rw[he]at a;(repeat' first|refine ao ?_|refine aO (l4 _) ?_|refine aP (l4 _) ?_|refine aO a ?_|refine aP a ?_|refine aO c ?_|refine aP c ?_|refine aO (vl _ _) ?_|refine aP (vl _ _) ?_|simp[g,hi,he]);exact bY.rng () hi (j.step o (by simp[tI,he])) b9
   ·rw[m (by simp[tI,he])];(repeat' first|refine ao ?_|refine aO (l4 _) ?_|refine aP (l4 _) ?_|refine aO a ?_|refine aP a ?_|refine aO c ?_|refine aP c ?_|refine aO (vl _ _) ?_|refine aP (vl _ _) ?_|simp[g,hi,he]);simp[bZ,bc,bf,a6]
  ·rw[if_neg f,mx f]at c;rw[m (by simp only[tI,iR];intro e;rw[<-e]at f;exact f l)];(repeat' first|refine ao ?_|refine aO (l4 _) ?_|refine aP (l4 _) ?_|refine aO a ?_|refine aP a ?_|refine aO c ?_|refine aP c ?_|refine aO (vl _ _) ?_|refine aP (vl _ _) ?_|simp[g,hi]);simp[bZ,bc,bf,a6]
def EX(c:Bd->Bd->Int):∀a b:List Bd,a=[]\/b=[]->kJ c a b=fb a.length b.length
 |[],[],_=>by simp[kJ,fb]
 |[],_::_,_=>by simp[kJ,fb]<;>omega
 |_::_,[],_=>by simp[kJ,fb]<;>omega
 |_::_,_::_,h=>by simp at h
def ZH(x y:Bd)(xs ys:List Bd):fa (x::xs) (y::ys)=if fb x.v y.v=0 then(if e5 x.t y.t=0 then fa xs ys else e5 x.t y.t)else fb x.v y.v:=by
 by_cases a:fb x.v y.v=0
 ·by_cases b:e5 x.t y.t=0<;>simp[fa,kJ,zX,a,b]
 ·simp[fa,kJ,zX,a]
def ZI(a b k:Int):fb (a-k) (b-k)=fb a b:=by unfold fb;(repeat' split)<;>omega
def NR(d e:List Bd)(i:Nat):Prop:=i<=d.length/\i<=e.length/\fa (d.drop i) (e.drop i)=fa d e
def Km(d e:List Bd):bT au 207 [bL (d.map Bd.e),bL (e.map Bd.e)] (aj (fa d e)):=by
 generalize bt:fa d e=R;refine bI a1 Tryz.func207 an0 fun l=>?_;unfold Sz;have q:d.length<=68719476736:=by simp[eI,eN,eJ,lim]at l;omega
 have he:e.length<=68719476736:=by simp[eI,eN,eJ,lim]at l;omega
 simp;refine xd [0,1] (fun(i:Nat)=>[(5,aj i)]) (fun i=>d.length-i) (NR d e) 0 b9 ⟨Ω,Ω,Ψ⟩ (fun i n _=>?_);obtain⟨J,U,a⟩:=n;rw[bt]at a;by_cases hi:i<d.length
 ·by_cases b:i<e.length
  ·obtain⟨x,k⟩:∃x,d[i]? =some x:=⟨_,cl hi⟩;obtain⟨y,m⟩:∃y,e[i]? =some y:=⟨_,cl b⟩;have f:∀h,(d[i]'h)=x:=fun h=>by rw[cl hi]at k;exact e7 k
   have c:∀h,(e[i]'h)=y:=fun h=>by rw[cl b]at m;exact e7 m
   have p:d.drop i=x::d.drop (i+1):=by rw[lH hi,f]
   have o:e.drop i=y::e.drop (i+1):=by rw[lH b,c]
   rw[p,o]at a;rw[ZH]at a;simp[hi,b,f,c];by_cases g:fb x.v y.v=0
   ·rw[if_pos g]at a;by_cases j:e5 x.t y.t=0
    ·rw[if_pos j]at a;(repeat' first|refine ao ?_|refine aO (pq _ _) ?_|refine aP (pq _ _) ?_|refine aO (C5 _ _) ?_|refine aP (C5 _ _) ?_|simp[f,c,hi,b,g,j]);refine bY.whl (i+1) Ω ⟨Ω,Ω,by rw[bt];exact a⟩ ?_;exact b9
    ·rw[if_neg j]at a;((repeat' first|refine ao ?_|refine aO (pq _ _) ?_|refine aP (pq _ _) ?_|refine aO (C5 _ _) ?_|refine aP (C5 _ _) ?_|simp[f,c,hi,b,g,j]|((first|apply ct|apply cz|apply cy)<;>intro h<;>try simp at h))<;>(try exact c3));simp[bZ,bc,bf,a6];exact a
   ·rw[if_neg g]at a;((repeat' first|refine ao ?_|refine aO (pq _ _) ?_|refine aP (pq _ _) ?_|simp[f,c,hi,b,g]|((first|apply ct|apply cz|apply cy)<;>intro h<;>try simp at h))<;>(try exact c3));simp[bZ,bc,bf,a6];exact a
  ·have:fb d.length e.length=R:=by rw[<-a,fa,EX _ _ _ (.inr (List.drop_eq_nil_of_le Ω))];rw[<-ZI d.length e.length i];simp only[uf];congr 1<;>omega
   simp[hi,b];(repeat' first|refine ao ?_|refine aO (pq _ _) ?_|refine aP (pq _ _) ?_|simp[hi,b]);simp[bZ,bc,bf,a6];exact this
 ·have:fb d.length e.length=R:=by rw[<-a,fa,EX _ _ _ (.inl (List.drop_eq_nil_of_le Ω))];rw[<-ZI d.length e.length i];simp only[uf];congr 1<;>omega
  simp[hi];(repeat' first|refine ao ?_|refine aO (pq _ _) ?_|refine aP (pq _ _) ?_|simp[hi]);simp[bZ,bc,bf,a6];exact this
def acA(a b:List Bd)(v:a.length<=1000000):bT au 169 [bL (a.map Bd.e),bL (b.map Bd.e)] (.bool (decide (a=b))):=by
 by_cases q:a.length=b.length;rotate_left
 ·have r:decide (a=b)=false:=by simp only[iR];rintro rfl;exact q rfl
  have u:((a.length:Int) !=(b.length:Int))=true:=by simp;omega
  have t:¬(a.length:Int)=b.length:=Ω
  rw[r];refine bI a1 Tryz.func169 Zk fun s=>?_;unfold K9;exact cn
 ·generalize bt:decide (a=b)=R;refine bI a1 Tryz.func169 Zk fun s=>?_;unfold K9;simp;(repeat' first|refine ao ?_|simp[q]);refine eZ [0,1,12] (fun i (_:Unit)=>[(13,aj i)]) b.length (fun i (_:Unit)=> ∀k,k<i->a[k]? =b[k]?) () b9 (fun k ab=>Ω) (fun _ o _=>?_) (fun i _ hi o _=>?_)
  ·have:R=true:=by
    rw[<-bt,gz];apply List.ext_getElem?;intro k;by_cases ab:k<b.length
    ·exact o k ab
    ·rw[q3 Ω,q3 Ω]
   rw[this];exact cn
  ·obtain⟨x,g⟩:∃x,a[i]? =some x:=⟨_,cl Ω⟩;obtain⟨y,d⟩:∃y,b[i]? =some y:=⟨_,cl hi⟩;have f:i<a.length:=Ω
   have m:∀h,(a[i]'h)=x:=fun h=>by rw[cl f]at g;exact e7 g
   have l:∀h,(b[i]'h)=y:=fun h=>by rw[cl hi]at d;exact e7 d
   have p:x≠y->R=false:=fun h=>by rw[<-bt,iR];rintro rfl;rw[g]at d;cases d;exact h rfl
   simp[hi,f,m,l];by_cases c:x.v=y.v
   ·have j:(x.v !=y.v)=false:=by simp[c]
    by_cases n:x.t=y.t
    ·(repeat' first|refine ao ?_|refine aO (vl _ _) ?_|refine aP (vl _ _) ?_|simp[m,l,hi,f,c,j,n]);refine bY.rng () hi (fun k ab=>?_) ?_
     ·rcases(by omega:k<i\/k=i)with h|rfl
      ·exact o k h
      ·rw[g,d];cases x;cases y;simp_all
     ·exact b9
    ·rw[p (fun e=>n (by rw[e]))];(repeat' first|refine ao ?_|refine aO (vl _ _) ?_|refine aP (vl _ _) ?_|simp[m,l,hi,f,c,j,n]);simp[bZ,bc,bf,a6]
   ·have j:(x.v !=y.v)=true:=by simp[c]
    rw[p (fun e=>c (by rw[e]))];exact cn
def jS(l:List (List Bd))(e:List Bd):Bool:=l.all fun d=>decide (d=e)|| !oL d e
def al1{l b:List (List Bd)}(h:∀x,x∈l↔x∈b)(e:List Bd):jS l e=jS b e:=by rw[q2,jS,jS,j7,j7];exact⟨fun J x a=>J x ((h x).2 a),fun J x a=>J x ((h x).1 a)⟩
def lZ(l:List (List Bd)):List (List Bd):=(asc fa l).filter (jS l)
def Ca{l:List (List Bd)}{x:List Bd}:x∈lZ l↔x∈l/\jS l x=true:=by rw[lZ,oW,Yw]
def YE(l:List (List Bd)):iS fa (lZ l):=(KS mQ l).filter _
def YF{l a:List (List Bd)}(b:iS fa a)(hm:∀x,x∈a↔x∈l/\jS l x=true):lZ l=a:=(YE l).ext mQ b fun x=>by rw[hm,Ca]
structure da where
 n:Int
 b:List Bd
 d:List (List Bd)
 k:List bJ
 m:List bn
 deriving DecidableEq,Inhabited
noncomputable def hP(b:List Bd)(k:List bJ)(m:List bn):List (List Bd)->be (List (List Bd))
 |[]=>some []
 |d::r=>match mgu b (iM d)with
  |none=>hP b k m r
  |some x=>if gU x k []=none\/gZ x m []=none then hP b k m r else if hB b x=[]then none else(hP b k m r).map (hB b x:: ·)
def ly(k:List bJ)(x:bn):Bool:=nx k x.v !=some 3
noncomputable def j5(s:da):be da:=match gU s.b s.k []with
 |none=>none
 |some k=>match gZ s.b s.m []with
  |none=>none
  |some m=>match hP s.b k (m.filter (ly k)) s.d with
   |none=>none
   |some L=>if(lZ L).length<=30 then some ⟨s.n,s.b,lZ L,k,m.filter (ly k)⟩else none
def yO(t:T)(n:Int):Prop:= ∀v,t.occ v=true->v<n
def q9(l:List Bd)(n:Int):Prop:= ∀b∈l,b.v<n/\yO b.t n
structure oR (s:da):Prop where
 n:0<=s.n/\s.n<=100000
 b:fp s.b
 d:∀x∈s.d,fp x
 k:jR s.k
 m:iv s.m
 bb:q9 s.b s.n
 db:∀x∈s.d,q9 x s.n
 kb:∀x∈s.k,x.v<s.n
 mb:∀x∈s.m,x.v<s.n
def tW(s:da):Prop:=oR s/\j5 s=some s
def CR{s:List Bd}(a:fp s){v:Int}(b:0<=v/\v<=100000):(cC s v).ok=true:=by have:=FO a.ok (t:= .var v) (by simpa[T.ok]using b);exact this
def JB{s:List Bd}(c:fp s):∀{l acc a:List bJ},(∀x∈l,(0<=x.v/\x.v<=100000)/\(x.k=2\/x.k=3))->jR acc->gU s l acc=some a->jR a
 |[],acc,a,_,h,he=>by simp only[gU,dU]at he;rw[<-he];exact h
 |x::r,acc,a,b,h,he=>by
  simp only[gU]at he;split at he
  ·rename_i g e;have d:=b x Ψ;exact JB c (fun y f=>b y (by simp[f])) (KN h (CR c d.1) d.2 e) he
  ·cases he
def JC{s:List Bd}(c:fp s):∀{l acc a:List bn},(∀x∈l,(0<=x.v/\x.v<=100000)/\ib x.s=true)->iv acc->gZ s l acc=some a->iv a
 |[],acc,a,_,h,he=>by simp only[gZ,dU]at he;rw[<-he];exact h
 |x::r,acc,a,b,h,he=>by
  simp only[gZ]at he;split at he
  ·rename_i g e;have d:=b x Ψ;exact JC c (fun y f=>b y (by simp[f])) (Gz h (CR c d.1) d.2 e) he
  ·cases he
def oe(G:List (List cJ))(l:List bn):Prop:= ∀x∈l,x.s∈G
def GA{G:List (List cJ)}{l a:List bn}{t:T}{s:List cJ}(h:oe G l)(b:s∈G)(he:ko l t s=some a):oe G a:=fun x c=>by
 rcases(B8 he x).1 c with J|⟨J,_⟩
 ·exact h x J
 ·rw[J];exact b
def JD{G:List (List cJ)}{s:List Bd}:∀{l acc a:List bn},oe G l->oe G acc->gZ s l acc=some a->oe G a
 |[],acc,a,_,h,he=>by simp only[gZ,dU]at he;rw[<-he];exact h
 |x::r,acc,a,b,h,he=>by
  simp only[gZ]at he;split at he
  ·rename_i e c;exact JD (fun y d=>b y (by simp[d])) (GA h (b x Ψ) c) he
  ·cases he
def apC{α:Type}[DecidableEq α]:∀{G:List α} {l:List (Nat×α)},l.Nodup->(∀x∈l,x.1<100001/\x.2∈G)->l.length<=100001*G.length:=by
 intro G l c h;have:=Rf c (l₂:=(List.range 100001).flatMap fun i=>G.map fun g=>(i,g)) (fun x b=>by obtain⟨J,U⟩:=h x b;rw[List.mem_flatMap];exact⟨x.1,List.mem_range.2 J,hb.2 ⟨x.2,U,rfl⟩⟩)
 have e:((List.range 100001).flatMap fun i=>G.map fun g=>(i,g)).length=100001*G.length:=by
  generalize 100001=n;induction n with
  |zero=>simp
  |succ n a=>rw[List.range_succ,List.flatMap_append,qe,a];simp[Nat.succ_mul]
 omega
def E1{G:List (List cJ)}{l:List bn}(h:iv l)(a7:oe G l):l.length<=100001*G.length:=by
 have J:(l.map fun x=>(x.v.toNat,x.s)).Nodup:=by rw[List.nodup_iff_pairwise_ne,List.pairwise_map];refine atG (fun{a b} f g d e=>d ?_) (h.asc.nodup mR);have:=(h.at' a f).1;have:=(h.at' b g).1;simp only[js]at e;cases a;cases b;simp only[bn.mk.injEq];simp only at*;exact⟨Ω,e.2⟩
 have:=apC (G:=G) J fun x i=>by obtain⟨y,c,rfl⟩:=hb.1 i;have:=(h.at' y c).1;exact⟨by simp;omega,a7 y c⟩
 simpa using this
def nF(m:List bn):Prop:= ∃G:List (List cJ),G.length<=687000/\oe G m
def nF.len{m:List bn}(h:nF m)(hm:iv m):m.length<=68719470000:=by obtain⟨G,J,U⟩:=h;have:=E1 hm U;omega
def aqT{s:List Bd}(h:fp s)(p:Bd->Bool):fp (s.filter p):=by
 have c:∀b∈s.filter p,b∈s:=fun b a=>(oW.1 a).1;have d:∀w,dG s w=none->dG (s.filter p) w=none:=fun w hw=>by rw[w1]at hw⊢;exact fun b a=>hw b (c b a)
 exact⟨fun b a=>h.ok b (c b a),⟨adk p h.sol.asc,fun b a w hw=>d w (h.sol.free b (c b a) w hw),fun b a=>h.sol.ori b (c b a)⟩,
  kE (List.length_filter_le _ _) h.fits.1,fun b a=>h.fits.2 b (c b a)⟩
def I0{b x:List Bd}(h:fp x):fp (hB b x):=aqT h _
def anb{b x:List Bd}(m:gD b)(d:gD x)(n:iy x)(h:∀a,hW x a->hW b a):jI b (iM (hB b x)) (some x):=by
 refine⟨⟨d,n⟩,fun a=>⟨fun i=>⟨h a i,fun e he=>?_⟩,fun⟨J,U⟩ c aw=>?_⟩⟩
 ·obtain⟨c,aw,rfl⟩:=hb.1 he;exact i c (oW.1 aw).1
 ·have g:∀c∈x,dG b c.v=none->a c.v=c.t.ap a:=fun c aw o=>by have:=U (.var c.v,c.t) (hb.2 ⟨c,oW.2 ⟨aw,by simp[o]⟩,rfl⟩);exact this
  have j:∀w,dG b w=none->(cC x w).ap a=a w:=fun w hw=>by
   unfold cC;cases e:dG x w with
   |none=>rfl
   |some t=>have hm:=kQ e;exact(g _ hm hw).symm
  cases e:dG b c.v with
  |none=>exact g c aw e
  |some t=>
   have l:a c.v=t.ap a:=J _ (kQ e);have f:=h (cC x) (Al d) _ (kQ e);simp only at f;have k:cC x c.v=c.t:=by unfold cC;rw[wZ d.asc aw];rfl
   rw[k]at f;rw[l,f,Dm];exact vD fun w hw=>(j w (m.free _ (kQ e) w hw)).symm
def amP{s:List Bd}(b:gD s)(c:iy s){E:List (T×T)}{x:List Bd}(h:mgu s E=some x):∀a,hW x a↔hW s a/\kn E a:=by have:=IU b c E;rw[h]at this;exact this.2
def amM{s:List Bd}(a:gD s)(b:iy s){E:List (T×T)}{x:List Bd}(h:mgu s E=some x):mgu s (iM (hB s x))=some x:=tJ (anb a (B9 a b h).1 (B9 a b h).2 fun d c=>((amP a b h d).1 c).1)
def amO(p:Int->Prop){E:List (T×T)}:∀{s j:List Bd},gD s->iy s->(∀b∈s,p b.v/\∀w,b.t.occ w=true->p w)->(∀e∈E,(∀w,e.1.occ w=true->p w)/\∀w,e.2.occ w=true->p w)->mgu s E=some j->∀b∈j,p b.v/\∀w,b.t.occ w=true->p w:=by
 induction E with
 |nil=>intro s j d i J _ h;rw[OE d i]at h;cases h;exact J
 |cons e E v=>
  intro s j d i J U h;rw[OD d i]at h;split at h
  ·rename_i s1 m;obtain⟨V,a⟩:∃V,V=s.flatMap (fun b=>b.v::oT b.t)++oT e.1++oT e.2:=⟨_,rfl⟩;have q:∀w∈V,p w:=by
    intro w hw;rw[a]at hw;simp only[kg,List.mem_flatMap,gJ]at hw;rcases hw with(⟨b,f,rfl|hw⟩|hw)|hw
    ·exact(J b f).1
    ·exact(J b f).2 w (Gc.1 hw)
    ·exact(U e Ψ).1 w (Gc.1 hw)
    ·exact(U e Ψ).2 w (Gc.1 hw)
   obtain⟨n,o,x,t,r⟩:=acj V _ _ s e.1 e.2 d i (fun c aw=>⟨by rw[a];simp only[kg,List.mem_flatMap];exact .inl (.inl ⟨c,aw,Ψ⟩),fun w hw=>by rw[a];simp only[kg,List.mem_flatMap];exact .inl (.inl ⟨c,aw,by simp[zO hw]⟩)⟩)
    (fun w hw=>by rw[a];simp only[kg];exact .inl (.inr (zO hw))) (fun w hw=>by rw[a];simp only[kg];exact .inr (zO hw)) rfl rfl
   have k:=tJ t;rw[m]at k;subst k;obtain⟨g,_⟩:=r s1 rfl;have l:=B9 d i m;exact v l.1 l.2 (fun b f=>⟨q _ (g b f).1,fun w hw=>q w ((g b f).2 w hw)⟩) (fun u he=>U u (by simp[he])) h
  ·cases h
def aq0{s:List Bd}(a:gD s){v n:Int}(h:cC s v= .var n):dG s n=none:=by have:=Qk a (t:= .var v) (w:=n) (by show(cC s v).occ n=true;rw[h];simp[T.occ]);exact this
def Rs{l b:List bJ}{t:T}{k:Int}(h:k6 l t k=some b):∀x∈b,x∈l\/t= .var x.v:=by
 unfold k6 at h;split at h
 ·rename_i n;split at h
  ·split at h
   ·cases h;exact fun x a=>.inl a
   ·cases h
  ·cases h;intro x a;rcases IS.1 a with rfl|a
   ·exact .inr rfl
   ·exact .inl a
 ·split at h
  ·cases h;exact fun x a=>.inl a
  ·cases h
def aa2{s:List Bd}(b:gD s):∀{l acc a:List bJ},(∀x∈acc,dG s x.v=none)->gU s l acc=some a->∀x∈a,dG s x.v=none
 |[],acc,a,h,he=>by simp only[gU,dU]at he;rw[<-he];exact h
 |y::r,acc,a,h,he=>by
  simp only[gU]at he;split at he
  ·rename_i e c;refine aa2 b (fun x d=>?_) he;rcases Rs c x d with J|J
   ·exact h x J
   ·exact aq0 b J
  ·cases he
def Xl{x:bJ}:∀{l:List bJ},(∀y∈l,y.v<x.v)->nu x l=l++[x]
 |[],_=>rfl
 |y::l,h=>by simp only[nu,if_pos (h y Ψ),Xl (l:=l) fun z a=>h z (by simp[a]),b6]
def aa3{s:List Bd}:∀{l acc:List bJ},(acc++l).Pairwise (fun x y=>x.v<y.v)->(∀x∈l,dG s x.v=none)->gU s l acc=some (acc++l)
 |[],acc,_,_=>by simp[gU]
 |x::r,acc,b,c=>by
  have J:∀y∈acc,y.v<x.v:=fun y a=>(List.pairwise_append.1 b).2.2 y a x Ψ;have U:nx acc x.v=none:=ET.2 fun y a=>by have:=J y a;omega
  have d:k6 acc (cC s x.v) x.k=some (acc++[x]):=by rw[CQ (c x Ψ)];simp only[k6,U];rw[Xl J]
  simp only[gU,d];rw[aa3 (by simpa using b) fun y a=>c y (by simp[a])];simp
def aa5{s:List Bd}(b:gD s):∀{l acc a:List bn},(∀x∈acc,dG s x.v=none)->gZ s l acc=some a->∀x∈a,dG s x.v=none
 |[],acc,a,h,he=>by simp only[gZ,dU]at he;rw[<-he];exact h
 |y::r,acc,a,h,he=>by
  simp only[gZ]at he;split at he
  ·rename_i e c;refine aa5 b (fun x d=>?_) he;rcases(B8 c x).1 d with J|⟨_,J⟩
   ·exact h x J
   ·exact Qk b (t:= .var y.v) J
  ·cases he
def aa6{s:List Bd}:∀{l acc:List bn},iS gf (acc++l)->(∀x∈l,dG s x.v=none)->gZ s l acc=some (acc++l)
 |[],acc,_,_=>by simp[gZ]
 |x::r,acc,a,b=>by
  have c:ko acc (cC s x.v) x.s=some (acc++[x]):=by
   rw[CQ (b x Ψ)];refine KO rfl (ays ?_ a) fun z=>?_
   ·simp
   ·simp only[kg,List.mem_singleton,T.occ,ey];refine or_congr_right ⟨fun h=>by rw[h];exact⟨rfl,rfl⟩,fun⟨J,U⟩=>?_⟩;cases z;cases x;simp_all
  simp only[gZ,c];rw[aa6 (by simpa using a) fun y d=>b y (by simp[d])];simp
def yo(b:List Bd)(k:List bJ)(m:List bn)(d:List Bd):Prop:= ∃x,mgu b (iM d)=some x/\¬(gU x k []=none\/gZ x m []=none)/\hB b x=d/\d≠[]
def IF{b:List Bd}(a:fp b){k:List bJ}{m:List bn}:∀{l L:List (List Bd)},hP b k m l=some L->∀d∈L,yo b k m d
 |[],L,h=>by simp only[hP,dU]at h;rw[<-h];simp
 |d0::r,L,h=>by
  simp only[hP]at h;split at h
  ·exact IF a h
  ·rename_i x e;split at h
   ·exact IF a h
   ·rename_i ab;split at h
    ·cases h
    ·rename_i f;rw[hs]at h;obtain⟨g,J,rfl⟩:=h;intro d c;rcases gJ.1 c with rfl|c
     ·exact⟨x,amM a.sol a.fits e,ab,rfl,f⟩
     ·exact IF a J d c
def X9{b:List Bd}{k:List bJ}{m:List bn}:∀{L:List (List Bd)},(∀d∈L,yo b k m d)->hP b k m L=some L
 |[],_=>rfl
 |d::L,h=>by obtain⟨x,J,U,a,c⟩:=h d Ψ;simp only[hP,J,if_neg U,a,if_neg c,X9 (L:=L) fun e he=>h e (by simp[he]),pB]
def IE{b:List Bd}(g:fp b){k:List bJ}{m:List bn}:∀{l L:List (List Bd)},(∀d∈l,fp d)->hP b k m l=some L->∀d∈L,fp d
 |[],L,_,h=>by simp only[hP,dU]at h;rw[<-h];simp
 |d0::r,L,f,h=>by
  simp only[hP]at h;split at h
  ·exact IE g (fun d a=>f d (by simp[a])) h
  ·rename_i x i;split at h
   ·exact IE g (fun d a=>f d (by simp[a])) h
   ·split at h
    ·cases h
    ·rw[hs]at h;obtain⟨j,J,rfl⟩:=h;intro d a;rcases gJ.1 a with rfl|a
     ·exact I0 (g.mgu (fun e he=>by obtain⟨c,aw,rfl⟩:=hb.1 he;have:=(f d0 Ψ).ok c aw;exact⟨by simpa[T.ok]using this.1,this.2⟩) i)
     ·exact IE g (fun d a=>f d (by simp[a])) J d a
def ID{b:List Bd}(f:fp b){n:Int}(i:q9 b n){k:List bJ}{m:List bn}:∀{l L:List (List Bd)},(∀d∈l,q9 d n)->hP b k m l=some L->∀d∈L,q9 d n
 |[],L,_,h=>by simp only[hP,dU]at h;rw[<-h];simp
 |d0::r,L,g,h=>by
  simp only[hP]at h;split at h
  ·exact ID f i (fun d a=>g d (by simp[a])) h
  ·rename_i x j;split at h
   ·exact ID f i (fun d a=>g d (by simp[a])) h
   ·split at h
    ·cases h
    ·rw[hs]at h;obtain⟨o,J,rfl⟩:=h;intro d a;rcases gJ.1 a with rfl|a
     ·have:=amO (fun v=>v<n) f.sol f.fits i (fun e he=>by obtain⟨c,aw,rfl⟩:=hb.1 he;have:=g d0 Ψ c aw;exact⟨fun w hw=>by simp[T.occ]at hw;subst hw;exact this.1,this.2⟩) j
      exact fun c aw=>this c (oW.1 aw).1
     ·exact ID f i (fun d a=>g d (by simp[a])) J d a
def amS{L:List (List Bd)}:lZ (lZ L)=lZ L:=YF (YE L) fun x=>by rw[Ca,and_assoc];refine⟨fun⟨J,U⟩=>⟨J,U,?_⟩,fun⟨J,U,_⟩=>⟨J,U⟩⟩;rw[jS,j7]at U⊢;exact fun d a=>U d (Ca.1 a).1
def NW{b:List Bd}(c:fp b){n:Int}(a:q9 b n){v w:Int}(d:v<n)(h:(cC b v).occ w=true):w<n:=by
 unfold cC at h;cases e:dG b v with
 |none=>rw[e]at h;simp[T.occ]at h;omega
 |some t=>rw[e]at h;exact(a _ (kQ e)).2 w h
def aa1{b:List Bd}(e:fp b){n:Int}(f:q9 b n):∀{l acc a:List bJ},(∀x∈l,x.v<n)->(∀x∈acc,x.v<n)->gU b l acc=some a->∀x∈a,x.v<n
 |[],acc,a,_,h,he=>by simp only[gU,dU]at he;rw[<-he];exact h
 |y::r,acc,a,d,h,he=>by
  simp only[gU]at he;split at he
  ·rename_i i g;refine aa1 e f (fun x c=>d x (by simp[c])) (fun x c=>?_) he;rcases Rs g x c with J|J
   ·exact h x J
   ·exact NW e f (d y Ψ) (by rw[J];simp[T.occ])
  ·cases he
def aa4{b:List Bd}(e:fp b){n:Int}(f:q9 b n):∀{l acc a:List bn},(∀x∈l,x.v<n)->(∀x∈acc,x.v<n)->gZ b l acc=some a->∀x∈a,x.v<n
 |[],acc,a,_,h,he=>by simp only[gZ,dU]at he;rw[<-he];exact h
 |y::r,acc,a,d,h,he=>by
  simp only[gZ]at he;split at he
  ·rename_i i g;refine aa4 e f (fun x c=>d x (by simp[c])) (fun x c=>?_) he;rcases(B8 g x).1 c with J|⟨_,J⟩
   ·exact h x J
   ·exact NW e f (d y Ψ) J
  ·cases he
def abA{s b:da}(h:oR s)(he:j5 s=some b):tW b/\b.n=s.n/\b.b=s.b:=by
 unfold j5 at he;split at he
 ·cases he
 rename_i k ab;split at he
 ·cases he
 rename_i m hm;split at he
 ·cases he
 rename_i L c;split at he;rotate_left
 ·cases he
 rename_i g;cases he;have e:=JB h.b h.k.at' ⟨Ψ,Ψ⟩ ab;have m1:=JC h.b h.m.at' ⟨Ψ,by simp[iS]⟩ hm;have m2:iv (m.filter (ly k)):=⟨fun x a=>m1.at' x (oW.1 a).1,adk _ m1.asc⟩;have dy:=IF h.b c;have f:=IE h.b h.d c;refine⟨⟨⟨h.n,h.b,fun x a=>f x (Ca.1 a).1,e,m2,h.bb,fun x a=>ID h.b h.bb h.db c x (Ca.1 a).1,aa1 h.b h.bb h.kb Ψ ab,fun x a=>aa4 h.b h.bb h.mb Ψ hm x (oW.1 a).1⟩,?_⟩,rfl,rfl⟩;unfold j5;have l:gU s.b k []=some k:=aa3 (acc:=[]) e.asc (aa2 h.b.sol Ψ ab);have o:gZ s.b (m.filter (ly k)) []=some (m.filter (ly k)):=aa6 (acc:=[]) m2.asc fun x a=>aa5 h.b.sol Ψ hm x (oW.1 a).1;have i:(m.filter (ly k)).filter (ly k)=m.filter (ly k):=by rw[List.filter_filter];simp
 have j:hP s.b k (m.filter (ly k)) (lZ L)=some (lZ L):=X9 fun d n=>dy d (Ca.1 n).1;simp only[l,o,i,j,amS,if_pos g]
def uZ{α:Type}{s:List α}{i:Nat}{t:α}(h:s[i]? =some t):s.drop i=t::s.drop (i+1):=by obtain⟨hi,e⟩:=fH.1 h;rw[lH hi,e]
def rF(L:List (List Bd))(a:List (List Bd))(e:List Bd):List (List Bd):=if jS L e=true then kX fa e a else a
def OF{L:List (List Bd)}:∀(xs:List (List Bd)) {a:List (List Bd)},iS fa a->iS fa (xs.foldl (rF L) a)
 |[],_,h=>h
 |x::xs,a,h=>OF xs (a:=rF L a x) (by unfold rF;split<;>first|exact NL mQ h|exact h)
def YH{L:List (List Bd)}{x:List Bd}:∀(xs:List (List Bd)) {a:List (List Bd)},x∈xs.foldl (rF L) a↔x∈a\/(x∈xs/\jS L x=true)
 |[],a=>by simp
 |y::xs,a=>by
  rw[List.foldl_cons,YH xs,gJ];unfold rF;by_cases ab:jS L y=true
  ·rw[if_pos ab,IQ mQ];constructor
   ·rintro((rfl|h)|h)
    ·exact .inr ⟨.inl rfl,ab⟩
    ·exact .inl h
    ·exact .inr ⟨.inr h.1,h.2⟩
   ·rintro(h|⟨rfl|J,U⟩)
    ·exact .inl (.inr h)
    ·exact .inl (.inl rfl)
    ·exact .inr ⟨J,U⟩
  ·rw[if_neg ab];constructor
   ·rintro(h|h)
    ·exact .inl h
    ·exact .inr ⟨.inr h.1,h.2⟩
   ·rintro(h|⟨rfl|J,U⟩)
    ·exact .inl h
    ·exact absurd U ab
    ·exact .inr ⟨J,U⟩
def YG{L:List (List Bd)}:∀(xs a:List (List Bd)),(xs.foldl (rF L) a).length<=a.length+xs.length
 |[],a=>by simp
 |y::xs,a=>by
  have J:=YG (L:=L) xs (rF L a y);have U:(rF L a y).length<=a.length+1:=by
   unfold rF;split
   ·exact NN _ _
   ·omega
  simp only[List.foldl_cons,mw];omega
def amU(L:List (List Bd)):lZ L=L.foldl (rF L) []:=YF (OF L (by simp[iS])) fun x=>by rw[YH];simp
def zG(L:List (List Bd))(i:Nat)(a:List (List Bd)):Prop:=a=(L.take i).foldl (rF L) []
def zG.step{L:List (List Bd)}{i:Nat}{a:List (List Bd)}(h:zG L i a){e:List Bd}(he:L[i]? =some e):zG L (i+1) (rF L a e):=by rw[zG,nE he,List.foldl_append,h];rfl
def xV(e d:List Bd):Bool:=decide (d=e)|| !oL d e
def rv(L:List (List Bd))(e:List Bd)(j:Nat)(k:Bool):Prop:=k=(L.take j).all (xV e)
def rv.step{L:List (List Bd)}{e:List Bd}{j:Nat}{k:Bool}(h:rv L e j k){d:List Bd}(a:L[j]? =some d):rv L e (j+1) (k&&xV e d):=by rw[rv,nE a,List.all_append,h];simp
def Io(a:List (List Bd))(e:List Bd)(k:Nat):Prop:=k<=a.length/\∀c,a[k]? =some c->0<=fa c e
def Io.fin{a:List (List Bd)}{e:List Bd}{k:Nat}(h:Io a e k)(l:iS fa a)(aw:∀d,0<k->a[k-1]? =some d->fa d e<0):kX fa e a=if(match a[k]? with|some y=>decide (fa y e=0)|none=>false)=true then a else a.take k++e::a.drop k:=
 (NM mQ e a k (fun i c hi b=>by
  have ab:=h.1;obtain⟨d,f⟩:∃d,a[k-1]? =some d:=⟨_,cl Ω⟩;have J:=aw d Ω f;rcases Nat.lt_or_ge i (k-1)with U|U
  ·have g:=(fH.1 b);have j:=(fH.1 f);have:=q4.1 l i (k-1) g.1 j.1 U;rw[g.2,j.2]at this;exact mQ.ltr this Ω
  ·have:i=k-1:=Ω
   subst this;rw[f]at b;cases b;exact J) h.2 h.1).trans (by cases a[k]?<;>rfl)
def XE(L:List (List Bd))(e:List Bd):jS L e=L.all (xV e):=rfl
def abK{l:List (List Bd)}{x:List Bd}:x∈p8 fa l↔x∈l:=(Am fa l).mem_iff
def amT(l:List (List Bd)):lZ l=(cU none (p8 fa l)).filter (jS (p8 fa l)):=by have h:jS l=jS (p8 fa l):=funext fun e=>al1 (fun x=>abK.symm) e;rw[lZ,h];rfl
def mN(s:List (List Bd))(i:Nat)(acc:List (List Bd)):Prop:=acc++(cU (if i=0 then none else s[i-1]?) (s.drop i)).filter (jS s)=(cU none s).filter (jS s)
def hF:da:=⟨0,[],[],[],[]⟩
noncomputable def Ai(s:da):da:=match gU s.b s.k []with
 |none=>hF
 |some k=>match gZ s.b s.m []with
  |none=>hF
  |some m=>match hP s.b k (m.filter (ly k)) s.d with
   |none=>hF
   |some L=>⟨s.n,s.b,lZ L,k,m.filter (ly k)⟩
def Qj{s b:da}(h:j5 s=some b):Ai s=b:=by
 unfold j5 at h;unfold Ai;cases J:gU s.b s.k []with
 |none=>rw[J]at h;cases h
 |some k=>
  rw[J]at h;simp only at h⊢;cases U:gZ s.b s.m []with
  |none=>rw[U]at h;cases h
  |some m=>
   rw[U]at h;simp only at h⊢;cases a:hP s.b k (m.filter (ly k)) s.d with
   |none=>rw[a]at h;cases h
   |some L=>
    rw[a]at h;simp only at h⊢;split at h
    ·cases h;rfl
    ·cases h
def adM{k:List bJ}(ab:jR k)(v:Int):(k6 k (.var v) 2).isSome=(nx k v !=some 3):=by
 unfold k6;simp only;cases h:nx k v with
 |none=>simp
 |some x=>have:=(ab.at' _ (XM h)).2;simp only at this;rcases this with rfl|rfl<;>simp
def adQ{k:List bJ}(a:k.Pairwise fun x y=>x.v<y.v)(v:Int):(k.any fun x=>x.v==v&&x.k==3)=(nx k v==some 3):=by
 rw[q2,List.any_eq_true,ey];constructor
 ·rintro⟨x,b,h⟩;simp only[cR,ey]at h;have:=N0 a b;rw[h.1,h.2]at this;exact this
 ·intro h;exact⟨_,XM h,Ψ⟩
def Oe{b:List Bd}{k:List bJ}{m:List bn}{d:List Bd}{r:List (List Bd)}(h:mgu b (iM d)=none):hP b k m (d::r)=hP b k m r:=by rw[hP,h]
def Od{b:List Bd}{k:List bJ}{m:List bn}{d x:List Bd}{r:List (List Bd)}(h:mgu b (iM d)=some x)(ab:gU x k []=none\/gZ x m []=none):hP b k m (d::r)=hP b k m r:=by rw[hP,h];simp only[if_pos ab]
def Oc{b:List Bd}{k:List bJ}{m:List bn}{d x:List Bd}{r:List (List Bd)}(h:mgu b (iM d)=some x)(ab:¬(gU x k []=none\/gZ x m []=none))(a:hB b x=[]):hP b k m (d::r)=none:=by rw[hP,h];simp only[if_neg ab,if_pos a]
def Og{b:List Bd}{k:List bJ}{m:List bn}{d x:List Bd}{r:List (List Bd)}(h:mgu b (iM d)=some x)(ab:¬(gU x k []=none\/gZ x m []=none))(a:hB b x≠[]):hP b k m (d::r)=(hP b k m r).map (hB b x:: ·):=by rw[hP,h];simp only[if_neg ab,if_neg a]
def ry(b:List Bd)(k:List bJ)(m:List bn)(aY:List (List Bd))(i:Nat)(a:List (List Bd)):Prop:=a.length<=i/\(∀x∈a,fp x)/\(hP b k m (aY.drop i)).map (a++ ·)=hP b k m aY
def gg(n:Int):T->Bool
 | .var v=>decide (v<n)
 | .pair a b=>gg n a&&gg n b
 |_=>true
def GG{n:Int}:∀{t:T},gg n t=true↔yO t n
 | .var v=>by simp[gg,yO,T.occ]
 | .pair a b=>by simp only[gg,cR,GG (t:=a),GG (t:=b),yO,T.occ,og];exact⟨fun h v c=>c.elim (h.1 v) (h.2 v),fun h=>⟨fun v c=>h v (.inl c),fun v c=>h v (.inr c)⟩⟩
 | .nil=>by simp[gg,yO,T.occ]
 | .sym _=>by simp[gg,yO,T.occ]
 | .num _=>by simp[gg,yO,T.occ]
def lN(n:Int)(b:Bd):Bool:=decide (b.v<n)&&gg n b.t
def w2{n:Int}{s:List Bd}:s.all (lN n)=true↔q9 s n:=by simp[j7,lN,q9,GG]
def sK(v m:Int):Int:=if m<v+1 then v+1 else m
def Kq{n:Int}:∀(t:T) (m:Int),t.fold sK m<=n↔m<=n/\gg n t=true
 | .var v,m=>by simp only[T.fold,sK,gg,gz];split<;>omega
 | .pair a b,m=>by simp only[T.fold,Kq b,Kq a,gg,cR,and_assoc]
 | .nil,m=>by simp[T.fold,gg]
 | .sym _,m=>by simp[T.fold,gg]
 | .num _,m=>by simp[T.fold,gg]
def Gd(v m:Int):be Int:=if 0<=v/\v<=100000 then some (sK v m)else none
def Q2:∀(t:T) (m:Int),t.ok=true->t.foldO Gd m=some (t.fold sK m)
 | .var v,m,h=>by
  have:0<=v/\v<=100000:=by simpa[T.ok]using h
  simp[T.foldO,T.fold,Gd,this]
 | .pair a b,m,h=>by
  have J:a.ok=true/\b.ok=true:=by simpa[T.ok]using h
  simp[T.foldO,T.fold,Q2 a m J.1,Q2 b _ J.2]
 | .nil,m,_=>rfl
 | .sym _,m,_=>rfl
 | .num _,m,_=>rfl
structure gn where
 n:Int
 b:List Bt
 d:List (List Bt)
 k:List bJ
 m:List bn
def da.r(s:da):gn:=⟨s.n,s.b.map Bd.b,s.d.map fun x=>x.map Bd.b,s.k,s.m⟩
def kc(r:gn):Prop:= ∃s:da,r=s.r/\tW s
def k8(n:Int)(x:List Bt):Prop:= ∃s:List Bd,x=s.map Bd.b/\fp s/\q9 s n
structure PS (r:gn):Prop where
 n:0<=r.n/\r.n<=100000
 b:k8 r.n r.b
 d:∀x∈r.d,k8 r.n x
 k:jR r.k
 m:iv r.m
 kb:∀x∈r.k,x.v<r.n
 mb:∀x∈r.m,x.v<r.n
def kc.raw{r:gn}(h:kc r):PS r:=by obtain⟨s,rfl,J,_⟩:=h;exact⟨J.n,⟨s.b,rfl,J.b,J.bb⟩,fun x b=>by obtain⟨y,a,rfl⟩:=hb.1 b;exact⟨y,rfl,J.d y a,J.db y a⟩,J.k,J.m,J.kb,J.mb⟩
def wY:∀{a b:List Bd},a.map Bd.b=b.map Bd.b->a=b
 |[],b,h=>by cases b<;>simp at h⊢
 |x::a,[],h=>by simp at h
 |x::a,y::b,h=>by simp only[ha,rR,Bd.b,Bt.mk.injEq]at h;rw[wY h.2];have:=QN h.1.2;obtain⟨⟨J,_⟩,_⟩:=h;cases x;cases y;simp_all
def RK:∀{a b:List (List Bd)},(a.map fun x=>x.map Bd.b)=(b.map fun x=>x.map Bd.b)->a=b
 |[],b,h=>by cases b<;>simp at h⊢
 |x::a,[],h=>by simp at h
 |x::a,y::b,h=>by rw[ha,ha,rR]at h;rw[RK h.2,wY h.1]
def da.r_inj{s t:da}(h:s.r=t.r):s=t:=by obtain⟨n,b,d,k,m⟩:=s;obtain⟨n',b2,g,bs,f⟩:=t;simp only[da.r,gn.mk.injEq]at h;obtain⟨J,U,c,e,a⟩:=h;rw[J,wY U,RK c,e,a]
def Un{n:Int}:∀{d:List (List Bt)},(∀x∈d,k8 n x)->∃aY:List (List Bd),d=(aY.map fun x=>x.map Bd.b)/\(∀x∈aY,fp x)/\∀x∈aY,q9 x n
 |[],_=>⟨[],rfl,Ψ,Ψ⟩
 |x::d,h=>by
  obtain⟨aY,J,U,c⟩:=Un (d:=d) fun y a=>h y (by simp[a]);obtain⟨s,e,f,b⟩:=h x Ψ;refine⟨s::aY,by rw[J,e];rfl,fun y a=>?_,fun y a=>?_⟩
  ·rcases gJ.1 a with rfl|a
   ·exact f
   ·exact U y a
  ·rcases gJ.1 a with rfl|a
   ·exact b
   ·exact c y a
def abM{s:da}(h:oR s):kc s.r↔j5 s=some s:=by
 constructor
 ·rintro⟨t,e,_,U⟩;rw[da.r_inj e];exact U
 ·intro U;exact⟨s,rfl,h,U⟩
def yp{l:List Bt}:KI l↔∃s:List Bd,l=s.map Bd.b/\fp s:=⟨fun⟨s,J,U,a,b⟩=>⟨s,J,U,a,b⟩,fun⟨s,J,U⟩=>⟨s,J,U.ok,U.sol,U.fits⟩⟩
def sV{α:Type}(a b:List α)(i:Nat)(_:Unit):Prop:= ∀k,k<i->a[k]? =b[k]?
def sV.fin{α:Type}{a b:List α}(h:sV a b b.length ())(c:a.length=b.length):a=b:=by
 apply List.ext_getElem?;intro k;by_cases ab:k<b.length
 ·exact h k ab
 ·rw[q3 Ω,q3 Ω]
def sV.step{α:Type}{a b:List α}{i:Nat}(h:sV a b i ()){x:α}(c:a[i]? =some x)(d:b[i]? =some x):sV a b (i+1) ():=fun k ab=>by
 rcases(by omega:k<i\/k=i)with J|rfl
 ·exact h k J
 ·rw[c,d]
def tA{α:Type}(p:α->Prop)(s:List α)(i:Nat)(_:Unit):Prop:= ∀k b,k<i->s[k]? =some b->p b
def tA.step{α:Type}{p:α->Prop}{s:List α}{i:Nat}(h:tA p s i ()){b:α}(d:s[i]? =some b)(a:p b):tA p s (i+1) ():=fun k c ab aw=>by
 rcases(by omega:k<i\/k=i)with J|rfl
 ·exact h k c J aw
 ·rw[d]at aw;cases aw;exact a
def tA.fin{α:Type}{p:α->Prop}{s:List α}(h:tA p s s.length ()):∀b∈s,p b:=fun b a=>by obtain⟨k,ab,e⟩:=pA a;exact h k b ab (by rw[cl ab,e])
def R6:C:=(aa [bz 2 false] (.seq (aa [I 5 0,cw 6 5,bQ 7 0] (gx 8 7 6 (.seq (.block 1 (aa [I 9 7,ck 10 2 5 7,bk 11 2 10,dt (.alloc 4 none (.agg [.int .i64 0,.int .i64 0])),I 3 9,bV 2 4 11] (.seq (.drawn true 46 [aF 12 0 1 4,ay 13 1 12,aV 14 .lss 13 0,I 15 14,ax 15 false (aF 16 0 1 4),ax 15 false (ay 17 1 16),ax 15 false (aV 18 .gtr 17 100000),ds 19 15 18,I 20 19,ax 20 false (aF 21 1 1 4),ax 20 false (ay 22 1 21),ax 20 false (aV 23 .neq 22 2),cg 20 false 24 23,ax 24 true (aF 25 1 1 4),ax 24 true (ay 26 1 25),ax 24 true (aV 27 .neq 26 3),ax 20 false (ei 28 24 27),ds 29 20 28,I 30 29,cg 30 false 31 3,ax 30 false (aV 32 .gtr 31 0),cg 30 false 33 32,cg 33 true 34 0,cg 33 true 35 3,ax 33 true (aV 36 .sub 35 1),ax 33 true (ck 37 2 34 36),ax 33 true (aF 38 0 1 37),ax 33 true (ay 39 1 38),ax 33 true (aF 40 0 1 4),ax 33 true (ay 41 1 40),ax 33 true (bu 42 .geq 39 41),ax 30 false (ei 43 33 42),ds 44 30 43]) (aW 44 (aa [bz 2 false] .ret) .skip)))) (.region [aV 45 .add 7 1,I 7 45])))) (aa [bz 2 true] .ret)))
def R7:C:=(aa [bz 2 false] (.seq (aa [I 5 0,cw 6 5,bQ 7 0] (gx 8 7 6 (.seq (.block 1 (aa [I 9 7,ck 10 2 5 7,bk 11 2 10,dt (.alloc 4 none (.agg [.int .i64 0,.str []])),I 3 9,bV 2 4 11] (.seq (.drawn true 41 [aF 12 0 1 4,ay 13 1 12,aV 14 .lss 13 0,I 15 14,ax 15 false (aF 16 0 1 4),ax 15 false (ay 17 1 16),ax 15 false (aV 18 .gtr 17 100000),ds 19 15 18,I 20 19,ax 20 false (aF 21 1 1 4),ax 20 false (ay 22 1 21),ax 20 false (cY 23 160 22),ax 20 false (cO 24 23),ds 25 20 24,I 26 25,cg 26 false 27 3,ax 26 false (aV 28 .gtr 27 0),cg 26 false 29 28,cg 29 true 30 0,cg 29 true 31 3,ax 29 true (aV 32 .sub 31 1),ax 29 true (ck 33 2 30 32),ax 29 true (bk 34 2 33),ax 29 true (bk 35 2 4),ax 29 true (cc 36 161 34 35),ax 29 true (cO 37 36),ax 26 false (ei 38 29 37),ds 39 26 38]) (aW 39 (aa [bz 2 false] .ret) .skip)))) (.region [aV 40 .add 7 1,I 7 40])))) (aa [bz 2 true] .ret)))
def AP:C:=(aa [c0 6 2,fw 8 2,bz 9 false] (.seq (aa [I 15 0,cY 16 86 15,cO 17 16,I 18 17,ax 18 false (bk 19 4 6),ax 18 false (cY 20 64 19),ax 18 false (cO 21 20),ds 22 18 21,I 23 22,cg 23 false 24 1,ax 23 false (cY 25 87 24),ax 23 false (cO 26 25),ds 27 23 26,I 28 27,cg 28 false 29 3,ax 28 false (aV 30 .neq 29 2),cg 28 false 31 30,cg 31 true 32 3,ax 31 true (aV 33 .neq 32 3),ax 28 false (ei 34 31 33),ds 35 28 34] (aW 35 (aa [fw 8 2,bz 9 false] .ret) .skip)) (aa [I 37 0,bk 38 4 6,cc 39 69 37 38,I 36 39,cV 40 0 36,cV 41 1 36,dI 10 eC,bV 4 10 40,I 11 41] (.seq (aa [I 42 11,cO 43 42] (aW 43 (aa [fw 8 2,bz 9 false] .ret) .skip)) (aa [dt (.bslm 44 (some 803) 2 98 []),I 45 1,dt (.appm 46 none 2 98 (.t 44) (.t 45)),dt (.alloc 12 (some 804) (.slice 2 .nil [])),bV 1 12 46] (.seq (aa [aF 47 0 1 10,ay 48 1 47,aV 49 .neq 48 1] (aW 49 (.seq (aa [aF 50 0 1 10,ay 51 1 50,I 52 3,bu 53 .neq 51 52] (aW 53 (aa [fw 8 2,bz 9 false] .ret) .skip)) (.seq (.pubB 12 (.region [ay 54 1 12,I 8 54,bz 9 true])) .ret)) .skip)) (.seq (aa [I 55 1,cw 56 55,bQ 57 0] (gx 58 57 56 (.seq (.block 1 (aa [ck 59 2 55 57,bk 60 2 59,dt (.alloc 14 none (.agg [.int .i64 0,.int .i64 0])),bV 2 14 60] (aa [aF 61 0 1 14,ay 62 1 61,aF 63 1 1 10,ay 64 1 63,bu 65 .eql 62 64] (aW 65 (.seq (aa [aF 66 1 1 14,ay 67 1 66,I 68 3,bu 69 .neq 67 68] (aW 69 (aa [fw 8 2,bz 9 false] .ret) .skip)) (.seq (.pubB 12 (.region [ay 70 1 12,I 8 70,bz 9 true])) .ret)) .skip)))) (.region [aV 71 .add 57 1,I 57 71])))) (aa [ay 72 1 12,aF 73 1 1 10,ay 74 1 73,I 75 3,cb 76 (.build [.int .i64 0,.int .i64 0] [(0,1,(.t 74)),(1,1,(.t 75))]),fe 77 2 98 [.t 76],dt (.appm 78 none 2 98 (.t 72) (.t 77)),bV 1 12 78] (aa [ay 79 1 12,cb 80 (.mkif 48 (.t 79)),cb 81 (.mkf 183 [.t 12]),cc 82 182 80 81] (.seq (.pubB 12 (.region [ay 83 1 12,I 8 83,bz 9 true])) .ret))))))))))
def Dv:C:=(aa [c0 6 2,dt (.box 7 (some 811) (.t 3)),fw 8 2,bz 9 false] (.seq (aa [I 17 0,cY 18 86 17,cO 19 18,I 20 19,ax 20 false (bk 21 4 6),ax 20 false (cY 22 64 21),ax 20 false (cO 23 22),ds 24 20 23,I 25 24,cg 25 false 26 1,ax 25 false (cY 27 88 26),ax 25 false (cO 28 27),ds 29 25 28,I 30 29,ax 30 false (ay 31 1 7),ax 30 false (cY 32 160 31),ax 30 false (cO 33 32),ds 34 30 33] (aW 34 (aa [fw 8 2,bz 9 false] .ret) .skip)) (aa [I 36 0,bk 37 4 6,cc 38 69 36 37,I 35 38,cV 39 0 35,cV 40 1 35,dI 10 eC,bV 4 10 39,I 11 40] (.seq (aa [I 41 11,cO 42 41,I 43 42,ax 43 false (bk 44 4 10),ax 43 false (ay 45 1 7),ax 43 false (cc 46 177 44 45),ds 47 43 46] (aW 47 (aa [fw 8 2,bz 9 false] .ret) .skip)) (aa [dt (.mkmap 48 (some 812)),dt (.alloc 12 (some 813) (.junk)),bV 1 12 48] (.seq (aa [I 49 1,cw 50 49,bQ 51 0] (gx 52 51 50 (.seq (.block 1 (aa [ck 53 2 49 51,bk 54 2 53,dt (.alloc 14 none (.agg [.int .i64 0,.str []])),bV 2 14 54] (.region [ay 55 1 12,bk 56 2 14,dt (.mput (.a [false,true]) (.t 55) (.t 56) (.c (.bool true)))]))) (.region [aV 57 .add 51 1,I 51 57])))) (aa [bk 58 4 10,cb 59 (.mkf 184 [.t 12,.t 7]),cc 60 134 58 59] (aa [dt (.bslm 61 (some 814) 2 100 []),dt (.alloc 15 (some 815) (.slice 2 .nil [])),bV 1 15 61] (.seq (aa [ay 62 1 12,dt (.range 63 none (.t 62))] (.block 2 (.loop (aa [⟨none,.next 64 (.t 63)⟩,cV 65 0 64] (.seq (aW 65 .skip (.exit 2)) (.block 3 (aa [cb 66 (.ment (.t 63)),cV 67 0 66,dt (.alloc 16 none (.agg [.int .i64 0,.str []])),bV 2 16 67] (.region [ay 68 1 15,bk 69 2 16,fe 70 2 100 [.t 69],dt (.appm 71 none 2 100 (.t 68) (.t 70)),bV 1 15 71])))))))) (aa [ay 72 1 15,cb 73 (.mkif 49 (.t 72)),cb 74 (.mkf 185 [.t 15]),cc 75 182 73 74] (.seq (.pubB 15 (.region [ay 76 1 15,I 8 76,bz 9 true])) .ret)))))))))))
def GK:C:=(aa [c0 2 0,c0 3 1,bz 4 false] (aa [aF 5 0 1 2,ay 6 1 5,aF 7 0 1 3,ay 8 1 7,bu 9 .lss 6 8,I 10 9,ax 10 false (aF 11 0 1 2),ax 10 false (ay 12 1 11),ax 10 false (aF 13 0 1 3),ax 10 false (ay 14 1 13),ax 10 false (bu 15 .eql 12 14),cg 10 false 16 15,ax 16 true (aF 17 1 1 2),ax 16 true (ay 18 1 17),ax 16 true (aF 19 1 1 3),ax 16 true (ay 20 1 19),ax 16 true (bu 21 .lss 18 20),ax 10 false (ei 22 16 21),ds 23 10 22,I 4 23] .ret))
def GN:C:=(aa [c0 2 0,bz 4 false] (.seq (aa [aF 5 0 1 2,ay 6 1 5,aV 7 .eql 6 4] (aW 7 (aa [aF 8 3 1 2,ay 9 1 8,kC 10 4 9 0,bk 11 4 10,I 12 1,cc 13 177 11 12,I 14 13,ax 14 false (aF 15 3 1 2),ax 14 false (ay 16 1 15),ax 14 false (kC 17 4 16 1),ax 14 false (bk 18 4 17),cg 14 false 19 1,ax 14 false (cc 20 177 18 19),ds 21 14 20,I 4 21] .ret) .skip)) (aa [aF 22 0 1 2,ay 23 1 22,aV 24 .eql 23 2,I 25 24,ax 25 true (aF 26 2 1 2),ax 25 true (ay 27 1 26),cg 25 true 28 1,ax 25 true (bu 29 .eql 27 28),ei 30 25 29,I 4 30] .ret)))
def R3:C:=(aa [bz 5 false] (.seq (.drawn true 17 [ay 6 1 2,I 7 0,ck 8 2 6 7,aF 9 0 1 8,ay 10 1 9,ay 11 1 2,I 12 1,ck 13 2 11 12,aF 14 0 1 13,ay 15 1 14,bu 16 .lss 10 15,I 5 16]) .ret))
def R1:C:=(.region [ay 4 1 1,I 5 0,ay 6 1 2,cb 7 (.build [.int .i64 0,.str []] [(0,1,(.t 5)),(1,1,(.t 6))]),dt (.mput (.a [false,true]) (.t 4) (.t 7) (.c (.bool true)))])
def R2:C:=(aa [bz 5 false] (.seq (.drawn true 15 [ay 6 1 2,I 7 0,ck 8 2 6 7,bk 9 2 8,ay 10 1 2,I 11 1,ck 12 2 10 11,bk 13 2 12,cc 14 161 9 13,I 5 14]) .ret))
def anx:b4 aT R6 [.tmp 2] 1 Tryz.f87=true:=bi
def anz:b4 aT R7 [.tmp 2] 1 Tryz.f88=true:=bi
def Fc:b4 aT AP [.tmp 8,.tmp 9] 4 Tryz.f118=true:=bi
def I7:b4 aT Dv [.tmp 8,.tmp 9] 4 Tryz.f120=true:=bi
def O2:b4 aT GK [.tmp 4] 2 Tryz.f161=true:=bi
def O5:b4 aT GN [.tmp 4] 2 Tryz.f177=true:=bi
def anu:b4 aT R3 [.tmp 5] 3 Tryz.f183=true:=bi
def ans:b4 aT R1 [] 3 Tryz.f184=true:=bi
def ant:b4 aT R2 [.tmp 5] 3 Tryz.f185=true:=bi
def nv(x:bJ):Prop:=(0<=x.v/\x.v<=100000)/\(x.k=2\/x.k=3)
def oJ(x y:bJ):Prop:=x.v<y.v
def Iu{l:List bJ}:jR l↔∀i,i<l.length->jh nv oJ l i:=by rw[Rt (p:=nv) (r:=oJ) (fun a b c J U=>by unfold oJ at*;omega)];exact⟨fun h=>⟨h.at',h.asc⟩,fun h=>⟨h.1,h.2⟩⟩
def kZ(x:bn):Prop:=(0<=x.v/\x.v<=100000)/\ib x.s=true
def lx(x y:bn):Prop:=gf x y<0
def IM{l:List bn}:iv l↔∀i,i<l.length->jh kZ lx l i:=by rw[Rt (p:=kZ) (r:=lx) (fun a b c J U=>by unfold lx at*;exact mR.ltr J (Int.le_of_lt U))];exact⟨fun h=>⟨h.at',h.asc⟩,fun h=>⟨h.1,h.2⟩⟩
open Classical in
def acp(l:List bJ):bT au 87 [b5 (l.map bJ.e)] (.bool (decide (jR l))):=by
 generalize bt:decide (jR l)=R;refine bI a1 Tryz.func87 anx fun p=>?_;unfold R6;have s:l.length<=68719476736:=by simp[eI,eN,eJ,lim]at p;omega
 simp;refine eZ [0,5,6] (fun i (_:Unit)=>[(7,aj i)]) l.length (fun i _=> ∀j,j<i->jh nv oJ l j) () b9 (fun k ab=>Ω) (fun _ f _=>?_) (fun i _ hi f _=>?_)
 ·have:R=true:=by rw[<-bt,gz,Iu];exact f
  rw[this];exact cn
 ·obtain⟨b,a⟩:∃b,l[i]? =some b:=⟨_,cl hi⟩;obtain⟨c,aw⟩:∃c,l[i-1]? =some c:=⟨_,cl Ω⟩;have m:∀h,(l[i]'h)=b:=fun h=>by rw[cl hi]at a;exact e7 a
  have o:¬jh nv oJ l i->R=false:=fun h=>by rw[<-bt,iR];exact fun d=>h (Iu.1 d i hi)
  have dy:jh nv oJ l i->∀j,j<i+1->jh nv oJ l j:=fun h j r=>by
   by_cases e:j=i
   ·rw[e];exact h
   ·exact f j Ω
  simp[hi,m,aw];((repeat' first|refine ao ?_|simp[m,aw,hi]|((first|apply ct|apply cz|apply cy)<;>intro h<;>try simp at h))<;>(try exact c3));all_goals first
   |(have q:¬jh nv oJ l i:=by(intro d;have J:=d b a;have U:=J.2 c;have v:=J.1;unfold nv oJ at*;first|omega|(have w:=U Ω aw;omega)|(simp_all;done)|(simp_all;omega))
     rw[o q]
     simp[bZ,bc,bf,a6]
     done)
   |(refine bY.rng () hi (dy fun b2 n=>?_) ?_
     ·rw[a]at n;cases n
      refine⟨?_,fun t u g=>?_⟩
      ·unfold nv;first|(simp_all;done)|(simp_all;omega)
      ·rw[aw]at g;cases g;unfold oJ;simp_all
     ·exact b9)
def C2(a b:bn):bT au 161 [a.e,b.e] (.bool (iP gf a b)):=by
 rw[<-YW];have bt:u7 a b=(decide (a.v<b.v)||(a.v==b.v&&iw a.s b.s)):=rfl;rcases Int.lt_trichotomy a.v b.v with h|h|h
 ·have:u7 a b=true:=by rw[bt];simp[h]
  rw[this];refine bI a1 Tryz.func161 O2 fun c=>?_;unfold GK;exact cn
 ·have J:¬a.v<b.v:=Ω
  have U:(a.v==b.v)=true:=by simp[h]
  have:u7 a b=iw a.s b.s:=by rw[bt];simp[h]
  rw[this];refine bI a1 Tryz.func161 O2 fun c=>?_;unfold GK;exact cn
 ·have J:¬a.v<b.v:=Ω
  have U:¬a.v=b.v:=Ω
  have d:(a.v==b.v)=false:=by simp[U]
  have:u7 a b=false:=by rw[bt];simp[J,U]
  rw[this];refine bI a1 Tryz.func161 O2 fun c=>?_;unfold GK;exact cn
open Classical in
def acr(l:List bn):bT au 88 [b5 (l.map bn.e)] (.bool (decide (iv l))):=by
 generalize bt:decide (iv l)=R;refine bI a1 Tryz.func88 anz fun v=>?_;unfold R7;have x:l.length<=68719476736:=by simp[eI,eN,eJ,lim]at v;omega
 simp;refine eZ [0,5,6] (fun i (_:Unit)=>[(7,aj i)]) l.length (fun i _=> ∀j,j<i->jh kZ lx l j) () b9 (fun k ab=>Ω) (fun _ o _=>?_) (fun i _ hi o _=>?_)
 ·have:R=true:=by rw[<-bt,gz,IM];exact o
  rw[this];exact cn
 ·obtain⟨b,d⟩:∃b,l[i]? =some b:=⟨_,cl hi⟩;obtain⟨c,aw⟩:∃c,l[i-1]? =some c:=⟨_,cl Ω⟩;have a:∀h,(l[i]'h)=b:=fun h=>by rw[cl hi]at d;exact e7 d
  have s:¬jh kZ lx l i->R=false:=fun h=>by rw[<-bt,iR];exact fun t=>h (IM.1 t i hi)
  have dy:jh kZ lx l i->∀j,j<i+1->jh kZ lx l j:=fun h j w=>by
   by_cases e:j=i
   ·rw[e];exact h
   ·exact o j Ω
  have g:∀p:Prop,(p->er)->(jh kZ lx l i->p)->R=false:=fun p J U=>s fun h=>J (U h);have f:jh kZ lx l i->kZ b:=fun h=>(h b d).1;have u:jh kZ lx l i->0<i->iP gf c b=true:=fun h n=>by simpa[iP,lx]using(h b d).2 c n aw
  have m:kZ b->(0<i->iP gf c b=true)->jh kZ lx l i:=fun J U b2 r=>by rw[d]at r;cases r;exact⟨J,fun y n q=>by rw[aw]at q;cases q;simpa[iP,lx]using U n⟩
  unfold kZ at f m;by_cases g1:b.v<0
  ·rw[g _ (fun h=>Ω) (fun h=>(f h).1.1)];exact cn
  by_cases g2:100000<b.v
  ·rw[g _ (fun h=>Ω) (fun h=>(f h).1.2)];exact cn
  cases g3:ib b.s
  ·rw[g _ (fun h=>by rw[h]at g3;cases g3) (fun h=>(f h).2)];simp[hi,a,aw];(repeat' first|refine ao ?_|refine aO (tY _) ?_|refine aP (tY _) ?_|simp[a,aw,hi,g1,g2,g3]);simp[bZ,bc,bf,a6]
  by_cases g4:0<i
  ·cases g5:iP gf c b
   ·rw[g _ (fun h=>by rw[h]at g5;cases g5) (fun h=>u h g4)];simp[hi,a,aw];(repeat' first|refine ao ?_|refine aO (tY _) ?_|refine aP (tY _) ?_|refine aO (C2 _ _) ?_|refine aP (C2 _ _) ?_|simp[a,aw,hi,g1,g2,g3,g4,g5]);simp[bZ,bc,bf,a6]
   ·simp[hi,a,aw];(repeat' first|refine ao ?_|refine aO (tY _) ?_|refine aP (tY _) ?_|refine aO (C2 _ _) ?_|refine aP (C2 _ _) ?_|simp[a,aw,hi,g1,g2,g3,g4,g5]);exact bY.rng () hi (dy (m ⟨⟨Ω,Ω⟩,g3⟩ fun _=>g5)) b9
  ·obtain rfl:i=0:=Ω
   simp[hi,a,aw];(repeat' first|refine ao ?_|refine aO (tY _) ?_|refine aP (tY _) ?_|simp[a,aw,hi,g1,g2,g3,g4]);exact bY.rng () hi (dy (m ⟨⟨Ω,Ω⟩,g3⟩ fun h=>Ω)) b9
def ast(s:List cJ):∀t:T,bT au 177 [t.e,.str s] (.bool (t.has s)):=by
 intro t;induction t with
 |pair a b d c=>
  refine bI a1 Tryz.func177 O5 fun g=>?_;unfold GN;simp;cases e:a.has s<;>cases f:b.has s<;>rw[e]at d<;>rw[f]at c;all_goals(repeat' first|refine ao ?_|refine aO d ?_|refine aP d ?_|refine aO c ?_|refine aP c ?_|simp)
  all_goals simp[bZ,bc,bf,a6]
  all_goals simp[T.has,e,f]
 |sym n=>
  refine bI a1 Tryz.func177 O5 fun g=>?_;unfold GN;simp;(repeat' first|refine ao ?_|simp);all_goals simp[bZ,bc,bf,a6]
  all_goals simp[T.has]
 |_=>
  refine bI a1 Tryz.func177 O5 fun g=>?_;unfold GN;simp;(repeat' first|refine ao ?_|simp);all_goals simp[bZ,bc,bf,a6]
  all_goals simp[T.has]
def Tr:C:=(aa [c0 2 0] (aa [bQ 4 20] (aa [I 8 4,bQ 5 0,I 6 8] (.seq (.block 0 (.loop (.seq (aa [I 9 6,I 10 1,bu 11 .leq 9 10] (aW 11 .skip (.exit 0))) (.block 1 (aa [bk 12 2 2,I 13 5,I 14 6,dT 15 231 [.t 12,.t 13,.t 14]] (aa [I 16 6,I 5 16] (.region [I 17 6,I 18 4,bu 19 .add 17 18,I 6 19]))))))) (aa [bk 20 2 2,I 21 5,I 22 1,dT 23 231 [.t 20,.t 21,.t 22]] (.block 2 (.loop (.seq (aa [I 24 4,I 25 1,bu 26 .lss 24 25] (aW 26 .skip (.exit 2))) (.block 3 (aa [I 27 4,cb 28 (.bin .mul false (gV 2) (.t 27)),bQ 5 0,I 6 28] (.seq (.block 4 (.loop (.seq (aa [I 29 6,I 30 1,bu 31 .leq 29 30] (aW 31 .skip (.exit 4))) (.block 5 (aa [bk 32 2 2,I 33 5,I 34 5,I 35 4,bu 36 .add 34 35,I 37 6,dT 38 232 [.t 32,.t 33,.t 36,.t 37]] (aa [I 39 6,I 5 39] (.region [I 40 6,I 41 4,cb 42 (.bin .mul false (gV 2) (.t 41)),bu 43 .add 40 42,I 6 43]))))))) (.seq (aa [I 44 5,I 45 4,bu 46 .add 44 45,I 7 46] (aa [I 47 7,I 48 1,bu 49 .lss 47 48] (aW 49 (.region [bk 50 2 2,I 51 5,I 52 7,I 53 1,dT 54 232 [.t 50,.t 51,.t 52,.t 53]]) .skip))) (.region [I 55 4,aV 56 .mul 55 2,I 4 56])))))))))))))
def Lr:C:=(aa [c0 3 0] (aa [I 8 1,aV 9 .add 8 1,I 6 9] (.block 0 (.loop (.seq (aa [I 10 6,I 11 2,bu 12 .lss 10 11] (aW 12 .skip (.exit 0))) (.seq (.block 1 (aa [I 15 6,I 7 15] (.block 2 (.loop (.seq (aa [I 16 7,I 17 1,bu 18 .gtr 16 17,I 19 18,ax 19 true (aF 20 0 1 3),ax 19 true (ay 21 1 20),cg 19 true 22 7,cg 19 true 23 7,ax 19 true (aV 24 .sub 23 1),ax 19 true (hL 25 21 [.t 22,.t 24]),ei 26 19 25] (aW 26 .skip (.exit 2))) (.seq (.block 3 (.region [aF 29 1 1 3,ay 30 1 29,I 31 7,I 32 7,aV 33 .sub 32 1,hL 34 30 [.t 31,.t 33]])) (.region [I 27 7,aV 28 .sub 27 1,I 7 28]))))))) (.region [I 13 6,aV 14 .add 13 1,I 6 14])))))))
def GS:C:=(aa [I 164 16,I 165 22,bu 166 .lss 164 165,I 167 166,cg 167 true 168 22,cg 167 true 169 3,ax 167 true (bu 170 .lss 168 169),ei 171 167 170] (aW 171 (.region [bk 172 2 4,I 173 16,I 174 22,I 175 3,dT 176 232 [.t 172,.t 173,.t 174,.t 175]]) .skip))
def GU:C:=(.seq (aa [I 151 1,I 152 18,bu 153 .lss 151 152,I 154 153,cg 154 true 155 18,cg 154 true 156 16,ax 154 true (bu 157 .lss 155 156),ei 158 154 157] (aW 158 (.region [bk 159 2 4,I 160 1,I 161 18,I 162 16,dT 163 232 [.t 159,.t 160,.t 161,.t 162]]) .skip)) GS)
def Lv:C:=(.seq (aa [I 138 18,I 139 2,bu 140 .lss 138 139,I 141 140,cg 141 true 142 2,cg 141 true 143 22,ax 141 true (bu 144 .lss 142 143),ei 145 141 144] (aW 145 (.region [bk 146 2 4,I 147 18,I 148 2,I 149 22,dT 150 251 [.t 146,.t 147,.t 148,.t 149]]) .skip)) GU)
def Lw:C:=(aa [I 113 17,aV 114 .sub 113 1,I 20 114] (.seq (.block 8 (.loop (.seq (aa [I 115 18,I 116 19,bu 117 .lss 115 116] (aW 117 .skip (.exit 8))) (.block 9 (aa [I 118 18,I 119 19,bu 120 .add 118 119,cb 121 (.conv .u64 (.t 120)),cb 122 (.bin .shr false (.t 121) (.c (.int .u64 1))),cb 123 (.conv .i64 (.t 122)),I 21 123] (aa [aF 124 0 1 4,ay 125 1 124,I 126 20,I 127 21,bu 128 .sub 126 127,I 129 21,hL 130 125 [.t 128,.t 129],cO 131 130] (aW 131 (.region [I 132 21,aV 133 .add 132 1,I 18 133]) (.region [I 134 21,I 19 134])))))))) (aa [I 135 17,I 136 18,bu 137 .sub 135 136,I 22 137] Lv)))
def Tt:C:=(aa [c0 4 0] (.seq (aa [I 23 2,I 24 1,bu 25 .sub 23 24,aV 26 .eql 25 1] (aW 26 (aa [I 27 2,I 8 27] (aa [I 28 3,I 9 28] (.seq (.block 0 (.loop (.seq (aa [I 29 8,I 30 9,bu 31 .lss 29 30] (aW 31 .skip (.exit 0))) (.block 1 (aa [I 32 8,I 33 9,bu 34 .add 32 33,cb 35 (.conv .u64 (.t 34)),cb 36 (.bin .shr false (.t 35) (.c (.int .u64 1))),cb 37 (.conv .i64 (.t 36)),I 10 37] (aa [aF 38 0 1 4,ay 39 1 38,I 40 10,I 41 1,hL 42 39 [.t 40,.t 41]] (aW 42 (.region [I 43 10,aV 44 .add 43 1,I 8 44]) (.region [I 45 10,I 9 45])))))))) (.seq (aa [I 46 1,I 11 46] (.block 2 (.loop (.seq (aa [I 47 11,I 48 8,aV 49 .sub 48 1,bu 50 .lss 47 49] (aW 50 .skip (.exit 2))) (.seq (.block 3 (.region [aF 53 1 1 4,ay 54 1 53,I 55 11,I 56 11,aV 57 .add 56 1,hL 58 54 [.t 55,.t 57]])) (.region [I 51 11,aV 52 .add 51 1,I 11 52])))))) .ret)))) .skip)) (.seq (aa [I 59 3,I 60 2,bu 61 .sub 59 60,aV 62 .eql 61 1] (aW 62 (aa [I 63 1,I 12 63] (aa [I 64 2,I 13 64] (.seq (.block 4 (.loop (.seq (aa [I 65 12,I 66 13,bu 67 .lss 65 66] (aW 67 .skip (.exit 4))) (.block 5 (aa [I 68 12,I 69 13,bu 70 .add 68 69,cb 71 (.conv .u64 (.t 70)),cb 72 (.bin .shr false (.t 71) (.c (.int .u64 1))),cb 73 (.conv .i64 (.t 72)),I 14 73] (aa [aF 74 0 1 4,ay 75 1 74,I 76 2,I 77 14,hL 78 75 [.t 76,.t 77],cO 79 78] (aW 79 (.region [I 80 14,aV 81 .add 80 1,I 12 81]) (.region [I 82 14,I 13 82])))))))) (.seq (aa [I 83 2,I 15 83] (.block 6 (.loop (.seq (aa [I 84 15,I 85 12,bu 86 .gtr 84 85] (aW 86 .skip (.exit 6))) (.seq (.block 7 (.region [aF 89 1 1 4,ay 90 1 89,I 91 15,I 92 15,aV 93 .sub 92 1,hL 94 90 [.t 91,.t 93]])) (.region [I 87 15,aV 88 .sub 87 1,I 15 88])))))) .ret)))) .skip)) (aa [I 95 1,I 96 3,bu 97 .add 95 96,cb 98 (.conv .u64 (.t 97)),cb 99 (.bin .shr false (.t 98) (.c (.int .u64 1))),cb 100 (.conv .i64 (.t 99)),I 16 100] (aa [I 101 16,I 102 2,bu 103 .add 101 102,I 17 103] (aa [bQ 18 0,bQ 19 0] (.seq (aa [I 104 2,I 105 16,bu 106 .gtr 104 105] (aW 106 (aa [I 107 17,I 108 3,bu 109 .sub 107 108,I 18 109] (.region [I 110 16,I 19 110])) (aa [I 111 1,I 18 111] (.region [I 112 2,I 19 112])))) Lw)))))))
def Tp:C:=(aa [c0 4 0] (aa [I 10 2,I 11 1,bu 12 .sub 10 11,I 8 12] (aa [I 13 3,I 14 2,bu 15 .sub 13 14,I 9 15] (.seq (.block 0 (.loop (.seq (aa [I 16 8,I 17 9,bu 18 .neq 16 17] (aW 18 .skip (.exit 0))) (.block 1 (aa [I 19 8,I 20 9,bu 21 .gtr 19 20] (aW 21 (aa [bk 22 2 4,I 23 2,I 24 8,bu 25 .sub 23 24,I 26 2,I 27 9,dT 28 270 [.t 22,.t 25,.t 26,.t 27]] (.region [I 29 8,I 30 9,bu 31 .sub 29 30,I 8 31])) (aa [bk 32 2 4,I 33 2,I 34 8,bu 35 .sub 33 34,I 36 2,I 37 9,bu 38 .add 36 37,I 39 8,bu 40 .sub 38 39,I 41 8,dT 42 270 [.t 32,.t 35,.t 40,.t 41]] (.region [I 43 9,I 44 8,bu 45 .sub 43 44,I 9 45])))))))) (.region [bk 46 2 4,I 47 2,I 48 8,bu 49 .sub 47 48,I 50 2,I 51 8,dT 52 270 [.t 46,.t 49,.t 50,.t 51]])))))
def Ts:C:=(aa [c0 4 0] (aa [bQ 8 0] (.block 0 (.loop (.seq (aa [I 9 8,I 10 3,bu 11 .lss 9 10] (aW 11 .skip (.exit 0))) (.seq (.block 1 (.region [aF 14 1 1 4,ay 15 1 14,I 16 1,I 17 8,bu 18 .add 16 17,I 19 2,I 20 8,bu 21 .add 19 20,hL 22 15 [.t 18,.t 21]])) (.region [I 12 8,aV 13 .add 12 1,I 8 13])))))))
def aoO:b4 aT Tr [] 2 Tryz.f199=true:=bi
def ZC:b4 aT Lr [] 3 Tryz.f231=true:=bi
def aoQ:b4 aT Tt [] 4 Tryz.f232=true:=bi
def aoM:b4 aT Tp [] 4 Tryz.f251=true:=bi
def aoP:b4 aT Ts [] 4 Tryz.f270=true:=bi
end
section
open Go Go.Pv
structure fT {α:Type} (S:List α->cT) (n:Nat) (g cr:Nat) (lc ch:List af) (lt:α->α->Bool):Prop where
 ok:∀l,eA (S l)
 same:∀l bg,l.length=n->bg.length=n->Same (S l) (S bg)
 klc:∀l,l.length=n->aH (aM (S l)) lc
 ksc:∀l,l.length=n->aH (aM (S l)) ch
 slc:cf lc=lc
 ssc:cf ch=ch
 le:n<=68719476736
 less:∀l,l.length=n->∀(i j:Nat) x y,l[i]? =some x->l[j]? =some y->bH au g (aj i::aj j::lc) (S l) fun r ak=>r= .bool (lt x y)/\ak=S l
 swap:∀l,l.length=n->2<=n->∀i j:Nat,i<n->j<n->bH au cr (aj i::aj j::ch) (S l) fun r ak=>r= .tuple []/\ak=S (ih l i j)
variable {α:Type} {S:List α->cT} {n g cr:Nat} {lc ch:List af} {lt:α->α->Bool}
def fC(g cr:Nat)(lc ch:List af):af:= .agg [.func g lc,.func cr ch]
def Mv(H:fT S n g cr lc ch lt)(l:List α)(e:l.length=n)(a b c:Nat)(v:a+c<=b)(u:b+c<=n):
  bH au 270 [fC g cr lc ch,aj a,aj b,aj c] (S l) fun r o=>r= .tuple []/\∃h,o=S h/\hn a (b+c) l h/\∀k,h[k]? =l[tX a b c k]?:=by
 have j:=H.ok l;have d:∀l m,ae (.loc m) (S l).b=none:=fun l=>(H.ok l).obj.1;have hu:∀l m cs,cK (.loc m) cs (S l).b=(S l).b++[(.loc m,cs)]:=fun l m cs=>kO (d l m);have ar:∀m,aB.loc m∉cL (S l):=kK j.obj;have hle:=H.le;refine bH.mk mixed a1 Tryz.func270 aoP Ψ j.obj fun t s=>?_;unfold Ts;simp[fC,hu,ar,c6,d,H.slc,H.ssc];refine fU (fun i (lk:List α)=>⟨[(1,aj a),(2,aj b),(3,aj c),(4,.ptr (.loc 0) 0),(8,aj i)],[(.loc 0,[.func g lc,.func cr ch])]++(S lk).b,(S lk).e,1,cL (S l)⟩) c (fun i lk=>lk.length=n/\hn a (b+c) l lk/\∀k,lk[k]? =l[tX a b i k]?) l
  (gp.obL j (Same.refl _) dl (by simp[c6,d,az,aH,Ci (H.klc l e),Ci (H.ksc l e)]) aX aX) ⟨e,.refl _,fun k=>by simp[tX];split<;>(try split)<;>(try rfl)<;>(exfalso;omega)⟩ ?_ ?_
 ·rintro lk ⟨J,U,f⟩ _;simp;refine c5.at (S lk) (.inr rfl) (H.ok lk) (H.same _ _ e J) aX aX ?_;simp[dd,bc,bf,a6];exact⟨lk,rfl,U,f⟩
 ·rintro i lk hi ⟨J,U,f⟩ _;have p:((a:Int)+i)=(a+i:Nat):=Ω
  have q:((b:Int)+i)=(b+i:Nat):=Ω
  simp[hi,c6,d,H.ssc];(repeat' first|refine ao ?_|simp);rw[p,q];refine CallDo.ob (H.swap lk J Ω (a+i) (b+i) Ω Ω) (H.ok lk) aX aX (by simp[H.ksc lk J]) ?_;rintro r o ⟨rfl,rfl⟩;refine⟨H.same _ _ J (by simp[J]),?_⟩;simp[hK,jA,cM,d];(repeat' first|refine ao ?_|simp);refine bY.rng (ih lk (a+i) (b+i)) hi ⟨by simp[J],.step U Ω Ω Ω Ω Ω Ω,fun k=>?_⟩ (gp.obL (L:=[(.loc 0,[.func g lc,.func cr ch])]) (H.ok _) (H.same _ _ e (by simp[J])) dl (by simp[c6,d,az,aH,Ci (H.klc (ih lk (a+i) (b+i)) (by simp[J])),Ci (H.ksc (ih lk (a+i) (b+i)) (by simp[J]))]) aX aX);rw[B6 _ _ _ _ Ω Ω,f,f,f];have:tX a b (i+1) k=if k=a+i then tX a b i (b+i)else if k=b+i then tX a b i (a+i)else tX a b i k:=by
   simp only[tX];repeat' split
   all_goals omega
  rw[this];split
  ·rfl
  ·split<;>rfl
section
variable (H:fT S n g cr lc ch lt)
include H
theorem fT.loc{l:List α}(m:Nat):ae (.loc m) (S l).b=none:=(H.ok l).obj.1 m
theorem fT.weak{l lk:List α}(b:l.length=n)(ab:lk.length=n){st:bp}{t':List (Nat×af)}(d:∀x∈t',Pv.get x.1 st.t=x.2/\az (nz (S lk) 1) x.2)(a:ae (.loc 0) st.b=some [.func g lc,.func cr ch])
  (c:∀k cs,ae k (S lk).b=some cs->ae k st.b=some cs) (he:∀k o,ae k (S lk).e=some o->ae k st.e=some o):
  gp (cL (S l)) st ⟨t',(.loc 0,[.func g lc,.func cr ch])::(S lk).b,(S lk).e,1,cL (S l)⟩:=
 gp.obL (L:=[(.loc 0,[.func g lc,.func cr ch])]) (H.ok _) (H.same _ _ b ab) d (by simp[a,az,aH,Ci (H.klc lk ab),Ci (H.ksc lk ab)]) c he
theorem fT.weakC{l lk:List α}(b:l.length=n)(ab:lk.length=n){t t':List (Nat×af)}{q:Nat}{o:List aB}(c:∀x∈t',Pv.get x.1 t=x.2/\az (nz (S lk) 1) x.2):
  gp (cL (S l)) ⟨t,(.loc 0,[.func g lc,.func cr ch])::(S lk).b,(S lk).e,q,o⟩ ⟨t',(.loc 0,[.func g lc,.func cr ch])::(S lk).b,(S lk).e,1,cL (S l)⟩:=
 H.weak b ab c (by simp[ae]) (fun k cs a=>by
  cases k with
  |loc m=>rw[H.loc m]at a;cases a
  |obj m=>simpa[ae]using a) (fun _ _ a=>a)
theorem fT.call{lk:List α}(J:lk.length=n){f:Nat}{args:List af}{R:af->List α->Prop}(i:bH au f args (S lk) fun r c=> ∃a,c=S a/\R r a)(bt:∀r a,R r a->a.length=n)(ab:aH (aM (S lk)) args){t:List (Nat×af)}{aY:List af}{o:List aB}{d:be Nat}{K:bp->Prop}
  (h:∀r a,R r a->K ⟨e6 d r t,(.loc 0,aY)::(S a).b,(S a).e,1,o++cL (S a)⟩):CallDo au f args ⟨t,(.loc 0,aY)::(S lk).b,(S lk).e,1,o⟩ d K:=by
 refine CallDo.ob i (H.ok lk) (fun k cs b=>?_) (fun _ _ b=>b) ab ?_
 ·cases k with
  |loc m=>rw[H.loc m]at b;cases b
  |obj m=>simpa[ae]using b
 ·rintro r c ⟨a,rfl,e⟩;refine⟨H.same _ _ J (bt _ _ e),?_⟩;have g:cM (S lk).b ((.loc 0,aY)::(S lk).b)=[(.loc 0,aY)]:=by have:=jA (S lk).b [(aB.loc 0,aY)] (S lk).b;rw[hK]at this;simpa[cM,H.loc]using this
  have j:cM (S lk).e (S lk).e=[]:=hK _;have:=h _ _ e;simp only[g,j];exact this
theorem fT.doSwap{lk:List α}(J:lk.length=n)(i j:Nat)(hi:i<n)(c:j<n)(U:2<=n){t:List (Nat×af)}{aY:List af}{o:List aB}{d:be Nat}{K:bp->Prop}
  (h:K ⟨e6 d (.tuple []) t,(.loc 0,aY)::(S (ih lk i j)).b,(S (ih lk i j)).e,1,o++cL (S (ih lk i j))⟩):CallDo au cr (aj i::aj j::ch) ⟨t,(.loc 0,aY)::(S lk).b,(S lk).e,1,o⟩ d K:=
 H.call J (R:=fun r a=>r= .tuple []/\a=ih lk i j) ((H.swap lk J U i j hi c).mono fun r g ⟨b,f⟩=>⟨_,f,b,rfl⟩) (fun r a ⟨_,e⟩=>by rw[e];simp[J]) (by simp[az,aH,H.ksc lk J]) (by rintro r a ⟨rfl,rfl⟩;exact h)
theorem fT.doLess{lk:List α}(J:lk.length=n)(i j:Nat){x y:α}(hi:lk[i]? =some x)(c:lk[j]? =some y){t:List (Nat×af)}{aY:List af}{o:List aB}{d:be Nat}{K:bp->Prop}
  (h:K ⟨e6 d (.bool (lt x y)) t,(.loc 0,aY)::(S lk).b,(S lk).e,1,o++cL (S lk)⟩):CallDo au g (aj i::aj j::lc) ⟨t,(.loc 0,aY)::(S lk).b,(S lk).e,1,o⟩ d K:=
 H.call J (R:=fun r a=>r= .bool (lt x y)/\a=lk) ((H.less lk J i j x y hi c).mono fun r k ⟨b,f⟩=>⟨_,f,b,rfl⟩) (fun r a ⟨_,e⟩=>by rw[e];exact J) (by simp[az,aH,H.klc lk J]) (by rintro r a ⟨rfl,rfl⟩;exact h)
theorem fT.doFn{lk:List α}(J:lk.length=n){f:Nat}{args:List af}{R:List α->Prop}(i:bH au f args (S lk) fun r b=>r= .tuple []/\∃a,b=S a/\R a)(bt:∀a,R a->a.length=n)(ab:aH (aM (S lk)) args){t:List (Nat×af)}{aY:List af}{o:List aB}{d:be Nat}{K:bp->Prop}
  (h:∀a,R a->K ⟨e6 d (.tuple []) t,(.loc 0,aY)::(S a).b,(S a).e,1,o++cL (S a)⟩):CallDo au f args ⟨t,(.loc 0,aY)::(S lk).b,(S lk).e,1,o⟩ d K:=
 H.call J (R:=fun r a=>r= .tuple []/\R a) (i.mono fun r b ⟨e,a,j,c⟩=>⟨a,j,e,c⟩) (fun r a h=>bt a h.2) ab (by rintro r a ⟨rfl,g⟩;exact h a g)
theorem fT.kdata{lk:List α}(J:lk.length=n):az (aM (S lk)) (fC g cr lc ch):=by simp[fC,az,aH,H.klc lk J,H.ksc lk J]
theorem fT.ret{l lk:List α}(c:l.length=n)(J:lk.length=n){Q:af->cT->Prop}{e:Exit}(he:e= .ret\/e= .normal){t:List (Nat×af)}{aY:List af}{q:Nat}{o:List aB}(b:Q (.tuple []) (S lk)):c5 [] (S l) Q e ⟨t,(.loc 0,aY)::(S lk).b,(S lk).e,q,o⟩:=by
 refine c5.at (S lk) he (H.ok lk) (H.same _ _ c J) (fun k cs a=>?_) (fun _ _ a=>a) ?_
 ·cases k with
  |loc m=>rw[H.loc m]at a;cases a
  |obj m=>simpa[ae]using a
 ·simp[dd,bc,a6,az,aH,b]
end
def jn(H:fT S n g cr lc ch lt):b7 (fC g cr lc ch)=fC g cr lc ch:=by simp[fC,b7,cf,H.slc,H.ssc]
def ji:af.agg [.func g lc,.func cr ch]=fC g cr lc ch:=rfl
def ajl(H:fT S n g cr lc ch lt)(l:List α)(f:l.length=n)(a m b:Nat)(G:a<m)(A:m<b)(E:b<=n):
  bH au 251 [fC g cr lc ch,aj a,aj m,aj b] (S l) fun r y=>r= .tuple []/\∃c,y=S c/\hn a b l c/\∀k,c[k]? =l[iY a m b k]?:=by
 have u:=H.ok l;have s:∀l m,ae (.loc m) (S l).b=none:=fun l=>(H.ok l).obj.1;have hu:∀l m cs,cK (.loc m) cs (S l).b=(S l).b++[(.loc m,cs)]:=fun l m cs=>kO (s l m);have ar:∀m,aB.loc m∉cL (S l):=kK u.obj;have hle:=H.le;refine bH.mk mixed a1 Tryz.func251 aoM Ψ u.obj fun F B=>?_;unfold Tp;simp[fC,hu,ar,c6,s];(repeat' first|refine ao ?_|simp[hu,ar,c6,s]);refine o6 (fun(x:(Nat×Nat)×List α)=>⟨[(2,aj m),(4,.ptr (.loc 0) 0),(8,aj x.1.1),(9,aj x.1.2)],(.loc 0,[.func g lc,.func cr ch])::(S x.2).b,(S x.2).e,1,cL (S l)⟩) (fun x=>x.1.1+x.1.2)
  (fun x=>x.2.length=n/\0<x.1.1/\0<x.1.2/\a+x.1.1<=m/\m+x.1.2<=b/\hn a b l x.2/\∀k,l[iY a m b k]? =x.2[iY (m-x.1.1) m (m+x.1.2) k]?) ((m-a,b-m),l)
  (H.weak f f (by simp[az];omega) (by simp[c6,s]) aX aX) ⟨f,by simp;omega,by simp;omega,by simp;omega,by simp;omega,.refl _,fun k=>by simp[show m-(m-a)=a by omega,show m+(b-m)=b by omega]⟩ ?_
 rintro⟨⟨i,j⟩,lk⟩ ⟨J,hi,v,t,w,U,q⟩ _;simp only at J hi v t w U q;simp[ae];((repeat' first|refine ao ?_|simp[ae]|((first|apply ct|apply cz|apply cy)<;>intro h<;>try simp at h))<;>(try exact c3))
 ·have p:((m:Int)-i)=(m-i:Nat):=Ω
  simp only[jn H,H.slc,H.ssc,p,ji];refine H.doFn J (Mv H lk J (m-i) m j Ω Ω) (fun c h=>by rw[h.1.length];exact J) (by simp[aH,az,H.kdata J]) ?_;rintro c ⟨d,o⟩;have e:c.length=n:=by rw[d.length];exact J
  simp;((repeat' first|refine ao ?_|simp|((first|apply ct|apply cz|apply cy)<;>intro h<;>try simp at h))<;>(try exact c3));refine bY.whl ((i-j,j),c) d6 ⟨e,by simp;omega,v,by simp;omega,w,U.trans (d.mono Ω Ω),fun k=>?_⟩ (H.weakC f e (by simp[az];omega));rw[q,o];congr 1;simp only[iY,tX];repeat' split
  all_goals omega
 ·have p:((m:Int)-i)=(m-i:Nat):=Ω
  have z:((m:Int)+j-i)=(m+j-i:Nat):=Ω
  simp only[jn H,H.slc,H.ssc,p,z,ji];refine H.doFn J (Mv H lk J (m-i) (m+j-i) i Ω Ω) (fun c h=>by rw[h.1.length];exact J) (by simp[aH,az,H.kdata J]) ?_;rintro c ⟨d,o⟩;have e:c.length=n:=by rw[d.length];exact J
  simp;(repeat' first|refine ao ?_|simp);refine bY.whl ((i,j-i),c) d6 ⟨e,hi,by simp;omega,t,by simp;omega,U.trans (d.mono Ω Ω),fun k=>?_⟩ (H.weakC f e (by simp[az];omega));rw[q,o];congr 1;simp only[iY,tX];repeat' split
  all_goals omega
 ·have p:((m:Int)-i)=(m-i:Nat):=Ω
  simp only[jn H,H.slc,H.ssc,p,ji];refine H.doFn J (Mv H lk J (m-i) m i Ω Ω) (fun c h=>by rw[h.1.length];exact J) (by simp[aH,az,H.kdata J]) ?_;rintro c ⟨d,o⟩;have e:c.length=n:=by rw[d.length];exact J
  simp;refine H.ret f e (.inr rfl) ⟨rfl,c,rfl,U.trans (d.mono Ω Ω),fun k=>?_⟩;rw[q,o];congr 1;simp only[iY,tX];repeat' split
  all_goals omega
end
section
open Go Go.Pv
variable {α:Type} {S:List α->cT} {n g cr:Nat} {lc ch:List af} {lt:α->α->Bool}
def vz(lt:α->α->Bool)(a b j:Nat)(l:List α):Prop:= ∀p q x y,a<=p->p<q->q<b->q≠j->l[p]? =some x->l[q]? =some y->lt y x=false
def vz.swap(n:rX lt){a b j:Nat}{l:List α}(h:vz lt a b (j+1) l)(s:a<=j)(t:j+1<b)(r:j+1<l.length){x y:α}(g:l[j+1]? =some x)(d:l[j]? =some y)(m:lt x y=true):vz lt a b j (ih l (j+1) j):=by
 intro p q u v i k f o hu c;rw[B6 _ _ _ _ r Ω]at hu c;rw[if_neg (by omega:¬(q=j))]at c;split at c
 ·rename_i e;subst e;rw[d]at c;cases c;split at hu
  ·omega
  ·split at hu
   ·rw[g]at hu;cases hu;exact n.asym _ _ m
   ·exact h p j u y i Ω Ω Ω hu d
 ·split at hu
  ·rename_i e;subst e;rw[d]at hu;cases hu;exact h j q y v s Ω f Ω d c
  ·split at hu
   ·rename_i e;subst e;rw[g]at hu;cases hu;exact h (p+1) q x v Ω Ω f Ω g c
   ·exact h p q u v i k f Ω hu c
def vz.done(k:rX lt){a b j:Nat}{l:List α}(h:vz lt a b (j+1) l)(r:a<=j)(s:j+1<b){x y:α}(n:l[j+1]? =some x)(g:l[j]? =some y)(d:lt x y=false):ga lt a b l:=by
 intro p q u v f i m hu c;by_cases e:q=j+1
 ·subst e;rw[n]at c;cases c;by_cases o:p=j
  ·subst o;rw[g]at hu;cases hu;exact d
  ·exact k.ntr _ _ _ (h p j u y f Ω Ω Ω hu g) d
 ·exact h p q u v f i m e hu c
def vz.first{a b:Nat}{l:List α}(h:vz lt a b a l):ga lt a b l:=fun p q u v d c e hu f=>h p q u v d c e Ω hu f
def ga.but{a b:Nat}{l:List α}(h:ga lt a b l):vz lt a (b+1) b l:=fun p q u v d c f g hu e=>h p q u v d c Ω hu e
def VK(H:fT S n g cr lc ch lt)(B:rX lt)(l:List α)(d:l.length=n)(a b:Nat)(Q:a<=b)(W:b<=n):
  bH au 231 [fC g cr lc ch,aj a,aj b] (S l) fun r O=>r= .tuple []/\∃t,O=S t/\hn a b l t/\ga lt a b t:=by
 have E:=H.ok l;have s:∀l m,ae (.loc m) (S l).b=none:=fun l=>(H.ok l).obj.1;have hu:∀l m cs,cK (.loc m) cs (S l).b=(S l).b++[(.loc m,cs)]:=fun l m cs=>kO (s l m);have ar:∀m,aB.loc m∉cL (S l):=kK E.obj;have hle:=H.le;refine bH.mk mixed a1 Tryz.func231 ZC Ψ E.obj fun X R=>?_;unfold Lr;simp[fC,hu,ar,c6,s];(repeat' first|refine ao ?_|simp[hu,ar,c6,s]);refine o6 (fun(x:Nat×List α)=>⟨[(1,aj a),(2,aj b),(3,.ptr (.loc 0) 0),(6,aj x.1)],(.loc 0,[.func g lc,.func cr ch])::(S x.2).b,(S x.2).e,1,cL (S l)⟩) (fun x=>b+1-x.1)
  (fun x=>x.2.length=n/\a<x.1/\x.1<=b+1/\(x.1<=b\/x.1=a+1)/\hn a b l x.2/\ga lt a x.1 x.2) (a+1,l)
  (H.weak d d dl (by simp[c6,s]) aX aX) ⟨d,Ψ,by simp;omega,.inr rfl,.refl _,fun i j x y J U e=>by simp at e;omega⟩ ?_
 rintro⟨i,lk⟩ ⟨J,G,P,F,U,e⟩ _;simp only at J G P F U e;simp;((repeat' first|refine ao ?_|simp|((first|apply ct|apply cz|apply cy)<;>intro h<;>try simp at h))<;>(try exact c3))
 ·refine o6 (fun(x:Nat×List α)=>⟨[(1,aj a),(2,aj b),(3,.ptr (.loc 0) 0),(6,aj i),(7,aj x.1)],(.loc 0,[.func g lc,.func cr ch])::(S x.2).b,(S x.2).e,1,cL (S l)⟩) (fun x=>x.1)
   (fun x=>x.2.length=n/\a<=x.1/\x.1<=i/\hn a b l x.2/\vz lt a (i+1) x.1 x.2) (i,lk)
   (H.weakC d J dl) ⟨J,by simp;omega,Ψ,U,ga.but e⟩ ?_
  rintro⟨j,f⟩ ⟨c,v,u,o,k⟩ _;simp only at c v u o k;simp[ae];((repeat' first|refine ao ?_|simp[ae]|((first|apply ct|apply cz|apply cy)<;>intro h<;>try simp at h))<;>(try exact c3))
  ·obtain⟨dh,rfl⟩:∃dh,j=dh+1:=⟨j-1,Ω⟩;obtain⟨x,w⟩:∃x,f[dh+1]? =some x:=⟨_,cl Ω⟩;obtain⟨y,z⟩:∃y,f[dh]? =some y:=⟨_,cl Ω⟩;have N:(((dh+1:Nat):Int)-1)=(dh:Nat):=Ω
   rw[H.slc,N];refine H.doLess c (dh+1) dh w z ?_;simp;cases A:lt x y with
   |true=>
    simp[ae];(repeat' first|refine ao ?_|simp[ae]);have L:((dh:Int)+1)=(dh+1:Nat):=Ω
    rw[H.ssc,L];refine H.doSwap c (dh+1) dh Ω Ω Ω ?_;simp;(repeat' first|refine ao ?_|simp);refine bY.whl (dh,ih f (dh+1) dh) Ψ ⟨by simp[c],by simp;omega,by simp;omega,.step o Ω Ω Ω Ω Ω Ω,k.swap B Ω Ω Ω w z A⟩ (H.weakC d (by simp[c]) dl)
   |false=>simp;((repeat' first|refine ao ?_|simp|((first|apply ct|apply cz|apply cy)<;>intro h<;>try simp at h))<;>(try exact c3));refine bY.whl (i+1,f) d6 ⟨c,by simp;omega,by simp;omega,by simp;omega,o,k.done B Ω Ω w z A⟩ (H.weakC d c dl)
  ·obtain rfl:j=a:=Ω
   refine bY.whl (i+1,f) d6 ⟨c,by simp;omega,by simp;omega,by simp;omega,o,k.first⟩ (H.weakC d c dl)
 ·refine H.ret d J (.inr rfl) ⟨rfl,lk,rfl,U,fun p q x y M K V=>e p q x y M K Ω⟩
end
section
open Go Go.Pv
variable {α:Type} [Inhabited α] {S:List α->cT} {n g cr:Nat} {lc ch:List af} {lt:α->α->Bool}
def AJ{d:Array α}{i:Nat}(h:i<d.size):d.toList[i]? =some d[i]!:=by simp[getElem!_pos,h]
def IL(d:Array α){i j:Nat}(hi:i<d.size)(a:j<d.size):ih d.toList i j=(Sort.swp d i j).toList:=by simp[ih,Sort.swp,AJ hi,AJ a]
section
variable (H:fT S n g cr lc ch lt)
include H
theorem fT.swapA{d:Array α}(J:d.size=n)(U:2<=n)(i j:Nat)(hi:i<n)(b:j<n){t:List (Nat×af)}{aY:List af}{o:List aB}{a:be Nat}{K:bp->Prop}
  (h:∀o,K ⟨e6 a (.tuple []) t,(.loc 0,aY)::(S (Sort.swp d i j).toList).b,(S (Sort.swp d i j).toList).e,1,o⟩):CallDo au cr (.int .i64 i:: .int .i64 j::ch) ⟨t,(.loc 0,aY)::(S d.toList).b,(S d.toList).e,1,o⟩ a K:=by
 refine H.doSwap (by simpa using J) i j hi b U ?_;rw[IL d Ω Ω];exact h _
theorem fT.lessA{d:Array α}(J:d.size=n)(i j:Nat)(hi:i<n)(b:j<n){t:List (Nat×af)}{aY:List af}{o:List aB}{a:be Nat}{K:bp->Prop}
  (h:∀o,K ⟨e6 a (.bool (lt d[i]! d[j]!)) t,(.loc 0,aY)::(S d.toList).b,(S d.toList).e,1,o⟩):CallDo au g (.int .i64 i:: .int .i64 j::lc) ⟨t,(.loc 0,aY)::(S d.toList).b,(S d.toList).e,1,o⟩ a K:=
 H.doLess (by simpa using J) i j (AJ Ω) (AJ Ω) (h _)
theorem fT.fnA{d d2:Array α}(J:d.size=n)(U:d2.size=n){f:Nat}{args:List af}{r:af}(j:bH au f args (S d.toList) fun a g=>a=r/\g=S d2.toList)(ab:aH (aM (S d.toList)) args){t:List (Nat×af)}{aY:List af}{o:List aB}{c:be Nat}{K:bp->Prop}
  (h:∀o,K ⟨e6 c r t,(.loc 0,aY)::(S d2.toList).b,(S d2.toList).e,1,o⟩):CallDo au f args ⟨t,(.loc 0,aY)::(S d.toList).b,(S d.toList).e,1,o⟩ c K:=
 H.call (by simpa using J) (R:=fun a b=>a=r/\b=d2.toList) (j.mono fun r g ⟨i,k⟩=>⟨_,k,i,rfl⟩) (fun r b ⟨_,e⟩=>by rw[e];simpa using U) ab (by rintro a b ⟨rfl,rfl⟩;exact h _)
end
section
variable (H:fT S n g cr lc ch lt)
include H
theorem fT.loopA{β:Type}{d:List α}(m:d.length=n){t:List (Nat×af)}{b:List (aB×List af)}{e:List (aB×dW)}{q:Nat}{o:List aB}(h:List Nat)(cs:β->List (Nat×af))(A:β->Array α)(μ:β->Nat)(f:β->Prop)(a0:β)(j:(A a0).size=n)(l:f a0)
  (i:ae (.loc 0) b=some [.func g lc,.func cr ch]) (s:∀k cs,ae k (S (A a0).toList).b=some cs->ae k b=some cs) (he:∀k o,ae k (S (A a0).toList).e=some o->ae k e=some o)
  (u:∀x∈wo t h++cs a0,Pv.get x.1 t=x.2/\az (nz (S (A a0).toList) 1) x.2) {c:C} {Q:Exit->bp->Prop}
  (p:∀a,f a->df au (cL (S d)) c (bY (cL (S d)) (Dc (fun a=>⟨wo t h++cs a,(.loc 0,[.func g lc,.func cr ch])::(S (A a).toList).b,(S (A a).toList).e,1,cL (S d)⟩) μ f) (μ a) Q) ⟨wo t h++cs a,(.loc 0,[.func g lc,.func cr ch])::(S (A a).toList).b,(S (A a).toList).e,1,cL (S d)⟩):
  df au (cL (S d)) (.loop c) Q ⟨t,b,e,q,o⟩:=
 o6 (fun a=>⟨wo t h++cs a,(.loc 0,[.func g lc,.func cr ch])::(S (A a).toList).b,(S (A a).toList).e,1,cL (S d)⟩) μ f a0 (H.weak m (by simpa using j) u i s he) l fun a r _=>p a r
theorem fT.callA0{lk:List α}(J:lk.length=n){f:Nat}{args:List af}{R:af->List α->Prop}(i:bH au f args (S lk) fun r c=> ∃a,c=S a/\R r a)(bt:∀r a,R r a->a.length=n)(ab:aH (aM (S lk)) args){t:List (Nat×af)}{aY:List af}{o:List aB}{d:be Nat}{K:bp->Prop}
  (h:∀r a,R r a->∀o,K ⟨e6 d r t,(.loc 0,aY)::(S a).b,(S a).e,1,o⟩):CallDo au f args ⟨t,(S lk).b++[(.loc 0,aY)],(S lk).e,1,o⟩ d K:=by
 refine CallDo.ob i (H.ok lk) (fun k cs b=>by rw[c6,b]) (fun _ _ b=>b) ab ?_;rintro r c ⟨a,rfl,e⟩;refine⟨H.same _ _ J (bt _ _ e),?_⟩;have g:cM (S lk).b ((S lk).b++[(.loc 0,aY)])=[(.loc 0,aY)]:=by rw[jA,hK];simp[cM,H.loc]
 have j:cM (S lk).e (S lk).e=[]:=hK _;have:=h _ _ e (o++cL (S a));simp only[g,j];exact this
theorem fT.swapA0{d:Array α}(J:d.size=n)(U:2<=n)(i j:Nat)(hi:i<n)(f:j<n){t:List (Nat×af)}{aY:List af}{o:List aB}{b:be Nat}{K:bp->Prop}
  (h:∀o,K ⟨e6 b (.tuple []) t,(.loc 0,aY)::(S (Sort.swp d i j).toList).b,(S (Sort.swp d i j).toList).e,1,o⟩):CallDo au cr (.int .i64 i:: .int .i64 j::ch) ⟨t,(S d.toList).b++[(.loc 0,aY)],(S d.toList).e,1,o⟩ b K:=by
 refine H.callA0 (by simpa using J) (R:=fun r a=>r= .tuple []/\a=(Sort.swp d i j).toList) ((H.swap d.toList (by simpa using J) U i j hi f).mono fun r k ⟨c,g⟩=>⟨_,g,c,IL d Ω Ω⟩) (fun r a ⟨_,e⟩=>by rw[e];simp[Sort.swp,J]) (by simp[az,aH,H.ksc d.toList (by simpa using J)]) ?_;rintro r a ⟨rfl,rfl⟩ o;exact h o
theorem fT.retA{l:List α}{d:Array α}(b:l.length=n)(J:d.size=n){Q:af->cT->Prop}{e:Exit}(he:e= .ret\/e= .normal){t:List (Nat×af)}{aY:List af}{q:Nat}{o:List aB}(a:Q (.tuple []) (S d.toList)):c5 [] (S l) Q e ⟨t,(.loc 0,aY)::(S d.toList).b,(S d.toList).e,q,o⟩:=H.ret b (by simpa using J) he a
theorem fT.retR{b:List bW}{l:List α}{d:Array α}(c:l.length=n)(J:d.size=n){Q:af->cT->Prop}{e:Exit}(he:e= .ret\/e= .normal){t:List (Nat×af)}{aY:List af}{q:Nat}{o:List aB}(h:dd ⟨t,(.loc 0,aY)::(S d.toList).b,(S d.toList).e,q,o⟩ b fun r=>az (aM (S d.toList)) r/\Q r (S d.toList)):c5 b (S l) Q e ⟨t,(.loc 0,aY)::(S d.toList).b,(S d.toList).e,q,o⟩:=by
 refine c5.at (S d.toList) he (H.ok _) (H.same _ _ c (by simpa using J)) (fun k cs a=>?_) (fun _ _ a=>a) h;cases k with
 |loc m=>rw[H.loc m]at a;cases a
 |obj m=>simpa[ae]using a
end
def hR(d:Array α)(i j:Nat):(Sort.swp d i j).size=d.size:=by simp[Sort.swp]
end
section
open Go Go.Pv
def S9:C:=(aa [bQ 2 0] (.seq (.cond (.c (.bool false)) (aa [I 3 0,cb 4 (.conv .u32 (.t 3)),cY 5 236 4,I 2 5] .ret) .skip) (aa [I 6 0,cY 7 237 6,I 2 7] .ret)))
def Ls:C:=(aa [bk 91 2 4,I 92 1,I 93 2,I 94 11,dT 95 244 [.t 91,.t 92,.t 93,.t 94],I 90 95,cV 96 0 90,cV 97 1 90,I 14 96,I 15 97] (aa [I 98 15,I 9 98] (aa [I 99 14,I 100 1,bu 101 .sub 99 100,I 102 2,I 103 14,bu 104 .sub 102 103,I 16 101,I 17 104] (aa [I 105 10,aV 106 .quo 105 8,I 18 106] (aa [I 107 16,I 108 17,bu 109 .lss 107 108] (aW 109 (aa [I 110 16,I 111 18,bu 112 .geq 110 111,I 8 112] (aa [bk 113 2 4,I 114 1,I 115 14,I 116 3,dT 117 214 [.t 113,.t 114,.t 115,.t 116]] (.region [I 118 14,aV 119 .add 118 1,I 1 119]))) (aa [I 120 17,I 121 18,bu 122 .geq 120 121,I 8 122] (aa [bk 123 2 4,I 124 14,aV 125 .add 124 1,I 126 2,I 127 3,dT 128 214 [.t 123,.t 125,.t 126,.t 127]] (.region [I 129 14,I 2 129])))))))))
def Dx:C:=(.seq (aa [I 73 1,aV 74 .gtr 73 0,I 75 74,ax 75 true (aF 76 0 1 4),ax 75 true (ay 77 1 76),cg 75 true 78 1,ax 75 true (aV 79 .sub 78 1),cg 75 true 80 11,ax 75 true (hL 81 77 [.t 79,.t 80]),ax 75 true (cO 82 81),ei 83 75 82] (aW 83 (aa [bk 84 2 4,I 85 1,I 86 2,I 87 11,dT 88 243 [.t 84,.t 85,.t 86,.t 87],I 13 88] (aa [I 89 13,I 1 89] (.exit 1))) .skip)) Ls)
def Lt:C:=(.seq (aa [I 61 8,I 62 61,cg 62 true 63 9,ei 64 62 63,I 65 64,cg 65 true 66 12,ax 65 true (aV 67 .eql 66 1),ei 68 65 67] (aW 68 (aa [bk 69 2 4,I 70 1,I 71 2,dT 72 242 [.t 69,.t 70,.t 71]] (aW 72 .ret .skip)) .skip)) Dx)
def Lu:C:=(aa [bk 43 2 4,I 44 1,I 45 2,dT 46 240 [.t 43,.t 44,.t 45],I 42 46,cV 47 0 42,cV 48 1 42,I 11 47,I 12 48] (.seq (aa [I 49 12,aV 50 .eql 49 2] (aW 50 (aa [bk 51 2 4,I 52 1,I 53 2,dT 54 241 [.t 51,.t 52,.t 53]] (aa [I 55 2,aV 56 .sub 55 1,I 57 11,I 58 1,bu 59 .sub 57 58,bu 60 .sub 56 59,I 11 60] (.region [bQ 12 1]))) .skip)) Lt))
def Tn:C:=(aa [c0 4 0] (aa [bz 8 true] (aa [bz 9 true] (.block 0 (.loop (.block 1 (aa [I 19 2,I 20 1,bu 21 .sub 19 20,I 10 21] (.seq (aa [I 22 10,aV 23 .leq 22 12] (aW 23 (aa [bk 24 2 4,I 25 1,I 26 2,dT 27 231 [.t 24,.t 25,.t 26]] .ret) .skip)) (.seq (aa [I 28 3,aV 29 .eql 28 0] (aW 29 (aa [bk 30 2 4,I 31 1,I 32 2,dT 33 238 [.t 30,.t 31,.t 32]] .ret) .skip)) (.seq (aa [I 34 8,cO 35 34] (aW 35 (aa [bk 36 2 4,I 37 1,I 38 2,dT 39 239 [.t 36,.t 37,.t 38]] (.region [I 40 3,aV 41 .sub 40 1,I 3 41])) .skip)) Lu))))))))))
def Ta:C:=(aa [bQ 2 0] (.seq (aa [I 3 0,cb 4 (.bin .geq false (.t 3) (.c (.int .u64 4294967296)))] (aW 4 (aa [I 5 0,cb 6 (.bin .shr false (.t 5) (.c (.int .u64 32))),I 0 6] (.region [bQ 2 32])) .skip)) (.seq (aa [I 7 0,cb 8 (.bin .geq false (.t 7) (.c (.int .u64 65536)))] (aW 8 (aa [I 9 0,cb 10 (.bin .shr false (.t 9) (.c (.int .u64 16))),I 0 10] (.region [I 11 2,aV 12 .add 11 16,I 2 12])) .skip)) (.seq (aa [I 13 0,cb 14 (.bin .geq false (.t 13) (.c (.int .u64 256)))] (aW 14 (aa [I 15 0,cb 16 (.bin .shr false (.t 15) (.c (.int .u64 8))),I 0 16] (.region [I 17 2,aV 18 .add 17 8,I 2 18])) .skip)) (aa [I 19 2,I 20 0,cb 21 (.conv .u8 (.t 20)),cb 22 (.sidx (.c (.str QI)) (.t 21)),cb 23 (.conv .i64 (.t 22)),bu 24 .add 19 23,I 2 24] .ret)))))
def Te:C:=(aa [c0 3 0] (aa [I 11 1,I 6 11] (aa [bQ 7 0] (aa [I 12 2,I 13 1,bu 14 .sub 12 13,I 8 14] (.seq (aa [I 15 8,aV 16 .sub 15 1,aV 17 .quo 16 2,I 9 17] (.block 0 (.loop (.seq (aa [I 18 9,aV 19 .geq 18 0] (aW 19 .skip (.exit 0))) (.seq (.block 1 (.region [bk 22 2 3,I 23 9,I 24 8,I 25 6,dT 26 252 [.t 22,.t 23,.t 24,.t 25]])) (.region [I 20 9,aV 21 .sub 20 1,I 9 21])))))) (aa [I 27 8,aV 28 .sub 27 1,I 10 28] (.block 2 (.loop (.seq (aa [I 29 10,aV 30 .geq 29 0] (aW 30 .skip (.exit 2))) (.seq (.block 3 (aa [aF 33 1 1 3,ay 34 1 33,I 35 6,I 36 6,I 37 10,bu 38 .add 36 37,hL 39 34 [.t 35,.t 38]] (.region [bk 40 2 3,I 41 7,I 42 10,I 43 6,dT 44 252 [.t 40,.t 41,.t 42,.t 43]]))) (.region [I 31 10,aV 32 .sub 31 1,I 10 32])))))))))))
def Tc:C:=(aa [c0 3 0] (aa [I 11 2,I 12 1,bu 13 .sub 11 12,I 6 13] (aa [I 14 6,aV 15 .geq 14 8] (aW 15 (aa [I 16 6,cb 17 (.conv .u64 (.t 16)),dt (.alloc 7 (some 902) (.int .u64 0)),bV 1 7 17] (aa [I 18 6,cY 19 253 18,I 8 19] (aa [I 20 1,I 21 6,aV 22 .quo 21 4,aV 23 .mul 22 2,bu 24 .add 20 23,aV 25 .sub 24 1,I 9 25] (.block 0 (.loop (.seq (aa [I 26 9,I 27 1,I 28 6,aV 29 .quo 28 4,aV 30 .mul 29 2,bu 31 .add 27 30,aV 32 .add 31 1,bu 33 .leq 26 32] (aW 33 .skip (.exit 0))) (.seq (.block 1 (aa [cY 36 254 7,I 37 8,cb 38 (.bin .sub true (.t 37) (.c (.int .u64 1))),bu 39 .and 36 38,cb 40 (.conv .i64 (.t 39)),I 10 40] (.seq (aa [I 41 10,I 42 6,bu 43 .geq 41 42] (aW 43 (.region [I 44 10,I 45 6,bu 46 .sub 44 45,I 10 46]) .skip)) (.region [aF 47 1 1 3,ay 48 1 47,I 49 9,I 50 1,I 51 10,bu 52 .add 50 51,hL 53 48 [.t 49,.t 52]])))) (.region [I 34 9,aV 35 .add 34 1,I 9 35])))))))) .skip))))
def Td:C:=(aa [c0 3 0,bQ 6 0,bQ 7 0] (aa [I 13 2,I 14 1,bu 15 .sub 13 14,I 8 15] (aa [dt (.alloc 9 (some 901) (.int .i64 0))] (aa [I 16 1,I 17 8,aV 18 .quo 17 4,aV 19 .mul 18 1,bu 20 .add 16 19,I 10 20] (aa [I 21 1,I 22 8,aV 23 .quo 22 4,aV 24 .mul 23 2,bu 25 .add 21 24,I 11 25] (aa [I 26 1,I 27 8,aV 28 .quo 27 4,aV 29 .mul 28 3,bu 30 .add 26 29,I 12 30] (.seq (aa [I 31 8,aV 32 .geq 31 8] (aW 32 (.seq (aa [I 33 8,aV 34 .geq 33 50] (aW 34 (aa [bk 35 2 3,I 36 10,dT 37 255 [.t 35,.t 36,.t 9],I 10 37] (aa [bk 38 2 3,I 39 11,dT 40 255 [.t 38,.t 39,.t 9],I 11 40] (.region [bk 41 2 3,I 42 12,dT 43 255 [.t 41,.t 42,.t 9],I 12 43]))) .skip)) (.region [bk 44 2 3,I 45 10,I 46 11,I 47 12,dT 48 256 [.t 44,.t 45,.t 46,.t 47,.t 9],I 11 48])) .skip)) (aa [ay 49 1 9] (.block 0 (aa [aV 52 .eql 49 0,I 51 52] (aW 51 (aa [I 53 11,I 6 53,bQ 7 1] .ret) (aa [aV 55 .eql 49 12,I 54 55] (aW 54 (aa [I 56 11,I 6 56,bQ 7 2] .ret) (aa [I 50 11,I 6 50,bQ 7 0] .ret))))))))))))))
def To:C:=(aa [c0 3 0] (aa [I 8 1,I 6 8] (aa [I 9 2,aV 10 .sub 9 1,I 7 10] (.block 0 (.loop (.seq (aa [I 11 6,I 12 7,bu 13 .lss 11 12] (aW 13 .skip (.exit 0))) (.block 1 (aa [aF 14 1 1 3,ay 15 1 14,I 16 6,I 17 7,hL 18 15 [.t 16,.t 17]] (aa [I 19 6,aV 20 .add 19 1,I 6 20] (.region [I 21 7,aV 22 .sub 21 1,I 7 22]))))))))))
def Tj:C:=(aa [c0 3 0,bz 6 false] (aa [I 11 1,aV 12 .add 11 1,I 7 12] (.seq (aa [bQ 8 0] (.block 0 (.loop (.seq (aa [I 13 8,aV 14 .lss 13 5] (aW 14 .skip (.exit 0))) (.seq (.block 1 (.seq (.block 2 (.loop (.seq (aa [I 17 7,I 18 2,bu 19 .lss 17 18,I 20 19,ax 20 true (aF 21 0 1 3),ax 20 true (ay 22 1 21),cg 20 true 23 7,cg 20 true 24 7,ax 20 true (aV 25 .sub 24 1),ax 20 true (hL 26 22 [.t 23,.t 25]),ax 20 true (cO 27 26),ei 28 20 27] (aW 28 .skip (.exit 2))) (.block 3 (.region [I 29 7,aV 30 .add 29 1,I 7 30]))))) (.seq (aa [I 31 7,I 32 2,bu 33 .eql 31 32] (aW 33 (aa [bz 6 true] .ret) .skip)) (.seq (aa [I 34 2,I 35 1,bu 36 .sub 34 35,aV 37 .lss 36 50] (aW 37 (aa [bz 6 false] .ret) .skip)) (aa [aF 38 1 1 3,ay 39 1 38,I 40 7,I 41 7,aV 42 .sub 41 1,hL 43 39 [.t 40,.t 42]] (.seq (aa [I 44 7,I 45 1,bu 46 .sub 44 45,aV 47 .geq 46 2] (aW 47 (aa [I 48 7,aV 49 .sub 48 1,I 9 49] (.block 4 (.loop (.seq (aa [I 50 9,aV 51 .geq 50 1] (aW 51 .skip (.exit 4))) (.seq (.block 5 (.seq (aa [aF 54 0 1 3,ay 55 1 54,I 56 9,I 57 9,aV 58 .sub 57 1,hL 59 55 [.t 56,.t 58],cO 60 59] (aW 60 (.exit 4) .skip)) (.region [aF 61 1 1 3,ay 62 1 61,I 63 9,I 64 9,aV 65 .sub 64 1,hL 66 62 [.t 63,.t 65]]))) (.region [I 52 9,aV 53 .sub 52 1,I 9 53])))))) .skip)) (aa [I 67 2,I 68 7,bu 69 .sub 67 68,aV 70 .geq 69 2] (aW 70 (aa [I 71 7,aV 72 .add 71 1,I 10 72] (.block 6 (.loop (.seq (aa [I 73 10,I 74 2,bu 75 .lss 73 74] (aW 75 .skip (.exit 6))) (.seq (.block 7 (.seq (aa [aF 78 0 1 3,ay 79 1 78,I 80 10,I 81 10,aV 82 .sub 81 1,hL 83 79 [.t 80,.t 82],cO 84 83] (aW 84 (.exit 6) .skip)) (.region [aF 85 1 1 3,ay 86 1 85,I 87 10,I 88 10,aV 89 .sub 88 1,hL 90 86 [.t 87,.t 89]]))) (.region [I 76 10,aV 77 .add 76 1,I 10 77])))))) .skip)))))))) (.region [I 15 8,aV 16 .add 15 1,I 8 16])))))) (aa [bz 6 false] .ret))))
def Tk:C:=(aa [c0 4 0,bQ 8 0] (aa [aF 11 1 1 4,ay 12 1 11,I 13 1,I 14 3,hL 15 12 [.t 13,.t 14]] (aa [I 16 1,aV 17 .add 16 1,I 18 2,aV 19 .sub 18 1,I 9 17,I 10 19] (.seq (.block 0 (.loop (.block 1 (.seq (.block 2 (.loop (.seq (aa [I 20 9,I 21 10,bu 22 .leq 20 21,I 23 22,ax 23 true (aF 24 0 1 4),ax 23 true (ay 25 1 24),cg 23 true 26 1,cg 23 true 27 9,ax 23 true (hL 28 25 [.t 26,.t 27]),ax 23 true (cO 29 28),ei 30 23 29] (aW 30 .skip (.exit 2))) (.block 3 (.region [I 31 9,aV 32 .add 31 1,I 9 32]))))) (.seq (.block 4 (.loop (.seq (aa [I 33 9,I 34 10,bu 35 .leq 33 34,I 36 35,ax 36 true (aF 37 0 1 4),ax 36 true (ay 38 1 37),cg 36 true 39 1,cg 36 true 40 10,ax 36 true (hL 41 38 [.t 39,.t 40]),ei 42 36 41] (aW 42 .skip (.exit 4))) (.block 5 (.region [I 43 10,aV 44 .sub 43 1,I 10 44]))))) (.seq (aa [I 45 9,I 46 10,bu 47 .gtr 45 46] (aW 47 (.exit 0) .skip)) (aa [aF 48 1 1 4,ay 49 1 48,I 50 9,I 51 10,hL 52 49 [.t 50,.t 51]] (aa [I 53 9,aV 54 .add 53 1,I 9 54] (.region [I 55 10,aV 56 .sub 55 1,I 10 56]))))))))) (aa [I 57 9,I 8 57] .ret)))))
def Tl:C:=(aa [c0 4 0,bQ 8 0,bz 9 false] (aa [aF 12 1 1 4,ay 13 1 12,I 14 1,I 15 3,hL 16 13 [.t 14,.t 15]] (aa [I 17 1,aV 18 .add 17 1,I 19 2,aV 20 .sub 19 1,I 10 18,I 11 20] (.seq (.block 0 (.loop (.seq (aa [I 21 10,I 22 11,bu 23 .leq 21 22,I 24 23,ax 24 true (aF 25 0 1 4),ax 24 true (ay 26 1 25),cg 24 true 27 10,cg 24 true 28 1,ax 24 true (hL 29 26 [.t 27,.t 28]),ei 30 24 29] (aW 30 .skip (.exit 0))) (.block 1 (.region [I 31 10,aV 32 .add 31 1,I 10 32]))))) (.seq (.block 2 (.loop (.seq (aa [I 33 10,I 34 11,bu 35 .leq 33 34,I 36 35,ax 36 true (aF 37 0 1 4),ax 36 true (ay 38 1 37),cg 36 true 39 11,cg 36 true 40 1,ax 36 true (hL 41 38 [.t 39,.t 40]),ax 36 true (cO 42 41),ei 43 36 42] (aW 43 .skip (.exit 2))) (.block 3 (.region [I 44 11,aV 45 .sub 44 1,I 11 45]))))) (.seq (aa [I 46 10,I 47 11,bu 48 .gtr 46 47] (aW 48 (aa [aF 49 1 1 4,ay 50 1 49,I 51 11,I 52 1,hL 53 50 [.t 51,.t 52]] (aa [I 54 11,I 8 54,bz 9 true] .ret)) .skip)) (aa [aF 55 1 1 4,ay 56 1 55,I 57 10,I 58 11,hL 59 56 [.t 57,.t 58]] (aa [I 60 10,aV 61 .add 60 1,I 10 61] (aa [I 62 11,aV 63 .sub 62 1,I 11 63] (.seq (.block 4 (.loop (.block 5 (.seq (.block 6 (.loop (.seq (aa [I 64 10,I 65 11,bu 66 .leq 64 65,I 67 66,ax 67 true (aF 68 0 1 4),ax 67 true (ay 69 1 68),cg 67 true 70 10,cg 67 true 71 1,ax 67 true (hL 72 69 [.t 70,.t 71]),ei 73 67 72] (aW 73 .skip (.exit 6))) (.block 7 (.region [I 74 10,aV 75 .add 74 1,I 10 75]))))) (.seq (.block 8 (.loop (.seq (aa [I 76 10,I 77 11,bu 78 .leq 76 77,I 79 78,ax 79 true (aF 80 0 1 4),ax 79 true (ay 81 1 80),cg 79 true 82 11,cg 79 true 83 1,ax 79 true (hL 84 81 [.t 82,.t 83]),ax 79 true (cO 85 84),ei 86 79 85] (aW 86 .skip (.exit 8))) (.block 9 (.region [I 87 11,aV 88 .sub 87 1,I 11 88]))))) (.seq (aa [I 89 10,I 90 11,bu 91 .gtr 89 90] (aW 91 (.exit 4) .skip)) (aa [aF 92 1 1 4,ay 93 1 92,I 94 10,I 95 11,hL 96 93 [.t 94,.t 95]] (aa [I 97 10,aV 98 .add 97 1,I 10 98] (.region [I 99 11,aV 100 .sub 99 1,I 11 100]))))))))) (aa [aF 101 1 1 4,ay 102 1 101,I 103 11,I 104 1,hL 105 102 [.t 103,.t 104]] (aa [I 106 11,I 8 106,bz 9 false] .ret))))))))))))
def Tq:C:=(aa [c0 4 0] (aa [I 10 1,I 8 10] (.block 0 (.loop (.block 1 (aa [I 11 8,cb 12 (.bin .mul false (gV 2) (.t 11)),aV 13 .add 12 1,I 9 13] (.seq (aa [I 14 9,I 15 2,bu 16 .geq 14 15] (aW 16 (.exit 0) .skip)) (.seq (aa [I 17 9,aV 18 .add 17 1,I 19 2,bu 20 .lss 18 19,I 21 20,ax 21 true (aF 22 0 1 4),ax 21 true (ay 23 1 22),cg 21 true 24 3,cg 21 true 25 9,ax 21 true (bu 26 .add 24 25),cg 21 true 27 3,cg 21 true 28 9,ax 21 true (bu 29 .add 27 28),ax 21 true (aV 30 .add 29 1),ax 21 true (hL 31 23 [.t 26,.t 30]),ei 32 21 31] (aW 32 (.region [I 33 9,aV 34 .add 33 1,I 9 34]) .skip)) (.seq (aa [aF 35 0 1 4,ay 36 1 35,I 37 3,I 38 8,bu 39 .add 37 38,I 40 3,I 41 9,bu 42 .add 40 41,hL 43 36 [.t 39,.t 42],cO 44 43] (aW 44 .ret .skip)) (aa [aF 45 1 1 4,ay 46 1 45,I 47 3,I 48 8,bu 49 .add 47 48,I 50 3,I 51 9,bu 52 .add 50 51,hL 53 46 [.t 49,.t 52]] (.region [I 54 9,I 8 54])))))))))))
def Th:C:=(aa [cb 2 (.mov (.c (.int .u64 0)))] (aa [I 4 0,cb 5 (.conv .u64 (.t 4)),cY 6 213 5,cb 7 (.conv .u64 (.t 6)),I 3 7] (aa [I 8 3,cb 9 (.bin .shl false (.c (.int .u64 1)) (.t 8)),I 2 9] .ret)))
def Tu:C:=(aa [cb 2 (.mov (.c (.int .u64 0)))] (.seq (.drawn true 33 [I 3 0,gw 4 3,ay 5 1 4,I 6 0,gw 7 6,ay 8 1 7,cb 9 (.bin .shl false (.t 8) (.c (.int .u64 13))),bu 10 .xor 5 9,gw 11 3,bV 1 11 10]) (.seq (.drawn true 33 [I 12 0,gw 13 12,ay 14 1 13,I 15 0,gw 16 15,ay 17 1 16,cb 18 (.bin .shr false (.t 17) (.c (.int .u64 7))),bu 19 .xor 14 18,gw 20 12,bV 1 20 19]) (.seq (.drawn true 33 [I 21 0,gw 22 21,ay 23 1 22,I 24 0,gw 25 24,ay 26 1 25,cb 27 (.bin .shl false (.t 26) (.c (.int .u64 17))),bu 28 .xor 23 27,gw 29 21,bV 1 29 28]) (aa [I 30 0,gw 31 30,ay 32 1 31,I 2 32] .ret)))))
def Tf:C:=(aa [c0 3 0,bQ 6 0] (aa [bk 7 2 3,I 8 1,aV 9 .sub 8 1,I 10 1,I 11 1,aV 12 .add 11 1,I 13 2,dT 14 256 [.t 7,.t 9,.t 10,.t 12,.t 13],I 6 14] .ret))
def Tg:C:=(aa [c0 5 0,bQ 10 0] (aa [bk 12 2 5,I 13 1,I 14 2,I 15 4,dT 16 271 [.t 12,.t 13,.t 14,.t 15],I 11 16,cV 17 0 11,cV 18 1 11,I 1 17,I 2 18] (aa [bk 20 2 5,I 21 2,I 22 3,I 23 4,dT 24 271 [.t 20,.t 21,.t 22,.t 23],I 19 24,cV 25 0 19,cV 26 1 19,I 2 25,I 3 26] (aa [bk 28 2 5,I 29 1,I 30 2,I 31 4,dT 32 271 [.t 28,.t 29,.t 30,.t 31],I 27 32,cV 33 0 27,cV 34 1 27,I 1 33,I 2 34] (aa [I 35 2,I 10 35] .ret)))))
def Ti:C:=(aa [c0 4 0,bQ 8 0,bQ 9 0] (.seq (aa [aF 10 0 1 4,ay 11 1 10,I 12 2,I 13 1,hL 14 11 [.t 12,.t 13]] (aW 14 (aa [I 15 3,gw 16 15,ay 17 1 16,aV 18 .add 17 1,gw 19 15,bV 1 19 18] (aa [I 20 2,I 21 1,I 8 20,I 9 21] .ret)) .skip)) (aa [I 22 1,I 23 2,I 8 22,I 9 23] .ret)))
def aox:b4 aT S9 [.tmp 2] 1 Tryz.f213=true:=bi
def aoK:b4 aT Tn [] 4 Tryz.f214=true:=bi
def aoy:b4 aT Ta [.tmp 2] 1 Tryz.f237=true:=bi
def aoC:b4 aT Te [] 3 Tryz.f238=true:=bi
def aoA:b4 aT Tc [] 3 Tryz.f239=true:=bi
def aoB:b4 aT Td [.tmp 6,.tmp 7] 3 Tryz.f240=true:=bi
def aoL:b4 aT To [] 3 Tryz.f241=true:=bi
def aoH:b4 aT Tj [.tmp 6] 3 Tryz.f242=true:=bi
def aoI:b4 aT Tk [.tmp 8] 4 Tryz.f243=true:=bi
def aoJ:b4 aT Tl [.tmp 8,.tmp 9] 4 Tryz.f244=true:=bi
def aoN:b4 aT Tq [] 4 Tryz.f252=true:=bi
def aoF:b4 aT Th [.tmp 2] 1 Tryz.f253=true:=bi
def aoR:b4 aT Tu [.tmp 2] 1 Tryz.f254=true:=bi
def aoD:b4 aT Tf [.tmp 6] 3 Tryz.f255=true:=bi
def aoE:b4 aT Tg [.tmp 10] 5 Tryz.f256=true:=bi
def aoG:b4 aT Ti [.tmp 8,.tmp 9] 4 Tryz.f271=true:=bi
end
section
open Go Go.Pv
variable {α:Type} [Inhabited α] {S:List α->cT} {n g cr:Nat} {lc ch:List af} {lt:α->α->Bool}
def VR(H:fT S n g cr lc ch lt)(d:Array α)(p:d.size=n)(lo hi first:Nat)(J:first+hi<=n)(U:2<=n)(w:lo<=n):
  bH au 252 [fC g cr lc ch,aj lo,aj hi,aj first] (S d.toList) fun r y=>r= .tuple []/\∃k,y=S k.toList/\k=Sort.siftDown lt hi first lo d/\k.size=n:=by
 have t:=H.ok d.toList;have e:d.toList.length=n:=by simpa using p
 have q:∀l m,ae (.loc m) (S l).b=none:=fun l=>(H.ok l).obj.1;have hu:∀l m cs,cK (.loc m) cs (S l).b=(S l).b++[(.loc m,cs)]:=fun l m cs=>kO (q l m);have ar:∀m,aB.loc m∉cL (S d.toList):=kK t.obj;have hle:=H.le;refine bH.mk mixed a1 Tryz.func252 aoN Ψ t.obj fun B A=>?_;unfold Tq;simp[fC,hu,ar,c6,q];refine H.loopA e [2,3,4] (fun(x:Nat×Array α)=>[(8,aj x.1)]) (·.2) (fun x=>hi-x.1) (fun x=>x.2.size=n/\x.1<=n/\Sort.siftDown lt hi first x.1 x.2=Sort.siftDown lt hi first lo d) (lo,d) p ⟨p,w,rfl⟩ (by simp[c6,q]) aX aX dl ?_;rintro⟨root,c⟩ ⟨a,v,b⟩;simp only at a v b;have j:((first:Int)+(2*root+1))=(first+(2*root+1):Nat):=Ω
 have z:(((first+(2*root+1):Nat):Int)+1)=(first+(2*root+1)+1:Nat):=Ω
 have i:((first:Int)+root)=(first+root:Nat):=Ω
 have s:((first:Int)+(2*root+1+1))=(first+(2*root+2):Nat):=Ω
 simp[ae,H.slc,H.ssc];(with_reducible repeat' first|((first|apply ct|apply cz|apply cy)<;>intro h<;>try simp at h)|refine ao ?_|simp[ae,H.slc,H.ssc])
 ·rw[Sort.siftDown,dif_pos Ω]at b;exact H.retA e a (.inr rfl) ⟨rfl,c,rfl,b,a⟩
 ·rw[Sort.siftDown,dif_neg Ω]at b;rw[j,z];refine H.lessA a _ _ Ω Ω fun o=>?_;have aw:decide (2*root+1+1<hi)=true:=by simp;omega
  cases u:lt c[first+(2*root+1)]! c[first+(2*root+1)+1]! with
  |true=>
   rw[if_pos (by rw[aw,u];rfl)]at b;simp;(repeat' first|refine ao ?_|simp[ae,H.slc,H.ssc]);rw[i,s];refine H.lessA a _ _ Ω Ω fun o=>?_;cases f:lt c[first+root]! c[first+(2*root+2)]! with
   |true=>rw[if_neg (by simp[f]),dif_pos Ω]at b;simp;(repeat' first|refine ao ?_|simp[ae,H.slc,H.ssc]);rw[i,s];refine H.swapA a U _ _ Ω Ω fun o=>?_;simp;(repeat' first|refine ao ?_|simp);refine bY.whl (2*root+2,Sort.swp c (first+root) (first+(2*root+2))) d6 ⟨by rw[hR,a],by simp;omega,b⟩ (H.weakC e (by simp[hR,a]) (by simp[az];omega))
   |false=>rw[if_pos (by simp[f])]at b;simp;(repeat' first|refine ao ?_|simp);all_goals exact H.retA e a (.inl rfl) ⟨rfl,c,rfl,b,a⟩
  |false=>
   rw[if_neg (by simp[u])]at b;simp;(repeat' first|refine ao ?_|simp[ae,H.slc,H.ssc]);rw[i,j];refine H.lessA a _ _ Ω Ω fun o=>?_;cases f:lt c[first+root]! c[first+(2*root+1)]! with
   |true=>rw[if_neg (by simp[f])]at b;simp;(repeat' first|refine ao ?_|simp[ae,H.slc,H.ssc]);rw[i,j];refine H.swapA a U _ _ Ω Ω fun o=>?_;simp;(repeat' first|refine ao ?_|simp);refine bY.whl (2*root+1,Sort.swp c (first+root) (first+(2*root+1))) d6 ⟨by rw[hR,a],by simp;omega,b⟩ (H.weakC e (by simp[hR,a]) dl)
   |false=>rw[if_pos (by simp[f])]at b;simp;(repeat' first|refine ao ?_|simp);all_goals exact H.retA e a (.inl rfl) ⟨rfl,c,rfl,b,a⟩
 ·rw[Sort.siftDown,dif_neg Ω]at b;have aw:decide (2*root+1+1<hi)=false:=by simp;omega
  rw[if_neg (by rw[aw];simp)]at b;rw[i,j];refine H.lessA a _ _ Ω Ω fun o=>?_;cases f:lt c[first+root]! c[first+(2*root+1)]! with
  |true=>rw[if_neg (by simp[f])]at b;simp;(repeat' first|refine ao ?_|simp[ae,H.slc,H.ssc]);rw[i,j];refine H.swapA a U _ _ Ω Ω fun o=>?_;simp;(repeat' first|refine ao ?_|simp);refine bY.whl (2*root+1,Sort.swp c (first+root) (first+(2*root+1))) d6 ⟨by rw[hR,a],by simp;omega,b⟩ (H.weakC e (by simp[hR,a]) dl)
  |false=>rw[if_pos (by simp[f])]at b;simp;(repeat' first|refine ao ?_|simp);all_goals exact H.retA e a (.inl rfl) ⟨rfl,c,rfl,b,a⟩
def ajk(H:fT S n g cr lc ch lt)(d:Array α)(q:d.size=n)(a b:Nat)(A:a<b)(E:b<=n)(U:2<=n):
  bH au 241 [fC g cr lc ch,aj a,aj b] (S d.toList) fun r y=>r= .tuple []/\∃k,y=S k.toList/\k=Sort.reverseRange d a b/\k.size=n:=by
 have t:=H.ok d.toList;have p:d.toList.length=n:=by simpa using q
 have f:∀l m,ae (.loc m) (S l).b=none:=fun l=>(H.ok l).obj.1;have hu:∀l m cs,cK (.loc m) cs (S l).b=(S l).b++[(.loc m,cs)]:=fun l m cs=>kO (f l m);have ar:∀m,aB.loc m∉cL (S d.toList):=kK t.obj;have hle:=H.le;refine bH.mk mixed a1 Tryz.func241 aoL Ψ t.obj fun F B=>?_;unfold To;simp[fC,hu,ar,c6,f];have u:((b:Int)-1)=(b-1:Nat):=Ω
 (repeat' first|refine ao ?_|simp[hu,ar,c6,f]);rw[u];refine H.loopA p [3] (fun(x:(Nat×Nat)×Array α)=>[(6,aj x.1.1),(7,aj x.1.2)]) (·.2) (fun x=>x.1.2+1-x.1.1) (fun x=>x.2.size=n/\x.1.2<n/\Sort.reverseLoop x.1.1 x.1.2 x.2=Sort.reverseRange d a b) ((a,b-1),d) q ⟨q,by simp;omega,rfl⟩ (by simp[c6,f]) aX aX dl ?_;rintro⟨⟨i,j⟩,s⟩ ⟨e,v,c⟩;simp only at e v c;rw[Sort.reverseLoop]at c;simp[ae,H.slc,H.ssc];(with_reducible repeat' first|((first|apply ct|apply cz|apply cy)<;>intro h<;>try simp at h)|refine ao ?_|simp[ae,H.slc,H.ssc])
 ·rw[if_pos Ω]at c;refine H.swapA e U _ _ Ω Ω fun o=>?_;have w:((i:Int)+1)=(i+1:Nat):=Ω
  have z:((j:Int)-1)=(j-1:Nat):=Ω
  simp;((repeat' first|refine ao ?_|simp|((first|apply ct|apply cz|apply cy)<;>intro h<;>try simp at h))<;>(try exact c3));rw[w,z];refine bY.whl ((i+1,j-1),Sort.swp s i j) d6 ⟨by rw[hR,e],by simp;omega,c⟩ (H.weakC p (by simp[hR,e]) dl)
 ·rw[if_neg Ω]at c;exact H.retA p e (.inr rfl) ⟨rfl,s,rfl,c,e⟩
def aiQ(H:fT S n g cr lc ch lt)(d:Array α)(J:d.size=n)(a b:Nat)(O:a<=b)(X:b<=n)(U:2<=n):
  bH au 238 [fC g cr lc ch,aj a,aj b] (S d.toList) fun r E=>r= .tuple []/\∃c,E=S c.toList/\c=Sort.heapSort lt d a b/\c.size=n:=by
 have M:=H.ok d.toList;have y:d.toList.length=n:=by simpa using J
 have z:∀l m,ae (.loc m) (S l).b=none:=fun l=>(H.ok l).obj.1;have hu:∀l m cs,cK (.loc m) cs (S l).b=(S l).b++[(.loc m,cs)]:=fun l m cs=>kO (z l m);have ar:∀m,aB.loc m∉cL (S d.toList):=kK M.obj;have hle:=H.le;refine bH.mk mixed a1 Tryz.func238 aoC Ψ M.obj fun Y W=>?_;unfold Te;simp[fC,hu,ar,c6,z];(repeat' first|refine ao ?_|simp[hu,ar,c6,z]);have P:vo.wrap (((b:Int)-a-1).tdiv 2)=(((b-a-1)/2+1:Nat):Int)-1:=by
  have e:((b:Int)-a-1).tdiv 2=(((b-a-1)/2+1:Nat):Int)-1:=by
   rcases Nat.eq_or_lt_of_le O with h|h
   ·subst h;simp
   ·rw[show((b:Int)-a-1)=((b-a-1:Nat):Int) by omega,Int.tdiv_eq_ediv_of_nonneg Ω];omega
  rw[e,pt _ Ω]
 rw[P];refine H.loopA y [3,6,7,8] (fun(x:Nat×Array α)=>[(9,aj ((x.1:Int)-1))]) (·.2) (fun x=>x.1) (fun x=>x.2.size=n/\x.1<=n/\Sort.heapBuild lt (b-a) a x.1 x.2=Sort.heapBuild lt (b-a) a ((b-a-1)/2+1) d) ((b-a-1)/2+1,d) J ⟨J,by simp;omega,rfl⟩ (by simp[c6,z]) aX aX dl ?_;rintro⟨k,i⟩ ⟨s,Q,w⟩;simp only at s Q w;have F:((b:Int)-a)=(b-a:Nat):=Ω
 simp[ae,H.slc,H.ssc];(with_reducible repeat' first|((first|apply ct|apply cz|apply cy)<;>intro h<;>try simp at h)|refine ao ?_|simp[ae,H.slc,H.ssc])
 ·obtain⟨k,rfl⟩:∃bs,k=bs+1:=⟨k-1,Ω⟩;have L:(((k+1:Nat):Int)-1)=(k:Nat):=Ω
  rw[Sort.heapBuild]at w;simp only[jn H,H.slc,H.ssc,ji,L,F];refine H.doFn (lk:=i.toList) (by simpa using s) (R:=fun j=> ∃c,j=c.toList/\c=Sort.siftDown lt (b-a) a k i/\c.size=n) ((VR H i s k (b-a) a Ω U Ω).mono fun r E ⟨p,c,f,B,A⟩=>⟨p,c.toList,f,c,rfl,B,A⟩) (by rintro j ⟨c,rfl,_,q⟩;simpa using q) (by simp[aH,az,H.kdata (lk:=i.toList) (by simpa using s)]) ?_;rintro j ⟨c,rfl,p,f⟩;simp;((repeat' first|refine ao ?_|simp|((first|apply ct|apply cz|apply cy)<;>intro h<;>try simp at h))<;>(try exact c3));refine bY.whl (k,c) Ψ ⟨f,by simp;omega,by rw[<-w,p]⟩ (H.weakC y (by simpa using f) dl)
 ·obtain rfl:k=0:=Ω
  rw[Sort.heapBuild]at w;have V:i.size=n:=s;refine H.loopA y [3,6,7] (fun(x:Nat×Array α)=>[(10,aj ((x.1:Int)-1))]) (·.2) (fun x=>x.1) (fun x=>x.2.size=n/\x.1<=b-a/\Sort.heapPop lt a x.1 x.2=Sort.heapPop lt a (b-a) i) (b-a,i) s ⟨s,Ψ,rfl⟩ (by simp[ae]) aX aX (by simp[az];omega) ?_;rintro⟨k,t⟩ ⟨u,N,v⟩;simp only at u N v;simp[ae,H.slc,H.ssc];(with_reducible repeat' first|((first|apply ct|apply cz|apply cy)<;>intro h<;>try simp at h)|refine ao ?_|simp[ae,H.slc,H.ssc])
  ·obtain⟨k,rfl⟩:∃bs,k=bs+1:=⟨k-1,Ω⟩;have L:(((k+1:Nat):Int)-1)=(k:Nat):=Ω
   have G:((a:Int)+k)=(a+k:Nat):=Ω
   rw[Sort.heapPop]at v;simp only[L,G];refine H.swapA u U _ _ Ω Ω fun o=>?_;have K:(Sort.swp t a (a+k)).size=n:=by rw[hR,u]
   simp;simp only[jn H,H.slc,H.ssc,ji];refine H.doFn (lk:=(Sort.swp t a (a+k)).toList) (by simpa using K) (R:=fun j=> ∃c,j=c.toList/\c=Sort.siftDown lt k a 0 (Sort.swp t a (a+k))/\c.size=n) ((VR H (Sort.swp t a (a+k)) K 0 k a Ω U Ω).mono fun r E ⟨p,c,f,B,A⟩=>⟨p,c.toList,f,c,rfl,B,A⟩) (by rintro j ⟨c,rfl,_,q⟩;simpa using q) (by simp[aH,az,H.kdata (lk:=(Sort.swp t a (a+k)).toList) (by simpa using K)]) ?_;rintro j ⟨c,rfl,p,f⟩;simp;((repeat' first|refine ao ?_|simp|((first|apply ct|apply cz|apply cy)<;>intro h<;>try simp at h))<;>(try exact c3));refine bY.whl (k,c) Ψ ⟨f,by simp;omega,by rw[<-v,p]⟩ (H.weakC y (by simpa using f) dl)
  ·obtain rfl:k=0:=Ω
   rw[Sort.heapPop]at v;refine H.retA y u (.inr rfl) ⟨rfl,t,rfl,?_,u⟩;rw[Sort.heapSort,<-w,<-v]
def ai0(H:fT S n g cr lc ch lt)(d:Array α)(y:d.size=n)(a b:Nat)(L:a<=b)(N:b<=n):
  bH au 231 [fC g cr lc ch,aj a,aj b] (S d.toList) fun r K=>r= .tuple []/\∃u,K=S u.toList/\u=Sort.insertionSort lt d a b/\u.size=n:=by
 have z:=H.ok d.toList;have p:d.toList.length=n:=by simpa using y
 have s:∀l m,ae (.loc m) (S l).b=none:=fun l=>(H.ok l).obj.1;have hu:∀l m cs,cK (.loc m) cs (S l).b=(S l).b++[(.loc m,cs)]:=fun l m cs=>kO (s l m);have ar:∀m,aB.loc m∉cL (S d.toList):=kK z.obj;have hle:=H.le;refine bH.mk mixed a1 Tryz.func231 ZC Ψ z.obj fun O M=>?_;unfold Lr;simp[fC,hu,ar,c6,s];have G:((a:Int)+1)=(a+1:Nat):=Ω
 (repeat' first|refine ao ?_|simp[hu,ar,c6,s]);rw[G];refine H.loopA p [1,2,3] (fun(x:Nat×Array α)=>[(6,aj x.1)]) (·.2) (fun x=>b+1-x.1) (fun x=>x.2.size=n/\x.1<=b+1/\Sort.insOuter lt a b x.1 x.2=Sort.insertionSort lt d a b) (a+1,d) y ⟨y,by simp;omega,rfl⟩ (by simp[c6,s]) aX aX dl ?_;rintro⟨i,v⟩ ⟨q,J,k⟩;simp only at q J k;rw[Sort.insOuter]at k;simp;(with_reducible repeat' first|((first|apply ct|apply cz|apply cy)<;>intro h<;>try simp at h)|refine ao ?_|simp)
 ·rw[if_pos Ω]at k;refine H.loopA p [1,2,3,6] (fun(x:Nat×Array α)=>[(7,aj x.1)]) (·.2) (fun x=>x.1) (fun x=>x.2.size=n/\x.1<=i/\Sort.insInner lt a x.1 x.2=Sort.insInner lt a i v) (i,v) q ⟨q,Ψ,rfl⟩ (by simp[ae]) aX aX dl ?_;rintro⟨j,f⟩ ⟨c,E,e⟩;simp only at c E e;simp[ae,H.slc,H.ssc];(with_reducible repeat' first|((first|apply ct|apply cz|apply cy)<;>intro h<;>try simp at h)|refine ao ?_|simp[ae,H.slc,H.ssc])
  ·obtain⟨j,rfl⟩:∃dh,j=dh+1:=⟨j-1,Ω⟩;have F:(((j+1:Nat):Int)-1)=(j:Nat):=Ω
   have t:((i:Int)+1)=(i+1:Nat):=Ω
   have w:((j:Int)+1)=(j+1:Nat):=Ω
   rw[Sort.insInner]at e;have aw:decide (j+1>a)=true:=by simp;omega
   rw[F];refine H.lessA c _ _ Ω Ω fun o=>?_;cases A:lt f[j+1]! f[j]! with
   |true=>rw[if_pos (by rw[aw,A];rfl)]at e;simp;(repeat' first|refine ao ?_|simp[ae,H.slc,H.ssc]);rw[w];refine H.swapA c Ω _ _ Ω Ω fun o=>?_;simp;(repeat' first|refine ao ?_|simp);refine bY.whl (j,Sort.swp f (j+1) j) Ψ ⟨by rw[hR,c],by simp;omega,e⟩ (H.weakC p (by simp[hR,c]) dl)
   |false=>rw[if_neg (by simp[A])]at e;simp;((repeat' first|refine ao ?_|simp|((first|apply ct|apply cz|apply cy)<;>intro h<;>try simp at h))<;>(try exact c3));rw[t];refine bY.whl (i+1,f) d6 ⟨c,by simp;omega,by rw[<-k,<-e]⟩ (H.weakC p (by simpa using c) dl)
  ·have t:((i:Int)+1)=(i+1:Nat):=Ω
   have B:Sort.insInner lt a j f=f:=by
    cases j with
    |zero=>rfl
    |succ j=>rw[Sort.insInner,if_neg d6]
   rw[t];refine bY.whl (i+1,f) d6 ⟨c,by simp;omega,by rw[<-k,<-e,B]⟩ (H.weakC p (by simpa using c) dl)
 ·rw[if_neg Ω]at k;exact H.retA p q (.inr rfl) ⟨rfl,v,rfl,k,q⟩
end
end Go.Proofs.YtahlgcidhnjlbaaGreat
