/- Contracts of pattern-defeating quicksort: the heap, the reversal, the insertion. -/
import Derived.Test.YtahlgcidhnjlbaaGreatProg
import Derived.Shelf.Sort.Plain
import Derived.Ground.NamesProg
import Derived.Sort.OwnSortedInts
import Derived.Lib.OwnBridge
import Derived.Sort.AssemblyPlain
import Derived.Sort.LotD5
import Derived.Test.YtahlgcidhnjlbaaGreatY2
set_option linter.all false
set_option maxHeartbeats 4000000
set_option maxRecDepth 4000
open Bool renaming and_eq_true->cO,eq_iff_iff->rf,false_eq_true->hU,or_eq_true->oo
open Go renaming Program->cG
open Go.IntKind renaming bits->pI,i64->vB,signed->um,u64->ij,wrap->uo
open Go.IntWalk renaming i64_in->pJ
open Go.Op renaming bytesLess->iu
open Go.Proofs.Tryz renaming prog->au
open Go.Value renaming cells->pK
open List renaming all_eq_true->j5,cons_append->b6,drop->o1,drop_eq_getElem_cons->lJ,getElem?_append_left->r6,getElem?_append_right->vC,getElem?_eq_getElem->ck,getElem?_eq_none->rh,getElem?_eq_some_iff->fI,getElem_of_mem->pM,length_append->qv,length_cons->mZ,length_drop->ur,map_cons->gX,mem_append->jT,mem_cons->gJ,mem_filter->oq,mem_map->hc,mem_of_getElem?->fx,nil_append->cc,pairwise_cons->ot,pairwise_iff_getElem->rj,take_of_length_le->iv
open List.Nodup renaming length_le_of_subset->RA
open List.Pairwise renaming filter->adR,imp_of_mem->at4,sublist->ayP
open List.Perm renaming eq_of_pairwise->RB,swap->ayQ
open List.cons renaming injEq->r5
open Nat renaming le_refl->dO,le_trans->kg
open Option renaming bind_eq_some_iff->ou,getD_none->my,getD_some->ma,map_eq_some_iff->ht,map_some->pN
open Option.some renaming inj->eZ,injEq->dV
open Prod.mk renaming injEq->jo
open _root_ renaming False->eb,UInt8->cV,beq_iff_eq->eA,congrArg->fC,decide_eq_false->mz,decide_eq_false_iff_not->iN,decide_eq_true->lK,decide_eq_true_eq->gn,eq_true->h1
namespace Go.Pv
section
open Go
structure bJ where
 v:Int
 k:Int
 deriving DecidableEq,Inhabited
def bJ.e(b:bJ):af:= .agg [.int .i64 b.v,.int .i64 b.k]
@[simp]def bJ.eta(b:bJ):bJ.mk b.v b.k=b:=rfl
@[simp]def RT(v k:Int):af.agg [.int .i64 v,.int .i64 k]=(bJ.mk v k).e:=rfl
@[simp]def awz(S:aB->Prop)(b:bJ):aA S b.e=True:=by simp[bJ.e,-RT]
@[simp]def ayp(b:bJ):b3 b.e=b.e:=by simp[bJ.e,-RT]
def Yp(S:aB->Prop):∀l:List bJ,aH S (l.map bJ.e)
 |[]=>by simp[aH]
 |x::xs=>by simp[aH,Yp S xs]
@[simp]def awi(S:aB->Prop)(l:List bJ):aH S (l.map bJ.e)=True:=h1 (Yp S l)
@[simp]def QN:∀l:List bJ,b9 (l.map bJ.e)=l.map bJ.e
 |[]=>rfl
 |x::xs=>by simp[b9,QN xs]
@[simp]def ax1(b:bJ):eS b.e=true:=rfl
@[simp]def auK(b:bJ):cells b.e=[.int .i64 b.v,.int .i64 b.k]:=rfl
@[simp]def av1(b:bJ):qW 2 b.e:=⟨_,rfl,rfl⟩
@[simp]def avn(off:Nat)(a:Bool)(sz:Nat)(b:bJ):wa off a sz b.e=if a then some (off+sz<=2,.agg (([.int .i64 b.v,.int .i64 b.k].drop off).take sz))else(([.int .i64 b.v,.int .i64 b.k]:List af)[off]?).map fun p=>(True,p):=rfl
@[simp]def avf(off:Nat)(a:Bool)(sz:Nat)(b:bJ):tc off a sz (.eptr b.e)=if a then some (off+sz<=2,.eptr (.agg (([.int .i64 b.v,.int .i64 b.k].drop off).take sz)))else(([.int .i64 b.v,.int .i64 b.k]:List af)[off]?).map fun p=>(eS p=true/\cells p=[p],.eptr p):=rfl
structure bn where
 v:Int
 s:List cV
 deriving DecidableEq,Inhabited
def bn.e(b:bn):af:= .agg [.int .i64 b.v,.str b.s]
@[simp]def bn.eta(b:bn):bn.mk b.v b.s=b:=rfl
@[simp]def La(v:Int)(s:List cV):af.agg [.int .i64 v,.str s]=(bn.mk v s).e:=rfl
@[simp]def amA(S:aB->Prop)(b:bn):aA S b.e=True:=by simp[bn.e,-La]
@[simp]def ayt(b:bn):b3 b.e=b.e:=by simp[bn.e,-La]
def Oo(S:aB->Prop):∀l:List bn,aH S (l.map bn.e)
 |[]=>by simp[aH]
 |x::xs=>by simp[aH,Oo S xs]
@[simp]def Yr(S:aB->Prop)(l:List bn):aH S (l.map bn.e)=True:=h1 (Oo S l)
@[simp]def QO:∀l:List bn,b9 (l.map bn.e)=l.map bn.e
 |[]=>rfl
 |x::xs=>by simp[b9,QO xs]
@[simp]def ax3(b:bn):eS b.e=true:=rfl
@[simp]def auM(b:bn):cells b.e=[.int .i64 b.v,.str b.s]:=rfl
@[simp]def av3(b:bn):qW 2 b.e:=⟨_,rfl,rfl⟩
@[simp]def avo(off:Nat)(a:Bool)(sz:Nat)(b:bn):wa off a sz b.e=if a then some (off+sz<=2,.agg (([.int .i64 b.v,.str b.s].drop off).take sz))else(([.int .i64 b.v,.str b.s]:List af)[off]?).map fun p=>(True,p):=rfl
@[simp]def avg(off:Nat)(a:Bool)(sz:Nat)(b:bn):tc off a sz (.eptr b.e)=if a then some (off+sz<=2,.eptr (.agg (([.int .i64 b.v,.str b.s].drop off).take sz)))else(([.int .i64 b.v,.str b.s]:List af)[off]?).map fun p=>(eS p=true/\cells p=[p],.eptr p):=rfl
def gf(x y:bn):Int:=if fe x.v y.v=0 then lA x.s y.s else fe x.v y.v
def mU:kh gf:=by
 refine⟨fun x y=>?_,fun x y z J U=>?_,fun x y=>?_⟩
 ·unfold gf;have:=k3.neg x.v y.v;have:=Fy.neg x.s y.s;by_cases e:fe x.v y.v=0
  ·rw[if_pos e,if_pos Ω];omega
  ·rw[if_neg e,if_neg Ω];omega
 ·unfold gf at J U⊢;by_cases b:fe x.v y.v=0
  ·rw[if_pos b]at J;rw[(k3.zero _ _).1 b];by_cases a:fe y.v z.v=0
   ·rw[if_pos a]at U⊢;exact Fy.tr _ _ _ J U
   ·rw[if_neg a]at U⊢;exact U
  ·rw[if_neg b]at J;have c:fe x.v y.v<0:=Ω
   by_cases a:fe y.v z.v=0
   ·rw[<-(k3.zero _ _).1 a,if_neg b];exact J
   ·rw[if_neg a]at U;have:=k3.ltr c U;rw[if_neg Ω];omega
 ·unfold gf;by_cases e:fe x.v y.v=0
  ·rw[if_pos e,Fy.zero];have:=(k3.zero _ _).1 e;cases x;cases y;simp_all
  ·rw[if_neg e];exact⟨fun h=>absurd h e,fun h=>by rw[h]at e;exact absurd (k3.refl _) e⟩
def vj(x y:bn):Bool:=decide (x.v<y.v)||(x.v==y.v&&iu x.s y.s)
def aeM(a:List cV):iu a a=false:=by
 cases h:iu a a with
 |false=>rfl
 |true=>rw[Li a a h]at h;cases h
def Zt(x y:bn):vj x y=iL gf x y:=by
 unfold vj iL gf;rw[rf];simp only[oo,gn,cO,eA];by_cases e:x.v=y.v
 ·have:fe x.v y.v=0:=(k3.zero _ _).2 e;rw[if_pos this];simp only[e,Int.lt_irrefl,false_or,true_and,lA];by_cases a:x.s=y.s
  ·rw[if_pos a,a,aeM];simp
  ·rw[if_neg a];split<;>simp_all
 ·have b:¬fe x.v y.v=0:=fun h=>e ((k3.zero _ _).1 h);rw[if_neg b];simp only[e,false_and,or_false];unfold fe;(repeat' split)<;>omega
def jd{α:Type}(p:α->Prop)(r:α->α->Prop)(l:List α)(i:Nat):Prop:= ∀b,l[i]? =some b->p b/\∀c,0<i->l[i-1]? =some c->r c b
def RP{α:Type}{p:α->Prop}{r:α->α->Prop}(n:∀a b c,r a b->r b c->r a c){l:List α}:(∀i,i<l.length->jd p r l i)↔(∀b∈l,p b)/\l.Pairwise r:=by
 constructor
 ·intro h;refine⟨fun b f=>?_,?_⟩
  ·obtain⟨i,hi,e⟩:=pM f;exact(h i hi b (by rw[ck hi,e])).1
  ·rw[rj];have g:∀i (h:i+1<l.length),r l[i] l[i+1]:=fun i hi=>(h (i+1) hi l[i+1] (by simp[ck hi])).2 l[i] Ω (by simp[ck (show i<l.length by omega)]);have:∀(d i:Nat) (h:i+d+1<l.length),r l[i] l[i+d+1]:=by
    intro d;induction d with
    |zero=>intro i h;exact g i h
    |succ d k=>intro i h;exact n _ _ _ (k i Ω) (g (i+d+1) Ω)
   intro i j hi t q;have:=this (j-i-1) i Ω;simpa[show i+(j-i-1)+1=j from by omega]using this
 ·rintro⟨J,U⟩ i hi b f;refine⟨J b (fx f),fun c s ay=>?_⟩;obtain⟨g1,m⟩:=fI.1 ay;obtain⟨g2,o⟩:=fI.1 f;have:=rj.1 U (i-1) i g1 g2 Ω;rw[m,o]at this;exact this
def kY{α:Type}(c:α->α->Int)(x:α):List α->List α
 |[]=>[x]
 |y::l=>if c y x<0 then y::kY c x l else if c y x=0 then y::l else x::y::l
section
variable {α:Type} {c:α->α->Int}
def I2(ay:kh c){x z:α}:∀{l:List α},z∈kY c x l↔z=x\/z∈l
 |[]=>by simp[kY]
 |y::l=>by
  simp only[kY];split
  ·simp only[gJ,I2 ay (l:=l)];constructor
   ·rintro(h|h|h)
    ·exact .inr (.inl h)
    ·exact .inl h
    ·exact .inr (.inr h)
   ·rintro(h|h|h)
    ·exact .inr (.inl h)
    ·exact .inl h
    ·exact .inr (.inr h)
  ·split
   ·rename_i h;obtain rfl:=(ay.zero _ _).1 h;simp
   ·simp
def N3(ay:kh c){x:α}:∀{l:List α},iO c l->iO c (kY c x l)
 |[],_=>by simp[kY,iO]
 |y::l,h=>by
  obtain⟨J,U⟩:=ot.1 h;simp only[kY];split
  ·rename_i d;refine ot.2 ⟨fun z a=>?_,N3 ay U⟩;rcases(I2 ay).1 a with rfl|a
   ·exact d
   ·exact J z a
  ·split
   ·exact h
   ·rename_i d e;have b:c x y<0:=by have:=ay.neg x y;omega
    refine ot.2 ⟨fun z a=>?_,h⟩;rcases gJ.1 a with rfl|a
    ·exact b
    ·exact ay.ltr b (by have:=J z a;omega)
def N5(x:α):∀l:List α,(kY c x l).length<=l.length+1
 |[]=>by simp[kY]
 |y::l=>by
  have:=N5 x l;simp only[kY];split
  ·simp;omega
  ·split<;>simp
def N4(ay:kh c)(x:α):∀(l:List α) (k:Nat),(∀i y,i<k->l[i]? =some y->c y x<0)->(∀y,l[k]? =some y->0<=c y x)->k<=l.length->kY c x l=if(match l[k]? with|some y=>decide (c y x=0)|none=>false)=true then l else l.take k++x::l.drop k
 |[],k,_,_,ad=>by simp at ad;subst ad;simp[kY]
 |y::l,0,_,U,_=>by
  have:=U y rfl;by_cases e:c y x=0
  ·simp[kY,e]
  ·have f:¬c y x<0:=Ω
   simp[kY,f,e]
 |y::l,k+1,J,U,ad=>by
  have b:=J 0 y Ω rfl;simp only[kY,if_pos b,List.take_succ_cons,List.drop_succ_cons,b6,List.getElem?_cons_succ];rw[N4 ay x l k (fun i d hi a=>J (i+1) d Ω (by simpa using a)) (fun d a=>U d (by simpa using a)) (by simpa using ad)];cases l[k]? with
  |none=>rfl
  |some z=>simp only[];split<;>rfl
end
structure jN (l:List bJ):Prop where
 at':∀x∈l,(0<=x.v/\x.v<=100000)/\(x.k=2\/x.k=3)
 asc:l.Pairwise fun x y=>x.v<y.v
def nD(l:List bJ)(v:Int):Option Int:=(l.find? fun x=>x.v==v).map (·.k)
def nB(x:bJ):List bJ->List bJ
 |[]=>[x]
 |y::l=>if y.v<x.v then y::nB x l else x::y::l
def I3{x z:bJ}:∀{l:List bJ},z∈nB x l↔z=x\/z∈l
 |[]=>by simp[nB]
 |y::l=>by
  simp only[nB];split
  ·simp only[gJ,I3 (l:=l)];constructor
   ·rintro(h|h|h)
    ·exact .inr (.inl h)
    ·exact .inl h
    ·exact .inr (.inr h)
   ·rintro(h|h|h)
    ·exact .inr (.inl h)
    ·exact .inl h
    ·exact .inr (.inr h)
  ·simp
def XQ(x:bJ):∀l:List bJ,(nB x l).Perm (x::l)
 |[]=>.refl _
 |y::l=>by
  simp only[nB];split
  ·exact((XQ x l).cons y).trans (ayQ _ _ _)
  ·exact .refl _
def N6{x:bJ}:∀{l:List bJ},l.Pairwise (fun x y=>x.v<y.v)->(∀y∈l,y.v≠x.v)->(nB x l).Pairwise fun x y=>x.v<y.v
 |[],_,_=>by simp[nB]
 |y::l,h,b=>by
  obtain⟨J,U⟩:=ot.1 h;have d:=b y Ψ;simp only[nB];split
  ·rename_i c;refine ot.2 ⟨fun z a=>?_,N6 U fun z a=>b z (by simp[a])⟩;rcases I3.1 a with rfl|a
   ·exact c
   ·exact J z a
  ·refine ot.2 ⟨fun z a=>?_,h⟩;rcases gJ.1 a with rfl|a
   ·omega
   ·have:=J z a;omega
def XO(x:bJ):∀(l:List bJ) (k:Nat),(∀i y,i<k->l[i]? =some y->y.v<x.v)->(∀y,l[k]? =some y->¬y.v<x.v)->k<=l.length->nB x l=l.take k++x::l.drop k
 |[],k,_,_,ad=>by simp at ad;subst ad;rfl
 |y::l,0,_,U,_=>by have:=U y rfl;simp[nB,this]
 |y::l,k+1,J,U,ad=>by have b:=J 0 y Ω rfl;simp only[nB,if_pos b,List.take_succ_cons,List.drop_succ_cons,b6];rw[XO x l k (fun i d hi a=>J (i+1) d Ω (by simpa using a)) (fun d a=>U d (by simpa using a)) (by simpa using ad)]
def ams{l a:List bJ}(b:a.Perm l)(d:l.Pairwise fun x y=>x.v<y.v)(g:a.Pairwise fun x y=>decide (y.v<x.v)=false):a=l:=by
 refine RB (le:=fun x y:bJ=>x.v<=y.v) (fun x y k m J U=>?_) (g.imp Ψ) (d.imp Ω) b;have f:x∈l:=b.mem_iff.1 k;have e:y∈l:=m;obtain⟨i,hi,rfl⟩:=pM f;obtain⟨j,c,rfl⟩:=pM e;have:=rj.1 d;rcases Nat.lt_trichotomy i j with h|h|h
 ·have:=this i j hi c h;omega
 ·subst h;rfl
 ·have:=this j i c hi h;omega
def E1{l:List bJ}{v:Int}:nD l v=none↔∀x∈l,x.v≠v:=by simp[nD]
def Yh{l:List bJ}{v k:Int}(h:nD l v=some k):(⟨v,k⟩:bJ)∈l:=by unfold nD at h;rw[ht]at h;obtain⟨x,J,rfl⟩:=h;have U:=List.find?_some J;simp at U;subst U;exact List.mem_of_find?_eq_some J
def Oi{l:List bJ}(a:l.Pairwise fun x y=>x.v<y.v){x:bJ}(h:x∈l):nD l x.v=some x.k:=by
 induction l with
 |nil=>simp at h
 |cons y l b=>
  obtain⟨J,U⟩:=ot.1 a;rcases gJ.1 h with rfl|h
  ·simp[nD]
  ·have:=J x h;have e:=b U h;unfold nD at e⊢;rw[List.find?_cons_of_neg d6];exact e
def k7(l:List bJ)(t:T)(k:Int):Option (List bJ):=match t with
 | .var n=>match nD l n with
  |some bs=>if bs=k then some l else none
  |none=>some (nB ⟨n,k⟩ l)
 |t=>if t.kind=k then some l else none
def K4{l b:List bJ}{t:T}{k:Int}(h:jN l)(d:t.ok=true)(ad:k=2\/k=3)(he:k7 l t k=some b):jN b:=by
 unfold k7 at he;split at he
 ·rename_i n;split at he
  ·split at he
   ·cases he;exact h
   ·cases he
  ·rename_i c;cases he;rw[E1]at c;refine⟨fun x a=>?_,N6 h.asc c⟩;rcases I3.1 a with rfl|a
   ·exact⟨by simpa[T.ok]using d,ad⟩
   ·exact h.at' x a
 ·split at he
  ·cases he;exact h
  ·cases he
def tM{l:List bJ}(h:jN l):l.length<=100001:=by
 have J:(l.map (·.v)).Nodup:=by rw[List.nodup_iff_pairwise_ne,List.pairwise_map];exact h.asc.imp fun h e=>Ω
 have:=Yf J fun v b=>by obtain⟨x,a,rfl⟩:=hc.1 b;exact(h.at' x a).1
 simpa using this
def gU(s:List Bd):List bJ->List bJ->Option (List bJ)
 |[],acc=>some acc
 |x::r,acc=>match k7 acc (cR s x.v) x.k with
  |some a=>gU s r a
  |none=>none
structure iT (l:List bn):Prop where
 at':∀x∈l,(0<=x.v/\x.v<=100000)/\kt x.s=true
 asc:iO gf l
def _root_.Go.Pv.T.has(s:List cV):T->Bool
 | .sym n=>n==s
 | .pair a b=>a.has s||b.has s
 |_=>false
def nh(l:List bn)(t:T)(s:List cV):Option (List bn):=if t.has s then none else some (asc gf (l++(oZ t).map fun v=>⟨v,s⟩))
def Gi{t:T}{v:Int}:v∈oZ t↔t.occ v=true:=by
 refine⟨fun h=>?_,z1⟩;induction t with
 |var n=>simp[oZ]at h;simp[T.occ,h]
 |pair a b d c=>simp only[oZ,jT]at h;simp only[T.occ,oo];exact h.imp d c
 |_=>simp[oZ]at h
def Fb{l a:List bn}{t:T}{s:List cV}(h:nh l t s=some a)(x:bn):x∈a↔x∈l\/(x.s=s/\t.occ x.v=true):=by
 unfold nh at h;split at h
 ·cases h
 ·cases h;rw[Y1,jT,hc];refine or_congr_right ?_;constructor
  ·rintro⟨v,b,rfl⟩;exact⟨rfl,Gi.1 b⟩
  ·rintro⟨J,U⟩;exact⟨x.v,Gi.2 U,by rw[<-J]⟩
def K5{l a:List bn}{t:T}{s:List cV}(b:t.has s=false)(c:iO gf a)(hm:∀x,x∈a↔x∈l\/(x.s=s/\t.occ x.v=true)):nh l t s=some a:=by
 have h:nh l t s=some (asc gf (l++(oZ t).map fun v=>⟨v,s⟩)):=by unfold nh;rw[b];rfl
 rw[h];congr 1;exact(Lb mU _).ext mU c fun x=>by rw[hm,<-Fb h]
def K6{l a:List bn}{t:T}{s:List cV}(h:iT l)(d:t.ok=true)(b:kt s=true)(he:nh l t s=some a):iT a:=by
 refine⟨fun x c=>?_,?_⟩
 ·rcases(Fb he x).1 c with J|⟨J,U⟩
  ·exact h.at' x J
  ·exact⟨yK d U,by rw[J];exact b⟩
 ·unfold nh at he;split at he
  ·cases he
  ·cases he;exact Lb mU _
def ha(s:List Bd):List bn->List bn->Option (List bn)
 |[],acc=>some acc
 |x::r,acc=>match nh acc (cR s x.v) x.s with
  |some a=>ha s r a
  |none=>none
end
end Go.Pv
namespace Go.Proofs.YtahlgcidhnjlbaaGreat
section
open Go Go.Pv
def SA:C:=(aa [cU 1 0,bu 2 false] (aa [bf 3 4 1,dN 4 131 [.t 3,(gV 5000)],aV 5 .gtr 4 0,I 2 5] .ret))
def S2:C:=(aa [ds (.box 2 (some 201) (.t 0)),cU 3 1,dF 4 eB,bu 5 false] (aa [bf 6 4 3,cf 7 (.mkf 138 [.t 2]),b8 8 137 6 7,cS 9 0 8,cS 10 1 8,bV 4 4 9,I 5 10] .ret))
def T5:C:=(aa [dF 2 eB] (aa [I 3 0,jz 4 eB [(0,1,(gV 1)),(1,1,(.t 3))],bV 4 2 4] .ret))
def A3:C:=(aa [cU 1 0,dF 2 eB] (aa [aF 6 0 1 1,az 7 1 6,aF 8 1 1 1,az 9 1 8,aF 10 2 1 1,az 11 1 10,jz 12 eB [(0,1,(.t 7)),(1,1,(.t 9)),(2,1,(.t 11))],dF 3 eB,bV 4 3 12] (.seq (aa [aF 13 3 1 1,az 14 1 13,cx 15 14,bM 16 0] (gz 17 16 15 (.seq (.block 1 (aa [cl 18 4 14 16,bf 19 4 18,dF 5 eB,bV 4 5 19] (.drawn true 29 [aF 20 3 1 3,az 21 1 20,bf 22 4 5,cQ 23 130 22,eX 24 4 30 [.t 23],hT 25 4 30 21 24,aF 26 3 1 3,bV 1 26 25]))) (.region [aV 27 .add 16 1,I 16 27])))) (aa [bf 28 4 3,bV 4 2 28] .ret))))
def SY:C:=(aa [cU 2 0,bM 4 0] (.seq (aa [I 7 1,aV 8 .lss 7 1] (aW 8 (aa [bM 4 (-1)] .ret) .skip)) (.seq (aa [aF 9 0 1 2,az 10 1 9,aV 11 .neq 10 4] (aW 11 (.seq (aa [aF 12 3 1 2,az 13 1 12,cx 14 13,aV 15 .neq 14 0] (aW 15 (aa [bM 4 (-1)] .ret) .skip)) (.seq (aa [aF 16 0 1 2,az 17 1 16] (.block 0 (aa [aV 19 .eql 17 0,I 18 19] (aW 18 (aa [aF 20 1 1 2,az 21 1 20,aV 22 .neq 21 0,I 23 22,ax 23 false (aF 24 2 1 2),ax 23 false (az 25 1 24),yN 23 false 26 (.bin .neq false (.t 25) (.c (.str []))),dq 27 23 26] (aW 27 (aa [bM 4 (-1)] .ret) .skip)) (aa [aV 29 .eql 17 1,I 28 29] (aW 28 (aa [aF 30 1 1 2,az 31 1 30,aV 32 .lss 31 0,I 33 32,ax 33 false (aF 34 1 1 2),ax 33 false (az 35 1 34),ax 33 false (aV 36 .gtr 35 100000),dq 37 33 36,I 38 37,ax 38 false (aF 39 2 1 2),ax 38 false (az 40 1 39),yN 38 false 41 (.bin .neq false (.t 40) (.c (.str []))),dq 42 38 41] (aW 42 (aa [bM 4 (-1)] .ret) .skip)) (aa [aV 44 .eql 17 2,I 43 44] (aW 43 (aa [aF 45 1 1 2,az 46 1 45,aV 47 .neq 46 0,I 48 47,ax 48 false (aF 49 2 1 2),ax 48 false (az 50 1 49),ax 48 false (cQ 51 160 50),ax 48 false (cK 52 51),dq 53 48 52] (aW 53 (aa [bM 4 (-1)] .ret) .skip)) (aa [aV 55 .eql 17 3,I 54 55] (aW 54 (aa [aF 56 1 1 2,az 57 1 56,aV 58 .lss 57 (-1000000000),I 59 58,ax 59 false (aF 60 1 1 2),ax 59 false (az 61 1 60),ax 59 false (aV 62 .gtr 61 1000000000),dq 63 59 62,I 64 63,ax 64 false (aF 65 2 1 2),ax 64 false (az 66 1 65),yN 64 false 67 (.bin .neq false (.t 66) (.c (.str []))),dq 68 64 67] (aW 68 (aa [bM 4 (-1)] .ret) .skip)) (aa [bM 4 (-1)] .ret))))))))))) (aa [bM 4 1] .ret))) .skip)) (.seq (aa [aF 69 1 1 2,az 70 1 69,aV 71 .neq 70 0,I 72 71,ax 72 false (aF 73 2 1 2),ax 72 false (az 74 1 73),yN 72 false 75 (.bin .neq false (.t 74) (.c (.str []))),dq 76 72 75,I 77 76,ax 77 false (aF 78 3 1 2),ax 77 false (az 79 1 78),ax 77 false (cx 80 79),ax 77 false (aV 81 .neq 80 2),dq 82 77 81] (aW 82 (aa [bM 4 (-1)] .ret) .skip)) (aa [aF 83 3 1 2,az 84 1 83,kD 85 4 84 0,bf 86 4 85,I 87 1,aV 88 .sub 87 1,b8 89 131 86 88,I 5 89] (.seq (aa [I 90 5,aV 91 .lss 90 0] (aW 91 (aa [bM 4 (-1)] .ret) .skip)) (aa [aF 92 3 1 2,az 93 1 92,kD 94 4 93 1,bf 95 4 94,I 96 1,aV 97 .sub 96 1,I 98 5,bt 99 .sub 97 98,b8 100 131 95 99,I 6 100] (.seq (aa [I 101 6,aV 102 .lss 101 0] (aW 102 (aa [bM 4 (-1)] .ret) .skip)) (aa [I 103 5,cf 104 (.bin .add false (gV 1) (.t 103)),I 105 6,bt 106 .add 104 105,I 4 106] .ret)))))))))
def GS:C:=(aa [cU 2 0,cU 3 1,bM 4 0] (.seq (aa [aF 6 0 1 2,az 7 1 6,aF 8 0 1 3,az 9 1 8,bt 10 .neq 7 9] (aW 10 (aa [aF 11 0 1 2,az 12 1 11,aF 13 0 1 3,az 14 1 13,b8 15 190 12 14,I 4 15] .ret) .skip)) (.seq (aa [aF 16 1 1 2,az 17 1 16,aF 18 1 1 3,az 19 1 18,bt 20 .neq 17 19] (aW 20 (aa [aF 21 1 1 2,az 22 1 21,aF 23 1 1 3,az 24 1 23,b8 25 190 22 24,I 4 25] .ret) .skip)) (.seq (aa [aF 26 2 1 2,az 27 1 26,aF 28 2 1 3,az 29 1 28,bt 30 .neq 27 29] (aW 30 (.seq (aa [aF 31 2 1 2,az 32 1 31,aF 33 2 1 3,az 34 1 33,bt 35 .lss 32 34] (aW 35 (aa [bM 4 (-1)] .ret) .skip)) (aa [bM 4 1] .ret)) .skip)) (.seq (aa [aF 36 0 1 2,az 37 1 36,aV 38 .neq 37 4] (aW 38 (aa [bM 4 0] .ret) .skip)) (.seq (.seq (.drawn true 60 [aF 39 3 1 2,az 40 1 39,kD 41 4 40 0,bf 42 4 41,aF 43 3 1 3,az 44 1 43,kD 45 4 44 0,bf 46 4 45,b8 47 133 42 46,I 5 47]) (aa [I 48 5,aV 49 .neq 48 0] (aW 49 (aa [I 50 5,I 4 50] .ret) .skip))) (.seq (.drawn true 60 [aF 51 3 1 2,az 52 1 51,kD 53 4 52 1,bf 54 4 53,aF 55 3 1 3,az 56 1 55,kD 57 4 56 1,bf 58 4 57,b8 59 133 54 58,I 4 59]) .ret)))))))
def y5:C:=(aa [cU 2 0] (.seq (aa [aF 4 0 1 2,az 5 1 4,aV 6 .eql 5 1] (aW 6 (.region [I 7 1,aF 8 1 1 2,az 9 1 8,hI 10 7 [.t 9]]) .skip)) (aa [aF 11 0 1 2,az 12 1 11,aV 13 .eql 12 4] (aW 13 (aa [aF 14 3 1 2,az 15 1 14,kD 16 4 15 0,bf 17 4 16,I 18 1,b8 19 134 17 18] (.region [aF 20 3 1 2,az 21 1 20,kD 22 4 21 1,bf 23 4 22,I 24 1,b8 25 134 23 24])) .skip))))
def S7:C:=(aa [eY 2 1] (aa [ds (.bslm 5 (some 306) 1 3 []),I 3 5] (.seq (aa [I 6 0,ds (.range 7 none (.t 6))] (.block 0 (.loop (aa [⟨none,.next 8 (.t 7)⟩,cS 9 0 8] (.seq (aW 9 .skip (.exit 0)) (.block 1 (aa [cf 10 (.ment (.t 7)),cS 11 0 10,I 4 11] (.region [I 12 3,I 13 4,eX 14 1 3 [.t 13],ds (.appm 15 none 1 3 (.t 12) (.t 14)),I 3 15])))))))) (aa [I 16 3,cQ 17 191 16] (.seq (.pub 3 (.region [I 18 3,I 2 18])) .ret)))))
def S4:C:=(aa [cU 2 0,ds (.box 3 (some 202) (.t 1)),dF 4 eB,bu 5 false] (aa [bf 7 4 2,cf 8 (.mkf 193 [.t 3]),b8 9 192 7 8,I 6 9] (.seq (aa [I 10 6,aV 11 .gtr 10 5000] (aW 11 (aa [jz 12 eB [],bV 4 4 12,bu 5 false] .ret) .skip)) (aa [bf 13 4 2,az 14 1 3,b8 15 194 13 14,bV 4 4 15,bu 5 true] .ret))))
def S3:C:=(aa [dF 3 eB,bu 4 false] (.seq (aa [az 6 1 1,I 7 0,b8 8 139 6 7,I 5 8] (aa [I 9 5,aV 10 .geq 9 0] (aW 10 (aa [az 11 1 1,I 12 5,cl 13 5 11 12,hr 14 1 4 13,bf 15 4 14,bV 4 3 15,bu 4 true] .ret) .skip))) (aa [jz 16 eB [],bV 4 3 16,bu 4 false] .ret)))
def SR:C:=(aa [ds (.box 2 (some 101) (.t 0)),ds (.box 3 (some 102) (.t 1)),bM 4 0] (aa [az 6 1 2,cx 7 6,cf 8 (.mkf 196 [.t 2,.t 3]),b8 9 195 7 8,I 5 9] (.seq (.seq (.drawn true 24 [I 10 5,az 11 1 2,cx 12 11,bt 13 .lss 10 12,I 14 13,ax 14 true (az 15 1 2),cg 14 true 16 5,ax 14 true (cl 17 5 15 16),ax 14 true (aF 18 0 1 17),ax 14 true (az 19 1 18),ax 14 true (az 20 1 3),ax 14 true (bt 21 .eql 19 20),ej 22 14 21]) (aW 22 (aa [I 23 5,I 4 23] .ret) .skip)) (aa [bM 4 (-1)] .ret))))
def SP:C:=(aa [cU 2 0,cU 3 1,bu 4 false] (aa [bf 5 4 2,bf 6 4 3,b8 7 133 5 6,aV 8 .eql 7 0,I 4 8] .ret))
def DE:C:=(aa [cU 1 0,dF 2 eB] (.seq (aa [aF 3 0 1 1,az 4 1 3,aV 5 .neq 4 4] (aW 5 (aa [aF 6 0 1 1,az 7 1 6,aF 8 1 1 1,az 9 1 8,aF 10 2 1 1,az 11 1 10,jz 12 eB [(0,1,(.t 7)),(1,1,(.t 9)),(2,1,(.t 11))],bV 4 2 12] .ret) .skip)) (.seq (.drawn true 25 [aF 13 3 1 1,az 14 1 13,kD 15 4 14 0,bf 16 4 15,cQ 17 143 16,aF 18 3 1 1,az 19 1 18,kD 20 4 19 1,bf 21 4 20,cQ 22 143 21,eX 23 4 30 [.t 17,.t 22],jz 24 eB [(0,1,(gV 4)),(3,1,(.t 23))],bV 4 2 24]) .ret)))
def SC:C:=(aa [bu 2 false] (.seq (aa [I 5 0,cx 6 5,aV 7 .gtr 6 400] (aW 7 (aa [bu 2 false] .ret) .skip)) (.seq (aa [I 8 0,cx 9 8,bM 10 0] (gz 11 10 9 (.seq (.block 1 (aa [I 12 10,cl 13 5 8 10,bf 14 5 13,dF 4 kv,I 3 12,bV 5 4 14] (.seq (.drawn true 45 [aF 15 0 1 4,az 16 1 15,aV 17 .lss 16 0,I 18 17,ax 18 false (aF 19 0 1 4),ax 18 false (az 20 1 19),ax 18 false (aV 21 .gtr 20 100000),dq 22 18 21,I 23 22,cg 23 false 24 3,ax 23 false (aV 25 .gtr 24 0),cg 23 false 26 25,cg 26 true 27 0,cg 26 true 28 3,ax 26 true (aV 29 .sub 28 1),ax 26 true (cl 30 5 27 29),ax 26 true (aF 31 0 1 30),ax 26 true (az 32 1 31),ax 26 true (aF 33 0 1 4),ax 26 true (az 34 1 33),ax 26 true (bt 35 .geq 32 34),ax 23 false (ej 36 26 35),dq 37 23 36,I 38 37,ax 38 false (hr 39 1 4 4),ax 38 false (bf 40 4 39),ax 38 false (cQ 41 64 40),ax 38 false (cK 42 41),dq 43 38 42]) (aW 43 (aa [bu 2 false] .ret) .skip)))) (.region [aV 44 .add 10 1,I 10 44])))) (aa [bu 2 true] .ret))))
def Sr:C:=(aa [bu 2 false] (.seq (aa [I 4 0,cf 5 (.slen (.t 4)),aV 6 .lss 5 1,I 7 6,cg 7 false 8 0,ax 7 false (cf 9 (.slen (.t 8))),ax 7 false (aV 10 .gtr 9 12),dq 11 7 10,I 12 11,cg 12 false 13 0,ax 12 false (cf 14 (.sidx (.t 13) (gV 0))),ax 12 false (cf 15 (.bin .lss false (.t 14) (.c (.int .u8 97)))),dq 16 12 15,I 17 16,cg 17 false 18 0,ax 17 false (cf 19 (.sidx (.t 18) (gV 0))),ax 17 false (cf 20 (.bin .gtr false (.t 19) (.c (.int .u8 122)))),dq 21 17 20] (aW 21 (aa [bu 2 false] .ret) .skip)) (.seq (aa [bM 3 1] (.block 0 (.loop (.seq (aa [I 22 3,I 23 0,cf 24 (.slen (.t 23)),bt 25 .lss 22 24] (aW 25 .skip (.exit 0))) (.seq (.block 1 (aa [I 28 0,I 29 3,cf 30 (.sidx (.t 28) (.t 29)),cf 31 (.bin .geq false (.t 30) (.c (.int .u8 97))),I 32 31,cg 32 true 33 0,cg 32 true 34 3,ax 32 true (cf 35 (.sidx (.t 33) (.t 34))),ax 32 true (cf 36 (.bin .leq false (.t 35) (.c (.int .u8 122)))),ej 37 32 36,I 38 37,cg 38 false 39 0,cg 38 false 40 3,ax 38 false (cf 41 (.sidx (.t 39) (.t 40))),ax 38 false (cf 42 (.bin .geq false (.t 41) (.c (.int .u8 48)))),cg 38 false 43 42,cg 43 true 44 0,cg 43 true 45 3,ax 43 true (cf 46 (.sidx (.t 44) (.t 45))),ax 43 true (cf 47 (.bin .leq false (.t 46) (.c (.int .u8 57)))),ax 38 false (ej 48 43 47),dq 49 38 48,I 50 49,cg 50 false 51 0,cg 50 false 52 3,ax 50 false (cf 53 (.sidx (.t 51) (.t 52))),ax 50 false (cf 54 (.bin .eql false (.t 53) (.c (.int .u8 45)))),dq 55 50 54,cK 56 55] (aW 56 (aa [bu 2 false] .ret) .skip))) (.region [I 26 3,aV 27 .add 26 1,I 3 27])))))) (aa [bu 2 true] .ret))))
def Ls:C:=(aa [bu 2 false] (.seq (aa [I 5 0,cx 6 5,bM 7 0] (gz 8 7 6 (.seq (.block 1 (aa [cl 9 4 5 7,bf 10 4 9,dF 4 eB,bV 4 4 10] (aa [bf 11 4 4,cQ 12 64 11,cK 13 12] (aW 13 (aa [bu 2 false] .ret) .skip)))) (.region [aV 14 .add 7 1,I 7 14])))) (aa [bu 2 true] .ret)))
def T2:C:=(aa [cU 2 0,cU 3 1,dF 4 eB] (aa [bf 5 4 2,bf 6 4 3,eX 7 4 30 [.t 5,.t 6],jz 8 eB [(0,1,(gV 4)),(3,1,(.t 7))],bV 4 4 8] .ret))
def S0:C:=(aa [bM 4 0] (.seq (aa [I 5 0,I 6 1,bt 7 .lss 5 6] (aW 7 (aa [bM 4 (-1)] .ret) .skip)) (.seq (aa [I 8 0,I 9 1,bt 10 .gtr 8 9] (aW 10 (aa [bM 4 1] .ret) .skip)) (aa [bM 4 0] .ret))))
def xh:C:=(aa [cU 2 0,bM 4 0] (.seq (aa [aF 6 0 1 2,az 7 1 6] (.block 0 (aa [aV 9 .eql 7 1,I 8 9] (aW 8 (aa [I 10 1,aF 11 1 1 2,az 12 1 11,hI 13 10 [.t 12],cf 14 (.min2 (.t 13) (gV 5001)),I 4 14] .ret) (aa [aV 16 .eql 7 4,I 15 16] (aW 15 (aa [aF 17 3 1 2,az 18 1 17,kD 19 4 18 0,bf 20 4 19,I 21 1,b8 22 192 20 21,I 5 22] (.seq (aa [I 23 5,aV 24 .gtr 23 5000] (aW 24 (aa [I 25 5,I 4 25] .ret) .skip)) (aa [I 26 5,cf 27 (.bin .add false (gV 1) (.t 26)),aF 28 3 1 2,az 29 1 28,kD 30 4 29 1,bf 31 4 30,I 32 1,b8 33 192 31 32,bt 34 .add 27 33,cf 35 (.min2 (.t 34) (gV 5001)),I 4 35] .ret))) .skip)))))) (aa [bM 4 1] .ret)))
def S5:C:=(aa [bM 3 0] (.seq (aa [az 7 1 1,I 8 0,hI 9 7 [.t 8],I 6 9,cS 10 0 6,cS 11 1 6,dF 4 eB,bV 4 4 10,I 5 11] (aa [I 12 5] (aW 12 (aa [bf 13 4 4,dN 14 131 [.t 13,(gV 5000)],I 3 14] .ret) .skip))) (aa [bM 3 1] .ret)))
def y6:C:=(aa [cU 2 0,dF 4 eB] (.seq (aa [aF 7 0 1 2,az 8 1 7] (.block 0 (aa [aV 10 .eql 8 1,I 9 10] (aW 9 (.seq (aa [I 12 1,aF 13 1 1 2,az 14 1 13,hI 15 12 [.t 14],I 11 15,cS 16 0 11,cS 17 1 11,dF 5 eB,bV 4 5 16,I 6 17] (aa [I 18 6] (aW 18 (aa [bf 19 4 5,cQ 20 143 19,bV 4 4 20] .ret) .skip))) (aa [bf 21 4 2,bV 4 4 21] .ret)) (aa [aV 23 .eql 8 4,I 22 23] (aW 22 (.seq (.drawn false 38 [aF 24 3 1 2,az 25 1 24,kD 26 4 25 0,bf 27 4 26,I 28 1,b8 29 194 27 28,aF 30 3 1 2,az 31 1 30,kD 32 4 31 1,bf 33 4 32,I 34 1,b8 35 194 33 34,b8 36 221 29 35,bV 4 4 36]) .ret) .skip)))))) (aa [bf 37 4 2,bV 4 4 37] .ret)))
def Tz:C:=(aa [bM 4 0] (aa [I 8 0,bM 5 0,I 6 8] (.seq (.block 0 (.loop (.seq (aa [I 9 5,I 10 6,bt 11 .lss 9 10] (aW 11 .skip (.exit 0))) (.block 1 (aa [I 12 5,I 13 6,bt 14 .add 12 13,cf 15 (.conv .u64 (.t 14)),cf 16 (.bin .shr false (.t 15) (.c (.int .u64 1))),cf 17 (.conv .i64 (.t 16)),I 7 17] (aa [I 18 1,I 19 7,hI 20 18 [.t 19],cK 21 20] (aW 21 (.region [I 22 7,aV 23 .add 22 1,I 5 23]) (.region [I 24 7,I 6 24])))))))) (aa [I 25 5,I 4 25] .ret))))
def SU:C:=(aa [bu 4 false] (.seq (.drawn true 12 [az 5 1 1,I 6 0,cl 7 5 5 6,aF 8 0 1 7,az 9 1 8,az 10 1 2,bt 11 .geq 9 10,I 4 11]) .ret))
def S1:C:=(aa [cU 2 0,cU 3 1,dF 4 eB] (aa [bf 5 4 2,bf 6 4 3,eX 7 4 30 [.t 5,.t 6],jz 8 eB [(0,1,(gV 4)),(3,1,(.t 7))],bV 4 4 8] .ret))
def aS:List (Nat×et):=[(3,⟨1,8,.int .i64,.int .i64 0⟩),(4,⟨1,1,.bool,.bool false⟩),(5,⟨1,1,.int .u8,.int .u8 0⟩),(9,⟨1,16,.str,.str []⟩),(22,⟨1,24,.slice 24,.slice 4 .nil []⟩),(24,⟨4,56,.struct [(0,3),(1,3),(2,9),(3,22)],.agg [.int .i64 0,.int .i64 0,.str [],.slice 4 .nil []]⟩),(27,⟨1,24,.slice 30,.slice 4 .nil []⟩),(30,⟨4,56,.struct [(0,3),(1,3),(2,9),(3,27)],.agg [.int .i64 0,.int .i64 0,.str [],.slice 4 .nil []]⟩),(38,⟨1,24,.slice 111,.slice 5 .nil []⟩),(39,⟨1,24,.slice 38,.slice 1 .nil []⟩),(40,⟨1,24,.slice 158,.slice 2 .nil []⟩),(41,⟨1,24,.slice 146,.slice 2 .nil []⟩),(43,⟨5,104,.struct [(0,3),(1,38),(2,39),(3,40),(4,41)],.agg [.int .i64 0,.slice 5 .nil [],.slice 1 .nil [],.slice 2 .nil [],.slice 2 .nil []]⟩),(46,⟨1,24,.slice 113,.slice 5 .nil []⟩),(47,⟨1,24,.slice 46,.slice 1 .nil []⟩),(48,⟨1,24,.slice 98,.slice 2 .nil []⟩),(49,⟨1,24,.slice 100,.slice 2 .nil []⟩),(51,⟨5,104,.struct [(0,3),(1,46),(2,47),(3,48),(4,49)],.agg [.int .i64 0,.slice 5 .nil [],.slice 1 .nil [],.slice 2 .nil [],.slice 2 .nil []]⟩),(76,⟨1,24,.slice 3,.slice 1 .nil []⟩),(98,⟨2,16,.struct [(0,3),(1,3)],.agg [.int .i64 0,.int .i64 0]⟩),(100,⟨2,24,.struct [(0,3),(1,9)],.agg [.int .i64 0,.str []]⟩),(111,⟨5,64,.struct [(0,3),(1,24)],.agg [.int .i64 0,.int .i64 0,.int .i64 0,.str [],.slice 4 .nil []]⟩),(113,⟨5,64,.struct [(0,3),(1,30)],.agg [.int .i64 0,.int .i64 0,.int .i64 0,.str [],.slice 4 .nil []]⟩),(136,⟨1,8,.map 3 4,.junk⟩),(141,⟨1,8,.other,.junk⟩),(143,⟨1,8,.other,.junk⟩),(144,⟨1,24,.slice 5,.slice 1 .nil []⟩),(146,⟨2,24,.struct [(0,3),(1,9)],.agg [.int .i64 0,.str []]⟩),(158,⟨2,16,.struct [(0,3),(1,3)],.agg [.int .i64 0,.int .i64 0]⟩),(165,⟨1,8,.map 100 4,.junk⟩),(181,⟨1,8,.other,.junk⟩),(185,⟨2,16,.struct [(0,143),(1,181)],.agg [.junk,.junk]⟩),(192,⟨1,8,.int .u64,.int .u64 0⟩),(194,⟨1,8,.other,.nilp⟩),(206,⟨1,4,.int .u32,.int .u32 0⟩),(208,⟨1,8,.int .u64,.int .u64 0⟩),(216,⟨1,8,.map 3 3,.junk⟩),(217,⟨1,8,.map 3 30,.junk⟩),(219,⟨6,48,.struct [(0,216),(1,217),(2,136),(3,216),(4,216),(5,217)],.agg [.junk,.junk,.junk,.junk,.junk,.junk]⟩),(222,⟨1,8,.int .u64,.int .u64 0⟩)]
def mixed:au.follows .mixedOrders=true:=bi
def bF{aS:List (Nat×et)}(e:hR au aS=true){f:FuncId}{fn:Func}(h:au.funcs[f]? =some fn){c:C}{a:List bU}{n:Nat}(b:b2 aS c a n fn=true){args:List af}{r:af}(he:eK args->de au [] c (bZ a r) ⟨iM 0 args,[],[],0,[]⟩)(d:args.length<=n:=by simp)(g:aA (fun _=>eb) r:=by simp[aA]):bT au f args r:=bT.mk mixed e h b d g he
def a6:hR au aS=true:=bi
def an6:b2 aS SA [.tmp 2] 1 Tryz.f64=true:=bi
def aov:b2 aS S2 [.cell 4 true 4,.tmp 5] 2 Tryz.f69=true:=bi
def apy:b2 aS T5 [.cell 2 true 4] 1 Tryz.f114=true:=bi
def Ft:b2 aS A3 [.cell 2 true 4] 1 Tryz.f130=true:=bi
def aor:b2 aS SY [.tmp 4] 2 Tryz.f131=true:=bi
def Po:b2 aS GS [.tmp 4] 2 Tryz.f133=true:=bi
def Cx:b2 aS y5 [] 2 Tryz.f134=true:=bi
def aoA:b2 aS S7 [.tmp 2] 1 Tryz.f136=true:=bi
def aox:b2 aS S4 [.cell 4 true 4,.tmp 5] 2 Tryz.f137=true:=bi
def aow:b2 aS S3 [.cell 3 true 4,.tmp 4] 2 Tryz.f138=true:=bi
def aon:b2 aS SR [.tmp 4] 2 Tryz.f139=true:=bi
def aol:b2 aS SP [.tmp 4] 2 Tryz.f142=true:=bi
def Jj:b2 aS DE [.cell 2 true 4] 1 Tryz.f143=true:=bi
def an8:b2 aS SC [.tmp 2] 1 Tryz.f158=true:=bi
def anX:b2 aS Sr [.tmp 2] 1 Tryz.f160=true:=bi
def ZP:b2 aS Ls [.tmp 2] 1 Tryz.f172=true:=bi
def apv:b2 aS T2 [.cell 4 true 4] 2 Tryz.f189=true:=bi
def aot:b2 aS S0 [.tmp 4] 2 Tryz.f190=true:=bi
def Ab:b2 aS xh [.tmp 4] 2 Tryz.f192=true:=bi
def aoy:b2 aS S5 [.tmp 3] 2 Tryz.f193=true:=bi
def Cy:b2 aS y6 [.cell 4 true 4] 2 Tryz.f194=true:=bi
def ao1:b2 aS Tz [.tmp 4] 2 Tryz.f195=true:=bi
def aoo:b2 aS SU [.tmp 4] 3 Tryz.f196=true:=bi
def aou:b2 aS S1 [.cell 4 true 4] 2 Tryz.f221=true:=bi
def ama(s:List cV)(k:Nat)(st:bo):Prop:=∃i:Nat,1<=i/\i<=s.length/\k=s.length-i/\((s.drop 1).all n2=(s.drop i).all n2)/\st=⟨[(0,.str s),(3,aj i)],[],[],0,[]⟩
def vu(s:List cV):bT au 160 [.str s] (.bool (kt s)):=by
 refine bT.mk mixed a6 Tryz.func160 anX Ψ dl fun m=>?_;unfold Sr;simp;(with_reducible repeat' first|((first|refine cq (fun h=>?_) fun h=>?_|refine cu (fun h=>?_) fun h=>?_|refine ct (fun h=>?_) fun h=>?_)<;>try simp at h)|refine al ?_|simp);case refine_1.refine_1.refine_1.refine_2=>
  have b:kt s=(s.drop 1).all n2:=by simp[kt,low];omega
  rw[b];refine qH (ama s) (s.length-1) _ ⟨Ψ,by simp[hA],by simp[qo],Ψ⟩ ⟨1,Ω,Ω,rfl,rfl,rfl⟩ ?_;rintro k st ⟨i,f,j,ad,c,rfl⟩ g l;rw[c];simp;refine cq (fun a=>?_) (fun e=>?_)
  ·simp at a;have d:s.drop i=s[i]?.getD 0::s.drop (i+1):=by rw[lJ a];simp[a]
   simp;(with_reducible repeat' first|((first|refine cq (fun h=>?_) fun h=>?_|refine cu (fun h=>?_) fun h=>?_|refine ct (fun h=>?_) fun h=>?_)<;>try simp at h)|refine al ?_|simp);all_goals first
    |(simp[bZ,ba,be,a1,d,n2,low];omega)
    |(simp only[Gs];refine⟨s.length-(i+1),_,Ω,⟨Ψ,by simp[hA],by simp[qo],Ψ⟩,i+1,Ω,Ω,rfl,?_,rfl⟩;rw[c,d];simp[n2,low];omega)
  ·simp at e;have:s.drop i=[]:=by simp;omega
   simp[bZ,ba,be,a1,this]
 all_goals simp[bZ,ba,be,a1,kt,low]
 all_goals omega
def adq(m:Nat):∀(t:Tm),t.sz<=m->∀(room:Int),0<=room/\room<=10000->bT au 131 [enc t,aj room] (aj (gv t room)):=by
 induction m with
 |zero=>intro t c;cases t;simp[Tm.sz]at c
 |succ m d=>
 rintro⟨k,n,s,args⟩ c room f;refine bF a6 Tryz.func131 aor fun p=>?_;unfold SY;simp[Tm.kind,Tm.num,Tm.name,Tm.args];(with_reducible repeat' first|((first|refine cq (fun h=>?_) fun h=>?_|refine cu (fun h=>?_) fun h=>?_|refine ct (fun h=>?_) fun h=>?_)<;>try simp at h)|refine al ?_|simp);all_goals try refine CallDo.val Ψ (vu _) ?_
 all_goals try simp
 (with_reducible repeat' first|((first|refine cq (fun h=>?_) fun h=>?_|refine cu (fun h=>?_) fun h=>?_|refine ct (fun h=>?_) fun h=>?_)<;>try simp at h)|refine al ?_|simp);all_goals try simp[bZ,ba,be,a1]
 case succ.refine_2.refine_2.refine_1.refine_1.refine_2=>
  rename_i l J U e;match args,h with
  |[a,b],_=>
  simp[Tm.sz,Tm.szL]at c;subst J U e;simp;(with_reducible repeat' first|((first|refine cq (fun h=>?_) fun h=>?_|refine cu (fun h=>?_) fun h=>?_|refine ct (fun h=>?_) fun h=>?_)<;>try simp at h)|refine al ?_|simp);refine CallDo.val Ψ (d a Ω (room-1) Ω) ?_;simp;have j:=O8 a (room-1);have g:=Fj a (room-1);(with_reducible repeat' first|((first|refine cq (fun h=>?_) fun h=>?_|refine cu (fun h=>?_) fun h=>?_|refine ct (fun h=>?_) fun h=>?_)<;>try simp at h)|refine al ?_|simp)
  ·simp[bZ,ba,be,a1];rw[O7];simp;omega
  ·refine CallDo.val Ψ (d b Ω (room-1-gv a (room-1)) Ω) ?_;simp;have o:=O8 b (room-1-gv a (room-1));have i:=Fj b (room-1-gv a (room-1));(with_reducible repeat' first|((first|refine cq (fun h=>?_) fun h=>?_|refine cu (fun h=>?_) fun h=>?_|refine ct (fun h=>?_) fun h=>?_)<;>try simp at h)|refine al ?_|simp);all_goals simp[bZ,ba,be,a1]
   all_goals rw[O7];simp;omega
 all_goals rw[O7]
 all_goals simp_all[mo]
 all_goals first|omega|(split<;>simp at h⊢)
def Kw(t:Tm):bT au 64 [enc t] (.bool t.fits):=by refine bF a6 Tryz.func64 an6 fun a=>?_;unfold SA;simp;refine CallDo.val Ψ (adq t.sz t (dO _) 5000 Ω) ?_;simp;simp[bZ,ba,be,a1];simp[Tm.fits]
def asA(t:T):bT au 64 [t.e] (.bool t.fit):=by have:=Kw t.tm;rwa[mF,Tm.fits_T]at this
def KD(a b:T):bT au 221 [a.e,b.e] (T.pair a b).e:=by refine bF a6 Tryz.func221 aou fun c=>?_;unfold S1;simp;(with_reducible repeat' first|((first|refine cq (fun h=>?_) fun h=>?_|refine cu (fun h=>?_) fun h=>?_|refine ct (fun h=>?_) fun h=>?_)<;>try simp at h)|refine al ?_|simp);all_goals try simp[bZ,ba,be,a1]
def Ky(a b:T):bT au 189 [a.e,b.e] (T.pair a b).e:=by refine bF a6 Tryz.func189 apv fun c=>?_;unfold T2;simp;(with_reducible repeat' first|((first|refine cq (fun h=>?_) fun h=>?_|refine cu (fun h=>?_) fun h=>?_|refine ct (fun h=>?_) fun h=>?_)<;>try simp at h)|refine al ?_|simp);all_goals try simp[bZ,ba,be,a1]
def vv(t:T):bT au 143 [t.e] t.e:=by
 induction t with
 |pair a b e d=>refine bF a6 Tryz.func143 Jj fun c=>?_;unfold DE;exact cn
 |_=>refine bF a6 Tryz.func143 Jj fun c=>?_;unfold DE;exact cn
def pH(a b:Int):bT au 190 [aj a,aj b] (aj (fe a b)):=by
 refine bF a6 Tryz.func190 aot fun c=>?_;unfold S0;simp;((repeat' first|refine al ?_|simp|((first|apply cq|apply cu|apply ct)<;>intro h<;>try simp at h))<;>(try exact c0));all_goals simp[bZ,ba,be,a1]
 all_goals simp[fe]
 all_goals omega
def De(a:T):∀b:T,bT au 133 [a.e,b.e] (aj (e8 a b)):=by
 induction a with
 |pair i a2 e d=>
  intro b;cases b with
  |pair f g=>
   refine bF a6 Tryz.func133 Po fun c=>?_;unfold GS;simp;((repeat' first|refine al ?_|refine aO (e _) ?_|refine aP (e _) ?_|refine aO (d _) ?_|refine aP (d _) ?_|refine aO (pH _ _) ?_|refine aP (pH _ _) ?_|simp|((first|apply cq|apply cu|apply ct)<;>intro h<;>try simp at h))<;>(try exact c0));all_goals simp[bZ,ba,be,a1]
   all_goals simp_all[e8]
  |_=>
   refine bF a6 Tryz.func133 Po fun c=>?_;unfold GS;simp;(repeat' first|refine al ?_|refine aO (pH _ _) ?_|refine aP (pH _ _) ?_|simp);all_goals simp[bZ,ba,be,a1]
   all_goals simp_all[e8]
 |_=>
  intro b;cases b<;>
  (refine bF a6 Tryz.func133 Po fun c=>?_;unfold GS
   simp
   (with_reducible repeat' first|((first|apply cq|apply cu|apply ct)<;>intro h<;>try simp at h)|refine al ?_|refine aO (pH _ _) ?_|refine aP (pH _ _) ?_|simp)
   all_goals simp[bZ,ba,be,a1]
   all_goals simp_all[e8,lA])
def vw(a b:T):bT au 142 [a.e,b.e] (.bool (decide (a=b))):=by
 refine bF a6 Tryz.func142 aol fun c=>?_;unfold SP;simp;(repeat' first|refine al ?_|refine aO (De _ _) ?_|refine aP (De _ _) ?_|simp);all_goals simp[bZ,ba,be,a1]
 have:=sK a b;by_cases h:e8 a b=0<;>simp_all
open Classical in
def ame(l:List Bt)(k:Nat)(st:bo):Prop:=∃i:Nat,i<=l.length/\k=l.length-i/\(∀j,j<i->Cw l j)/\st=⟨[(0,bH (l.map Bt.e)),(8,bH (l.map Bt.e)),(9,aj l.length),(10,aj i)],[],[],0,[]⟩
open Classical in
def asC(l:List Bt):bT au 158 [bH (l.map Bt.e)] (.bool (decide (AS l))):=by
 refine bF a6 Tryz.func158 an8 fun v=>?_;unfold SC;simp;(with_reducible repeat' first|((first|apply cq|apply cu|apply ct)<;>intro h<;>try simp at h)|refine al ?_|simp)
 ·simp[bZ,ba,be,a1];intro a;have:=a.1;omega
 ·refine qH (ame l) l.length _ ⟨Ψ,by simp[hA],by simp[qo],Ψ⟩ ⟨0,Ω,Ω,Ψ,rfl⟩ ?_;rintro k st ⟨i,hi,ad,g,rfl⟩ p q;simp;refine cq (fun d=>?_) (fun o=>?_)
  ·simp at d;obtain⟨b,f⟩:∃b,l[i]? =some b:=⟨_,ck d⟩;obtain⟨c,ay⟩:∃c,l[i-1]? =some c:=⟨_,ck Ω⟩;clear p q;simp[f,ay];((repeat' first|refine al ?_|refine aO (Kw _) ?_|refine aP (Kw _) ?_|simp[ay]|((first|apply cq|apply cu|apply ct)<;>intro h<;>try simp at h))<;>(try exact c0));all_goals first
    |(simp[bZ,ba,be,a1];intro a;have J:=a.2 i d b f;have U:=J.2.1 c;have r:=J.2.2;first|omega|(have:=U Ω ay;omega)|(rw[r]at h;cases h)|simp_all)
    |(simp only[Gs];refine⟨l.length-(i+1),_,Ω,⟨Ψ,by simp[hA],by simp[qo],Ψ⟩,i+1,Ω,rfl,fun j s=>?_,rfl⟩
      by_cases e:j=i
      ·subst e;intro b0 n;rw[f]at n;cases n;refine⟨Ω,fun t u m=>?_,by assumption⟩;rw[ay]at m;cases m;omega
      ·exact g j Ω)
  ·simp at o;simp[bZ,ba,be,a1];exact⟨Ω,fun j s=>g j Ω⟩
def nJ(p:Nat->Bool)(i j:Nat):Nat:=if i<j then(if p ((i+j)/2)then nJ p i ((i+j)/2)else nJ p ((i+j)/2+1) j)else i
termination_by j-i
def amd(s:cT)(n g:Nat)(dH:List af)(p:Nat->Bool)(k:Nat)(st:bo):Prop:=∃i j:Nat,i<=j/\j<=n/\k=j-i/\nJ p i j=nJ p 0 n/\st=⟨[(1,.func g dH),(5,aj i),(6,aj j)],s.b,s.e,0,cJ s⟩
def aja(s:cT)(a:ey s)(n g:Nat)(w:n<=1000000)(dH:List af)(ay:aH (aM s) dH)(dx:b9 dH=dH)(p:Nat->Bool)(t:∀i:Nat,i<n->bE au g (aj i::dH) s fun r b=>r= .bool (p i)/\b=s):
  bE au 195 [aj n,.func g dH] s fun r b=>r=aj (nJ p 0 n)/\b=s:=by
 refine bE.mk mixed a6 Tryz.func195 ao1 Ψ a.obj fun y e=>?_;unfold Tz;simp;refine qH (amd s n g dH p) n _ (gq.ob a (by simp[ay]) aX aX) ⟨0,n,Ω,Ω,rfl,rfl,rfl⟩ ?_;rintro k st ⟨i,j,v,x,ad,d,rfl⟩ o e;clear o e;simp;refine cq (fun c=>?_) (fun f=>?_)
 ·simp at c;have hw:ij.wrap ((i:Int)+j)=i+j:=by simp[uo,pI,um];omega
  obtain⟨m,hm⟩:∃m,m=(i+j)/2:=⟨_,rfl⟩;have q:Int.fdiv ((i:Int)+j) 2=(m:Int):=by rw[Int.fdiv_eq_ediv_of_nonneg _ Ω];omega
  have l:vB.wrap (m:Int)=m:=by rw[pJ];omega
  have u:ij.bits=64:=rfl;simp[hw,dx,u,q,l];refine⟨by unfold tK;omega,?_⟩;refine CallDo.ob (t m Ω) a aX aX (by simp[ay]) ?_;rintro r b ⟨rfl,rfl⟩;refine⟨Same.refl _,?_⟩;simp[hH];(with_reducible repeat' first|((first|apply cq|apply cu|apply ct)<;>intro h<;>try simp at h)|refine al ?_|simp)
  ·simp only[Gs];refine⟨j-(m+1),_,Ω,gq.ob a (by simp[ay]) aX aX,m+1,j,Ω,Ω,rfl,?_,rfl⟩;rw[<-d];conv=>rhs;unfold nJ
   simp[c,<-hm,h]
  ·simp only[Gs];refine⟨m-i,_,Ω,gq.ob a (by simp[ay]) aX aX,i,m,Ω,Ω,rfl,?_,rfl⟩;rw[<-d];conv=>rhs;unfold nJ
   simp[c,<-hm,h]
 ·simp at f;have:nJ p 0 n=i:=by rw[<-d];unfold nJ;rw[if_neg Ω]
  rw[this];simp;refine c6.at s (.inl rfl) a (Same.refl s) aX aX ?_;simp[dc,ba,be,a1]
def oE(l:List Bd)(v:Int):Int:=
 let i:=nJ (fun i=>match l[i]? with|some b=>decide (v<=b.v)|none=>false) 0 l.length
 match l[i]? with|some b=>if b.v=v then i else-1|none=> -1
def ajh(l:List Bd)(v:Int)(i:Nat)(b:Bd)(c:l[i]? =some b):bE au 196 [aj i,.ptr (.obj 101) 0,.ptr (.obj 102) 0] ⟨[(.obj 101,[bH (l.map Bd.e)]),(.obj 102,[aj v])],[]⟩ fun r d=>r= .bool (decide (v<=b.v))/\d=⟨[(.obj 101,[bH (l.map Bd.e)]),(.obj 102,[aj v])],[]⟩:=by have a:ey ⟨[(.obj 101,[bH (l.map Bd.e)]),(.obj 102,[aj v])],[]⟩:=(ey.of ⟨by intro m;simp[ae],by intro m;simp[ae]⟩ go go);have f:i<l.length:=(fI.1 c).1;refine bE.mk mixed a6 Tryz.func196 aoo Ψ a.obj fun g e=>?_;unfold SU;simp[c];(repeat' first|refine al ?_|simp);refine c6.at _ (.inl rfl) a (Same.refl _) aX aX ?_;simp[dc,ba,be,a1]
def vx(l:List Bd)(v:Int)(e:l.length<=1000000):bT au 139 [bH (l.map Bd.e),aj v] (aj (oE l v)):=by
 refine bF a6 Tryz.func139 aon fun g=>?_;unfold SR;simp;have d:ey ⟨[(.obj 101,[bH (l.map Bd.e)]),(.obj 102,[aj v])],[]⟩:=(ey.of ⟨by intro m;simp[ae],by intro m;simp[ae]⟩ go go);refine CallDo.ob (aja ⟨[(.obj 101,[bH (l.map Bd.e)]),(.obj 102,[aj v])],[]⟩ d l.length 196 e [.ptr (.obj 101) 0,.ptr (.obj 102) 0] (by simp[aM]) Ψ (fun i=>match l[i]? with|some b=>decide (v<=b.v)|none=>false) fun i hi=>?_) d aX aX (by simp[aM]) ?_
 ·obtain⟨b,a⟩:∃b,l[i]? =some b:=⟨_,ck hi⟩;simp only[a];exact ajh l v i b a
 rintro r f ⟨rfl,rfl⟩;refine⟨Same.refl _,?_⟩;unfold oE;generalize nJ _ 0 l.length=i;cases a:l[i]? with
 |none=>
  have c:¬i<l.length:=by simpa using a
  simp[cH,c];exact cn
 |some b=>
  have c:i<l.length:=(fI.1 a).1;simp[cH,a,c];((repeat' first|refine al ?_|simp[a]|((first|apply cq|apply cu|apply ct)<;>intro h<;>try simp at h))<;>(try exact c0));all_goals simp[bZ,ba,be,a1]
  all_goals simp_all
def tZ(l:List Bd)(v:Int):Option T:=if oE l v<0 then none else(l[(oE l v).toNat]?).map (·.t)
def VQ(l:List Bd)(v:Int):oE l v<l.length/\ -1<=oE l v:=by
 unfold oE;simp only;split
 ·rename_i b a;have:=(fI.1 a).1;split<;>omega
 ·omega
def Wj(l:List Bd)(v:Int)(e:l.length<=1000000)(o:Option T)(aq:o=tZ l v):bE au 138 [aj v,.ptr (.obj 201) 0] ⟨[(.obj 201,[bH (l.map Bd.e)])],[]⟩ fun r f=>r= .tuple [(o.getD .nil).e,.bool o.isSome]/\f=⟨[(.obj 201,[bH (l.map Bd.e)])],[]⟩:=by
 have c:ey ⟨[(.obj 201,[bH (l.map Bd.e)])],[]⟩:=(ey.of ⟨by intro m;simp[ae],by intro m;simp[ae]⟩ go go);have i:=(VQ l v).1;unfold tZ at aq;refine bE.mk mixed a6 Tryz.func138 aow Ψ c.obj fun j g=>?_;unfold S3;simp;(with_reducible repeat' first|((first|apply cq|apply cu|apply ct)<;>intro h<;>try simp at h)|refine al ?_|refine aO (vx l v e) ?_|refine aP (vx l v e) ?_|simp)
 ·obtain⟨b,d⟩:∃b,l[(oE l v).toNat]? =some b:=⟨_,ck Ω⟩;have a:o=some b.t:=by rw[aq,if_neg Ω,d];rfl
  simp[d];(with_reducible repeat' first|((first|apply cq|apply cu|apply ct)<;>intro h<;>try simp at h)|refine al ?_|simp[d]);refine c6.at _ (.inl rfl) c (Same.refl _) aX aX ?_;simp[dc,ba,be,a1];simp[a]
 ·have a:o=none:=by rw[aq,if_pos h]
  refine c6.at _ (.inl rfl) c (Same.refl _) aX aX ?_;simp[dc,ba,be,a1];simp[a]
def ajN(s:cT)(d:ey s)(g:Nat)(dH:List af)(ay:aH (aM s) dH)(dx:b9 dH=dH)(f:Int->Int)(o:∀v,-1<=f v)(t:T)(j:∀v,t.occ v=true->bE au g (aj v::dH) s fun r e=>r=aj (f v)/\e=s):
  bE au 192 [t.e,.func g dH] s fun r e=>r=aj (mq f t)/\e=s:=by
 have c:∀m,ae (.loc m) s.b=none:=d.obj.1;have hu:∀m cs,cL (.loc m) cs s.b=s.b++[(.loc m,cs)]:=fun m cs=>kO (c m);have aq:∀m,aB.loc m∉cJ s:=kJ d.obj;induction t with
 |pair a b q p=>
  have w:=Kf f o a;have u:=Kf f o b;refine bE.mk mixed a6 Tryz.func192 Ab Ψ d.obj fun l k=>?_;unfold xh;simp[hu,aq,c7,c,dx];(repeat' first|refine al ?_|simp[hu,aq,c7,c]);refine CallDo.ob (q fun v i=>j v (by simp[T.occ,i])) d aX aX (by simp[ay]) ?_;rintro r e ⟨rfl,rfl⟩;refine⟨Same.refl _,?_⟩;simp[hH,jy,cH,c];(with_reducible repeat' first|((first|apply cq|apply cu|apply ct)<;>intro h<;>try simp at h)|refine al ?_|simp[hu,aq,c7,c])
  ·refine c6.at e (.inl rfl) d (Same.refl _) aX aX ?_;simp[dc,ba,be,a1];simp[mq];omega
  ·rw[dx];refine CallDo.ob (p fun v i=>j v (by simp[T.occ,i])) d aX aX (by simp[ay]) ?_;rintro r s2 ⟨rfl,rfl⟩;refine⟨Same.refl _,?_⟩;simp[hH,jy,cH,c];(with_reducible repeat' first|((first|apply cq|apply cu|apply ct)<;>intro h<;>try simp at h)|refine al ?_|simp[hu,aq,c7,c]);refine c6.at s2 (.inl rfl) d (Same.refl _) aX aX ?_;simp[dc,ba,be,a1];simp[mq];omega
 |var n=>refine bE.mk mixed a6 Tryz.func192 Ab Ψ d.obj fun l k=>?_;unfold xh;simp[hu,aq,c7,c,dx];(repeat' first|refine al ?_|simp[hu,aq,c7,c]);refine CallDo.ob (j n (by simp[T.occ])) d aX aX (by simp[ay]) ?_;rintro r e ⟨rfl,rfl⟩;refine⟨Same.refl _,?_⟩;simp[hH,jy,cH,c];refine c6.at e (.inl rfl) d (Same.refl _) aX aX ?_;simp[dc,ba,be,a1];simp[mq]
 |_=>refine bE.mk mixed a6 Tryz.func192 Ab Ψ d.obj fun l k=>?_;unfold xh;simp[hu,aq,c7,c,dx];(repeat' first|refine al ?_|simp[hu,aq,c7,c]);refine c6.at s (.inl rfl) d (Same.refl _) aX aX ?_;simp[dc,ba,be,a1];simp[mq]
def ajt(s:cT)(d:ey s)(g:Nat)(dH:List af)(ay:aH (aM s) dH)(dx:b9 dH=dH)(f:Int->Option T)(t:T)(k:∀v,t.occ v=true->bE au g (aj v::dH) s fun r i=>r= .tuple [((f v).getD .nil).e,.bool (f v).isSome]/\i=s):
  bE au 194 [t.e,.func g dH] s fun r i=>r=(t.sub f).e/\i=s:=by
 have c:∀m,ae (.loc m) s.b=none:=d.obj.1;have l:∀m,ae (.loc m) s.e=none:=d.obj.2;have hu:∀m cs,cL (.loc m) cs s.b=s.b++[(.loc m,cs)]:=fun m cs=>kO (c m);have aq:∀m,aB.loc m∉cJ s:=kJ d.obj;have e:∀m p r,cL (.loc m) p (s.b++r)=s.b++cL (.loc m) p r:=fun m p r=>Da (c m);induction t with
 |pair a b w u=>refine bE.mk mixed a6 Tryz.func194 Cy Ψ d.obj fun q o=>?_;unfold y6;simp[hu,aq,c7,c,l,dx,e];(repeat' first|refine al ?_|simp[hu,aq,c7,c,l,e]);refine hJ.ob (w fun v j=>k v (by simp[T.occ,j])) d d (Same.refl _) aX aX (by simp[ay]) ?_;simp[hH,jy,cH,c,dx];refine hJ.ob (u fun v j=>k v (by simp[T.occ,j])) d d (Same.refl _) aX aX (by simp[ay]) ?_;simp[hH,jy,cH,c,dx];(repeat' first|refine al ?_|refine aO (KD _ _) ?_|refine aP (KD _ _) ?_|simp);refine c6.at s (.inl rfl) d (Same.refl _) aX aX ?_;simp[dc,ba,be,a1,c7,c];simp[T.sub]
 |var n=>
  refine bE.mk mixed a6 Tryz.func194 Cy Ψ d.obj fun q o=>?_;unfold y6;simp[hu,aq,c7,c,dx,e];(repeat' first|refine al ?_|simp[hu,aq,c7,c,e]);refine CallDo.ob (k n (by simp[T.occ])) d aX aX (by simp[ay]) ?_;rintro r i ⟨rfl,rfl⟩;refine⟨Same.refl _,?_⟩;simp[hH,jy,cH,c,hu,aq,c7];(with_reducible repeat' first|((first|apply cq|apply cu|apply ct)<;>intro h<;>try simp at h)|refine al ?_|refine aO (vv _) ?_|refine aP (vv _) ?_|simp[hu,aq,c7,c,e]);all_goals refine c6.at i (.inl rfl) d (Same.refl _) aX aX ?_
  all_goals simp[dc,ba,be,a1,c7,c]
  all_goals cases x:f n<;>simp_all[T.sub]
 |_=>refine bE.mk mixed a6 Tryz.func194 Cy Ψ d.obj fun q o=>?_;unfold y6;simp[hu,aq,c7,c,dx,e];(with_reducible repeat' first|((first|apply cq|apply cu|apply ct)<;>intro h<;>try simp at h)|refine al ?_|simp[hu,aq,c7,c,e]);refine c6.at s (.inl rfl) d (Same.refl _) aX aX ?_;simp[dc,ba,be,a1,c7,c];simp[T.sub]
def pP(l:List Bd):cT:=⟨[(.obj 201,[bH (l.map Bd.e)])],[]⟩
def sZ(l:List Bd):cT:=⟨[(.obj 201,[bH (l.map Bd.e)]),(.obj 202,[.func 138 [.ptr (.obj 201) 0]])],[]⟩
def Dq(l:List Bd):ey (pP l):=by unfold pP;exact(ey.of ⟨by intro m;simp[ae],by intro m;simp[ae]⟩ go go)
def KQ(l:List Bd):ey (sZ l):=by unfold sZ;exact(ey.of ⟨by intro m;simp[ae],by intro m;simp[ae]⟩ go go)
def wb(l:List Bd)(v:Int):Int:=match tZ l v with|some x=>gv x.tm 5000|none=>1
def ai2(l:List Bd)(v:Int): -1<=wb l v:=by
 unfold wb;split
 ·rename_i x _;rcases Fj x.tm 5000 with h|h<;>omega
 ·omega
def adr(t:T):bT au 131 [t.e,aj 5000] (aj (gv t.tm 5000)):=by have:=adq t.tm.sz t.tm (dO _) 5000 Ω;rwa[mF]at this
def ajK(l:List Bd)(v:Int)(c:l.length<=1000000):bE au 193 [aj v,.ptr (.obj 202) 0] (sZ l) fun r b=>r=aj (wb l v)/\b=sZ l:=by
 have a:=KQ l;unfold sZ at a⊢;refine bE.mk mixed a6 Tryz.func193 aoy Ψ a.obj fun f d=>?_;unfold S5;simp;refine CallDo.ob (Wj l v c _ rfl) (Dq l) aX aX (by simp[aM]) ?_;rintro r b ⟨rfl,rfl⟩;refine⟨Same.refl _,?_⟩;simp[cH];(with_reducible repeat' first|((first|apply cq|apply cu|apply ct)<;>intro h<;>try simp at h)|refine al ?_|refine aO (adr _) ?_|refine aP (adr _) ?_|simp);all_goals refine c6.at _ (.inl rfl) a (Same.refl _) aX aX ?_
 all_goals simp[dc,ba,be,a1]
 all_goals unfold wb
 all_goals cases e:tZ l v<;>simp_all
def FF(l:List Bd)(t:T):T:=t.sub (tZ l)
def vl(l:List Bd)(t:T):Bool:=decide (mq (wb l) t<=5000)
def ajJ(l:List Bd)(t:T)(c:l.length<=1000000):bE au 137 [t.e,.func 138 [.ptr (.obj 201) 0]] (pP l) fun r b=>r= .tuple [(if vl l t then FF l t else .nil).e,.bool (vl l t)]/\b=pP l:=by
 have a:=Dq l;unfold pP at a⊢;refine bE.mk mixed a6 Tryz.func137 aox Ψ a.obj fun f e=>?_;unfold S4;simp;refine CallDo.ob (ajN (sZ l) (KQ l) 193 [.ptr (.obj 202) 0] (by simp[aM,sZ]) Ψ (wb l) (ai2 l) t fun v d=>ajK l v c) (KQ l) (by unfold sZ;exact aX) (by unfold sZ;exact aX) (by simp[aM,sZ]) ?_;rintro r b ⟨rfl,rfl⟩;refine⟨Same.refl _,?_⟩;unfold sZ;simp[cH];(with_reducible repeat' first|((first|apply cq|apply cu|apply ct)<;>intro h<;>try simp at h)|refine al ?_|simp)
 ·refine c6.at _ (.inl rfl) a (Same.refl _) aX aX ?_;simp[dc,ba,be,a1];have:vl l t=false:=by simp[vl];omega
  simp[this]
 ·refine CallDo.ob (ajt (pP l) (Dq l) 138 [.ptr (.obj 201) 0] (by simp[aM,pP]) Ψ (tZ l) t fun v d=>Wj l v c _ rfl) (Dq l) (by unfold pP;exact aX) (by unfold pP;exact aX) (by simp[aM,pP]) ?_;rintro r b ⟨rfl,rfl⟩;refine⟨Same.refl _,?_⟩;unfold pP;simp[cH];refine c6.at _ (.inl rfl) a (Same.refl _) aX aX ?_;simp[dc,ba,be,a1];have:vl l t=true:=by simp[vl];omega
  simp[this,FF]
def atp(l:List Bd)(t:T)(a:l.length<=1000000):bT au 69 [bH (l.map Bd.e),t.e] (.tuple [(if vl l t then FF l t else .nil).e,.bool (vl l t)]):=by refine bF a6 Tryz.func69 aov fun c=>?_;unfold S2;simp;refine CallDo.ob (ajJ l t a) (Dq l) (by unfold pP;exact aX) (by unfold pP;exact aX) (by simp[aM,pP]) ?_;rintro r b ⟨rfl,rfl⟩;refine⟨Same.refl _,?_⟩;unfold pP;simp[cH];simp[bZ,ba,be,a1]
def QH(p:Nat->Bool)(n:Nat)(hm:∀k bs,k<=bs->bs<n->p k=true->p bs=true):∀(m i j:Nat),j-i<=m->i<=j->j<=n->(∀k,k<i->p k=false)->(∀k,j<=k->k<n->p k=true)->
  (i<=nJ p i j/\nJ p i j<=j)/\(∀k,k<nJ p i j->p k=false)/\(∀k,nJ p i j<=k->k<n->p k=true)
 |m,i,j,h,f,e,J,U=>by
  rw[nJ];split
  ·rename_i g;obtain⟨m,rfl⟩:∃d,m=d+1:=⟨m-1,Ω⟩;split
   ·rename_i a;have:=QH p n hm m i ((i+j)/2) Ω Ω Ω J (fun k ad c=>hm _ k ad c a);exact⟨⟨this.1.1,Ω⟩,this.2⟩
   ·rename_i a;have:=QH p n hm m ((i+j)/2+1) j Ω Ω e (fun k ad=>by
     by_cases b:p k=true
     ·exact absurd (hm k ((i+j)/2) Ω Ω b) a
     ·simpa using b) U
    exact⟨⟨Ω,this.1.2⟩,this.2⟩
  ·obtain rfl:i=j:=Ω
   exact⟨⟨dO _,dO _⟩,J,U⟩
def PF{l:List Bd}(F:jB l)(v:Int):tZ l v=dG l v:=by
 have d:∀(i j:Nat) (x y:Bd),i<j->l[i]? =some x->l[j]? =some y->x.v<y.v:=by intro i j x y A H K;obtain⟨J,rfl⟩:=fI.1 H;obtain⟨U,rfl⟩:=fI.1 K;exact rj.1 F i j J U A
 obtain⟨p,o⟩:∃p:Nat->Bool,p=(fun i=>match l[i]? with|some b=>decide (v<=b.v)|none=>false):=⟨_,rfl⟩;have c:∀i b,l[i]? =some b->p i=decide (v<=b.v):=fun i b a=>by rw[o];simp[a]
 have hm:∀k bs,k<=bs->bs<l.length->p k=true->p bs=true:=by
  intro k bs ad B h;have q:l[k]? =some l[k]:=ck Ω;have t:l[bs]? =some l[bs]:=ck B;rw[c k _ q]at h;rw[c bs _ t];simp only[gn]at h⊢;rcases Nat.lt_or_eq_of_le ad with z|rfl
  ·have:=d k bs _ _ z q t;omega
  ·exact h
 obtain⟨⟨_,hle⟩,hbef,haft⟩:=QH p l.length hm l.length 0 l.length Ω Ω (dO _) (fun k ad=>Ω) (fun k J U=>Ω);have m:oE l v=(match l[nJ p 0 l.length]? with|some b=>if b.v=v then((nJ p 0 l.length:Nat):Int)else-1|none=> -1):=by rw[o];rfl
 generalize nJ p 0 l.length=r at hle hbef haft m;by_cases hex:∃(k:Nat) (b:Bd),l[k]? =some b/\b.v=v
 ·obtain⟨k,b,a,u⟩:=hex;have n:k<l.length:=(fI.1 a).1;have E:r<=k:=by
   rcases Nat.lt_or_ge k r with h|h
   ·have:=hbef k h;rw[c k b a]at this;simp at this;omega
   ·exact h
  have s:l[r]? =some l[r]:=ck Ω;have w:=haft r (dO _) Ω;rw[c r _ s]at w;simp only[gn]at w;have f:r=k:=by
   rcases Nat.lt_or_eq_of_le E with h|h
   ·have:=d r k _ _ h s a;omega
   ·exact h
  subst f;have g:oE l v=r:=by rw[m,a];simp[u]
  have J:tZ l v=some b.t:=by unfold tZ;rw[g,if_neg Ω];simp[a]
  have U:l.find? (fun b=>b.v==v)=some b:=by
   rw[List.find?_eq_some_iff_getElem];refine⟨by simp[u],r,n,?_,fun j G=>?_⟩
   ·rw[ck n]at a;simpa using a
   ·have:=d j r l[j] b G (ck Ω) a;simp;omega
  rw[J];simp[dG,U]
 ·have U:l.find? (fun b=>b.v==v)=none:=by rw[List.find?_eq_none];intro b a;obtain⟨k,ad,rfl⟩:=List.mem_iff_getElem.1 a;simp;intro e;exact hex ⟨k,l[k],ck ad,e⟩
  have g:oE l v= -1:=by
   rw[m];split
   ·rename_i b a;rw[if_neg (fun e=>hex ⟨r,b,a,e⟩)]
   ·rfl
  unfold tZ;rw[g];simp[dG,U]
def VR{l:List Bd}(a:jB l)(v:Int):oE l v<0↔dG l v=none:=by
 rw[<-PF a v];unfold tZ;have J:=VQ l v;by_cases h:oE l v<0
 ·simp[h]
 ·simp only[h,if_false,false_iff];intro e;rw[Option.map_eq_none_iff,List.getElem?_eq_none_iff]at e;omega
def Bo(s:List Bd):Prop:= ∀b∈s,b.t.fit=true
def ai1{l:List Bd}(a:jB l)(h:Bo l)(v:Int):wb l v=(cR l v).size:=by
 unfold wb cR;rw[PF a];cases b:dG l v with
 |none=>simp[T.size]
 |some x=>have:=h _ (kQ b);simp only[T.fit,cO,gn]at this;simp only[ma];rw[Jc,if_pos ⟨this.1,Ω⟩]
def arA{l:List Bd}(e:jB l)(h:Bo l)(t:T):mq (wb l) t=cut (t.ap (cR l)).size:=by
 induction t with
 |var n=>simp only[mq,ai1 e h,T.ap];rfl
 |pair a b d c=>have f:=T.size_pos (b.ap (cR l));simp only[mq,d,c,T.ap,T.size];unfold cut;(repeat' split)<;>omega
 |_=>simp[mq,T.ap,T.size,cut]
def ap5{l:List Bd}(a:jB l)(h:Bo l)(t:T):vl l t=decide ((t.ap (cR l)).size<=5000):=by unfold vl;rw[arA a h];unfold cut;split<;>simp<;>omega
def ap6{l:List Bd}(a:jB l)(t:T):FF l t=t.ap (cR l):=by unfold FF;rw[acu];exact vP fun v _=>by rw[PF a];rfl
def KE(l:List Bd)(t:T)(b:l.length<=1000000)(a:jB l)(h:Bo l):bT au 69 [bH (l.map Bd.e),t.e] (.tuple [(if(t.ap (cR l)).size<=5000 then t.ap (cR l)else .nil).e,.bool (decide ((t.ap (cR l)).size<=5000))]):=by have:=atp l t b;rw[ap5 a h,ap6 a]at this;simpa using this
def YT(l:List (Int×T)):List af:=k1 (l.map fun x=>(x.1,x.2.e))
@[simp]def awS:YT []=k1 []:=rfl
@[simp]def axr(l:List (Int×T)):gZ (YT l)=false:=rfl
def arn(x:Int×T):Bool:= !(decide (x.2= .var x.1))
end
end Go.Proofs.YtahlgcidhnjlbaaGreat
namespace Go.Proofs
section
open Go.Shelf
def Tryz.lays191_ren:Go.Shelf.Ren:=⟨fun|191=>191|189=>220|125=>213|257=>250|128=>236|129=>237|294=>261|295=>262|296=>263|297=>264|298=>265|299=>266|216=>267|300=>268|301=>269|328=>272|329=>273|330=>274|331=>275|332=>276|215=>277|343=>278|n=>n,fun|28=>76|0=>0|3=>3|46=>192|51=>206|53=>208|4=>4|183=>230|182=>229|131=>214|5=>5|9=>9|218=>238|222=>226|228=>241|229=>236|n=>n,fun|n=>n⟩
def Tryz.lays191:Go.Proofs.Lays.n191 au Tryz.lays191_ren:={
 mixed:=bi
 f125:=Tryz.func213.trans (fC some bi)
 f128:=Tryz.func236.trans (fC some bi)
 f129:=Tryz.func237.trans (fC some bi)
 f189:=Tryz.func220.trans (fC some bi)
 f191:=Tryz.func191.trans (fC some bi)
 f215:=Tryz.func277.trans (fC some bi)
 f216:=Tryz.func267.trans (fC some bi)
 f257:=Tryz.func250.trans (fC some bi)
 f294:=Tryz.func261.trans (fC some bi)
 f295:=Tryz.func262.trans (fC some bi)
 f296:=Tryz.func263.trans (fC some bi)
 f297:=Tryz.func264.trans (fC some bi)
 f298:=Tryz.func265.trans (fC some bi)
 f299:=Tryz.func266.trans (fC some bi)
 f300:=Tryz.func268.trans (fC some bi)
 f301:=Tryz.func269.trans (fC some bi)
 f328:=Tryz.func272.trans (fC some bi)
 f329:=Tryz.func273.trans (fC some bi)
 f330:=Tryz.func274.trans (fC some bi)
 f331:=Tryz.func275.trans (fC some bi)
 f332:=Tryz.func276.trans (fC some bi)
 f343:=Tryz.func278.trans (fC some bi)
 t0:=Tryz.underlying0
 a0:=Tryz.isAgg0
 z0:=Tryz.sizeOf0
 v0:=Tryz.zeroValue0
 t3:=Tryz.underlying3
 a3:=Tryz.isAgg3
 z3:=Tryz.sizeOf3
 v3:=Tryz.zeroValue3
 t4:=Tryz.underlying4
 a4:=Tryz.isAgg4
 z4:=Tryz.sizeOf4
 v4:=Tryz.zeroValue4
 t5:=Tryz.underlying5
 a5:=Tryz.isAgg5
 z5:=Tryz.sizeOf5
 v5:=Tryz.zeroValue5
 t9:=Tryz.underlying9
 a9:=Tryz.isAgg9
 z9:=Tryz.sizeOf9
 v9:=Tryz.zeroValue9
 t28:=Tryz.underlying76
 a28:=Tryz.isAgg76
 z28:=Tryz.sizeOf76
 v28:=Tryz.zeroValue76
 t46:=Tryz.underlying192
 a46:=Tryz.isAgg192
 z46:=Tryz.sizeOf192
 v46:=Tryz.zeroValue192
 t51:=Tryz.underlying206
 a51:=Tryz.isAgg206
 z51:=Tryz.sizeOf206
 v51:=Tryz.zeroValue206
 t53:=Tryz.underlying208
 a53:=Tryz.isAgg208
 z53:=Tryz.sizeOf208
 v53:=Tryz.zeroValue208
 t131:=Tryz.underlying214
 a131:=Tryz.isAgg214
 z131:=Tryz.sizeOf214
 v131:=Tryz.zeroValue214
 t182:=Tryz.underlying229
 a182:=Tryz.isAgg229
 z182:=Tryz.sizeOf229
 v182:=Tryz.zeroValue229
 t183:=Tryz.underlying230
 a183:=Tryz.isAgg230
 z183:=Tryz.sizeOf230
 v183:=Tryz.zeroValue230
 t218:=Tryz.underlying238
 a218:=Tryz.isAgg238
 z218:=Tryz.sizeOf238
 v218:=Tryz.zeroValue238
 t222:=Tryz.underlying226
 a222:=Tryz.isAgg226
 z222:=Tryz.sizeOf226
 v222:=Tryz.zeroValue226
 t228:=Tryz.underlying241
 a228:=Tryz.isAgg241
 z228:=Tryz.sizeOf241
 v228:=Tryz.zeroValue241
 t229:=Tryz.underlying236
 a229:=Tryz.isAgg236
 z229:=Tryz.sizeOf236
 v229:=Tryz.zeroValue236}
end
end Go.Proofs

namespace Go.Proofs.YtahlgcidhnjlbaaGreat
section
open Go Go.Pv
def e6(xs:List Int):List af:=xs.map (af.int .i64)
def abJ{w:World}{ν:bc}:∀{xs:List Int} {us:List Value},dv w ν 1 (e6 xs) us->us=xs.map (Value.int .i64)
 |[],us,h=>by simpa[e6,dv]using h
 |x::xs,us,h=>by simp only[e6,gX,dv]at h;obtain⟨u,a,rfl,⟨J,_,_⟩,U⟩:=h;simp only[aU]at J;subst J;rw[abJ U];rfl
def XR(w:World)(ν:bc):∀xs:List Int,dv w ν 1 (e6 xs) (xs.map (Value.int .i64))
 |[]=>by simp[e6,dv]
 |x::xs=>by simp only[e6,gX,dv];exact⟨.int .i64 x,_,rfl,⟨by simp[aU],rfl,by intro c ay;simp[pK]at ay;subst ay;rfl⟩,XR w ν xs⟩
def oy(K:Nat)(xs:List Int):cT:=⟨[],[(.obj K,⟨xs.length,3,1,some (e6 xs)⟩)]⟩
def u9(S:aB->Prop)(xs:List Int):aH S (e6 xs):=by
 induction xs with
 |nil=>simp[e6,aH]
 |cons x r a=>simp only[e6,gX,aH,aA];exact⟨trivial,a⟩
def KT(K:Nat)(xs:List Int):ey (oy K xs):=by unfold oy;refine ey.of ⟨by intro m;simp[ae],by intro m;simp[ae]⟩ Ψ ?_;intro x a ys b;simp at a;subst a;simp at b;subst b;exact u9 _ xs
def sN(xs:List Int):List Int:=xs.mergeSort fun x y=>decide (x<=y)
def ach(xs:List Int):(sN xs).length=xs.length:=List.length_mergeSort xs
def ajS(K:Nat)(xs:List Int)(av:xs.length<=1000000):bE au 191 [.row 1 (.obj K) xs.length] (oy K xs) fun r O=>r= .tuple []/\O=oy K (sN xs):=by
 refine bE.sem (KT K xs).obj fun w ν bk E f=>?_;refine .inl ⟨⟨Tryz.f191,Tryz.func191,by kernel_rfl,by kernel_rfl⟩,?_⟩;have b:=f.slot 0;simp only[iM,Pv.get,if_true]at b;have l:ae (.obj K) (oy K xs).e=some ⟨xs.length,3,1,some (e6 xs)⟩:=by simp[oy,ae]
 obtain⟨v,us,x,m,Z,G⟩:=f.good.own (.obj K) _ l;obtain⟨X,B,V⟩:=G _ rfl;have A:=abJ B;subst A;simp only[aU]at b;obtain⟨⟨R,Q,y⟩,_,n',u,c,aC,M⟩:=b;rw[x]at c;simp only[dV,jo]at c;obtain⟨rfl,rfl⟩:=c;have s:=M rfl;have d:bk= #[v]:=by
  have J:bk.size=1:=by simpa using E
  apply Array.ext (by simpa using J);intro i U p;simp at p;subst p;rw[<-s];simp[Array.getD,J]
 have H:v≠ .slice none 0 0:=by rw[<-s,y];simp
 obtain⟨g,cap,rfl,_,z,W,N,Em,S⟩:=Lib.holds_of_ownsRow m H;have ay:=Any.sort_Ints Tryz.lays191 g 0 cap xs w S z Ω;subst d;refine ay.mono ?_;rintro e w' ⟨rfl,n,os,rfl⟩;have a:=ach xs;have h:=Lib.ownsRow_putRow (q:=n) (k:=xs.length) (ys:=sN xs) m a (dO _);rw[iv Ω]at h;obtain⟨L,Y,_⟩:=f.setRowM (w':=Sort.putRow (Value.int .i64) (Sort.ahead w n) g 0 (sN xs).toArray) l rfl x (bl:=g) rfl (v':= .slice (some ⟨g,0,none⟩) xs.length cap) rfl (xs':=e6 (sN xs)) (us:=(sN xs).map (Value.int .i64)) (.inl ⟨by simp[e6,a],rfl⟩) rfl rfl rfl
  (fun j P=>by simp[Sort.putRow,Sort.mapBlock,Sort.ahead,Array.getElem?_modify,Ne.symm P]) (by simp[Sort.putRow,Sort.mapBlock,Sort.ahead]) (by simpa[e6,a]using h) (XR _ _ _)
 have F:=L.grown (w':=Sort.grow (Sort.putRow (Value.int .i64) (Sort.ahead w n) g 0 (sN xs).toArray) os) ⟨rfl,rfl,rfl,Ψ,fun k ad _=>Sort.heap_grow_old _ _ ad⟩;refine⟨_,_,_,_,.tuple [],oy K (sN xs),rfl,F,by simp[aU,cZ],by simp[oy,lY],?_,?_,?_,(KT K _).obj,by simp[aA,aH],rfl,rfl⟩
 ·simp[oy,lY,aM,ae]
 ·intro k cs ad;simp[oy,ae]at ad
 ·intro k o ad;have hm:=vc ad;simp[oy]at hm;obtain⟨rfl,rfl⟩:=hm;refine⟨by simp[oy,ae,cL,e6,a],.inr (by simp[ad]),fun ys t=>?_⟩;simp at t;subst t;exact u9 _ _
def pW(l:List Int):List af:=k1 (l.map fun x=>(x,.bool true))
def n7(S:aB->Prop)(l:List Int):aH S (pW l):=by
 have:∀l:List Int,aH S (flat (l.map fun x=>(x,.bool true))):=by
  intro l;induction l with
  |nil=>simp[flat,aH]
  |cons x r a=>simp[flat,aH,a,aA]
 simp[pW,k1,aH,this,aA]
def K8(v:Int)(l:List Int):List Int:=if v∈l then l else l++[v]
def R1(k:Int):∀l:List Int,qA k (.bool true) (l.map fun x=>(x,af.bool true))=if k∈l then some (l.map fun x=>(x,af.bool true))else none
 |[]=>rfl
 |i::r=>by
  by_cases h:k=i
  ·simp[qA,h]
  ·by_cases U:k∈r<;>simp[qA,h,U,R1 k r]
@[simp]def aw8(k:Int)(l:List Int):q1 .i (aj k) (.bool true) (pW l)=some (pW (K8 k l)):=by
 simp only[pW,Zu,GH,R1,K8];split<;>rename_i h
 ·split at h
  ·simp at h;subst h;simp[*]
  ·cases h
 ·split at h
  ·cases h
  ·simp[*]
@[simp]def aum:pW []=k1 []:=rfl
@[simp]def axp(l:List Int):gZ (pW l)=false:=rfl
@[simp]def axx(m:aB)(l:List Int):Am m (pW l)=some (cd l.length [] m):=by simp[pW]
def am4(f:aB->Option (List af))(gk mk:aB)(n:Nat)(seen:List Nat)(b:Nat)(l:List Int)(x:Int)(hi:f gk=some (cd n (seen++[b]) mk))(hm:f mk=some (pW l))(a:n=l.length)(c:l[b]? =some x):qZ f (.ptr gk 0)=some (True,.tuple [aj x,.bool true]):=by rw[Y4 f gk mk n seen b _ hi hm (by simpa using a)];simp[c]
def afZ{st:bo}{d:Nat}{K:bo->Prop}{gk mk:aB}{n:Nat}{seen:List Nat}{l:List Int}(hi:ae gk st.b=some (cd n seen mk))(hm:ae mk st.b=some (pW l))(e:n=l.length)
  (J:(∀b,b<l.length->b∈seen)->K {st with t:=Pv.put d (.tuple [.bool false]) st.t}) (U:∀b x,l[b]? =some x->b∉seen->K {st with t:=Pv.put d (.tuple [.bool true,aj x,.bool true]) st.t,b:=cL gk (cd n (seen++[b]) mk) st.b}):
  uL st d (.ptr gk 0) K:=by
 refine U9 hi hm (by simpa using e) (fun h=>J fun b a=>h b Ω) (fun b k v a g=>?_);simp only[List.getElem?_map,ht]at a;obtain⟨x,f,c⟩:=a;simp only[jo]at c;obtain⟨rfl,rfl⟩:=c;exact U b x f g
def _root_.Go.Pv.T.fold{α:Type}(f:Int->α->α):T->α->α
 | .var n,a=>f n a
 | .pair x y,a=>y.fold f (x.fold f a)
 |_,a=>a
def V7{α:Type}(S:α->cT)(dE:∀a,ey (S a))(e5:∀a b,Same (S a) (S b))(g:Nat)(dH:List af)(ay:∀a,aH (aM (S a)) dH)(dx:b9 dH=dH)(f:Int->α->α)(l:∀v a,bE au g (aj v::dH) (S a) fun r e=>r= .tuple []/\e=S (f v a))(t:T):
  ∀a,bE au 134 [t.e,.func g dH] (S a) fun r e=>r= .tuple []/\e=S (t.fold f a):=by
 have c:∀a m,ae (.loc m) (S a).b=none:=fun a=>(dE a).obj.1;have hu:∀a m cs,cL (.loc m) cs (S a).b=(S a).b++[(.loc m,cs)]:=fun a m cs=>kO (c a m);have aq:∀a m,aB.loc m∉cJ (S a):=fun a=>kJ (dE a).obj;induction t with
 |pair x y k j=>intro a;have d:=dE a;refine bE.mk mixed a6 Tryz.func134 Cx Ψ d.obj fun i h=>?_;unfold y5;simp[hu,aq,c7,c,dx];(repeat' first|refine al ?_|simp[hu,aq,c7,c]);refine CallDo.ob (k a) d aX aX (by simp[ay]) ?_;rintro r e ⟨rfl,rfl⟩;refine⟨e5 _ _,?_⟩;simp[hH,jy,cH,c];(repeat' first|refine al ?_|simp[hu,aq,c7,c]);rw[dx];refine CallDo.ob (j (x.fold f a)) (dE (x.fold f a)) aX aX (by simp[ay]) ?_;rintro r e ⟨rfl,rfl⟩;refine⟨e5 _ _,?_⟩;simp[hH,jy,cH,c];refine c6.at (S (y.fold f (x.fold f a))) (.inr rfl) (dE _) (e5 _ _) aX aX ?_;simp[dc,ba,be,a1];simp[T.fold]
 |var n=>intro a;have d:=dE a;refine bE.mk mixed a6 Tryz.func134 Cx Ψ d.obj fun i h=>?_;unfold y5;simp[hu,aq,c7,c,dx];(repeat' first|refine al ?_|simp[hu,aq,c7,c]);refine CallDo.ob (l n a) d aX aX (by simp[ay]) ?_;rintro r e ⟨rfl,rfl⟩;refine⟨e5 _ _,?_⟩;simp[hH,jy,cH,c,c7];refine c6.at (S (f n a)) (.inr rfl) (dE _) (e5 _ _) aX aX ?_;simp[dc,ba,be,a1];simp[T.fold]
 |_=>intro a;have d:=dE a;refine bE.mk mixed a6 Tryz.func134 Cx Ψ d.obj fun i h=>?_;unfold y5;simp[hu,aq,c7,c,dx];(repeat' first|refine al ?_|simp[hu,aq,c7,c]);refine c6.at (S a) (.inr rfl) d (Same.refl _) aX aX ?_;simp[dc,ba,be,a1];simp[T.fold]
def vJ(l:List Int):cT:=⟨[(.obj 304,pW l)],[]⟩
def RK(l:List Int):ey (vJ l):=by unfold vJ;exact ey.of ⟨by intro m;simp[ae],by intro m;simp[ae]⟩ (by simp[n7,aH,aA,aM,ae]) Ψ
def Lm:C:=(aa [cU 1 0,bu 2 false] (.seq (.seq (.fz false 1 (.region [az 6 1 1,cQ 7 158 6,cK 8 7])) (aW 8 (aa [bu 2 false] .ret) .skip)) (.seq (aa [az 9 1 1,cx 10 9,bM 11 0] (gz 12 11 10 (.seq (.block 1 (aa [cl 13 5 9 11,bf 14 5 13,dF 4 kv,bV 5 4 14] (aa [ds (.alloc 5 (some 731) (.bool false)),ds (.store 1 (.t 5) (.c (.bool true)))] (aa [hr 15 1 4 4,bf 16 4 15,cf 17 (.mkf 159 [.t 1,.t 5]),b8 18 134 16 17] (aa [az 19 1 5,cK 20 19,I 21 20,ax 21 false (hr 22 1 4 4),ax 21 false (aF 23 0 1 22),ax 21 false (az 24 1 23),ax 21 false (aV 25 .eql 24 1),cg 21 false 26 25,ax 26 true (hr 27 1 4 4),ax 26 true (aF 28 1 1 27),ax 26 true (az 29 1 28),ax 26 true (aF 30 0 1 4),ax 26 true (az 31 1 30),ax 26 true (bt 32 .geq 29 31),ax 21 false (ej 33 26 32),dq 34 21 33] (aW 34 (aa [bu 2 false] .ret) .skip)))))) (.region [aV 35 .add 11 1,I 11 35])))) (aa [bu 2 true] .ret))))
def Ln:C:=(aa [az 4 1 1,I 5 0,b8 6 139 4 5,aV 7 .geq 6 0] (aW 7 (.region [ds (.store 1 (.t 2) (.c (.bool false)))]) .skip))
def Ss:C:=(aa [eY 4 5,bu 5 false] (.seq (aa [I 8 0,cQ 9 86 8,cK 10 9,I 11 10,cg 11 false 12 1,ax 11 false (cQ 13 86 12),ax 11 false (cK 14 13),dq 15 11 14] (aW 15 (aa [eY 4 5,bu 5 false] .ret) .skip)) (aa [I 17 1,cQ 18 205 17,I 16 18,cS 19 0 16,cS 20 1 16,I 6 19,I 7 20] (aa [I 21 0,I 22 6,I 23 7,dN 24 186 [.t 21,.t 22,.t 23],cS 25 0 24,cS 26 1 24,I 4 25,I 5 26] .ret))))
def Sx:C:=(aa [eY 4 5] (.seq (aa [I 8 0,cQ 9 86 8,cK 10 9,I 11 10,cg 11 false 12 1,ax 11 false (cQ 13 86 12),ax 11 false (cK 14 13),dq 15 11 14] (aW 15 (aa [eY 4 5] .ret) .skip)) (aa [eX 16 5 113 [],I 5 16] (.seq (aa [I 17 1,cx 18 17,bM 19 0] (gz 20 19 18 (.seq (.block 1 (aa [cl 21 5 17 19,bf 22 5 21,dF 7 kv,bV 5 7 22] (aa [I 23 0,aF 24 0 1 7,az 25 1 24,b8 26 139 23 25,aV 27 .lss 26 0] (aW 27 (.drawn true 39 [I 28 5,aF 29 0 1 7,az 30 1 29,hr 31 1 4 7,bf 32 4 31,cQ 33 143 32,jz 34 kv [(0,1,(.t 30)),(1,4,(.t 33))],eX 35 5 113 [.t 34],hT 36 5 113 28 35,I 5 36]) .skip)))) (.region [aV 37 .add 19 1,I 19 37])))) (aa [I 38 5,I 4 38] .ret)))))
def Lq:C:=(aa [eY 2 5] (aa [eX 6 5 113 [],I 3 6] (.seq (aa [I 7 0,cx 8 7,bM 9 0] (gz 10 9 8 (.seq (.block 1 (aa [cl 11 5 7 9,bf 12 5 11,dF 5 kv,bV 5 5 12] (.drawn true 24 [I 13 3,aF 14 0 1 5,az 15 1 14,hr 16 1 4 5,bf 17 4 16,cQ 18 143 17,jz 19 kv [(0,1,(.t 15)),(1,4,(.t 18))],eX 20 5 113 [.t 19],hT 21 5 113 13 20,I 3 21]))) (.region [aV 22 .add 9 1,I 9 22])))) (aa [I 23 3,I 2 23] .ret))))
def Lr:C:=(aa [bu 4 false] (.seq (aa [I 6 0,cx 7 6,I 8 1,cx 9 8,bt 10 .neq 7 9] (aW 10 (aa [bu 4 false] .ret) .skip)) (.seq (aa [I 11 0,cx 12 11,bM 13 0] (gz 14 13 12 (.seq (.block 1 (aa [I 15 13,I 5 15] (.seq (.drawn true 42 [I 16 0,I 17 5,cl 18 5 16 17,aF 19 0 1 18,az 20 1 19,I 21 1,I 22 5,cl 23 5 21 22,aF 24 0 1 23,az 25 1 24,bt 26 .neq 20 25,I 27 26,cg 27 false 28 0,cg 27 false 29 5,ax 27 false (cl 30 5 28 29),ax 27 false (hr 31 1 4 30),ax 27 false (bf 32 4 31),cg 27 false 33 1,cg 27 false 34 5,ax 27 false (cl 35 5 33 34),ax 27 false (hr 36 1 4 35),ax 27 false (bf 37 4 36),ax 27 false (b8 38 142 32 37),ax 27 false (cK 39 38),dq 40 27 39]) (aW 40 (aa [bu 4 false] .ret) .skip)))) (.region [aV 41 .add 13 1,I 13 41])))) (aa [bu 4 true] .ret))))
def SQ:C:=(aa [eY 2 4,eY 3 4] (aa [eX 8 4 30 [],I 4 8] (aa [eX 9 4 30 [],I 5 9] (.seq (aa [I 10 0,cx 11 10,bM 12 0] (gz 13 12 11 (.seq (.block 1 (aa [cl 14 5 10 12,bf 15 5 14,dF 7 kv,bV 5 7 15] (aa [I 16 4,aF 17 0 1 7,az 18 1 17,cQ 19 116 18,eX 20 4 30 [.t 19],hT 21 4 30 16 20,I 4 21] (.region [I 22 5,hr 23 1 4 7,bf 24 4 23,eX 25 4 30 [.t 24],hT 26 4 30 22 25,I 5 26])))) (.region [aV 27 .add 12 1,I 12 27])))) (aa [I 28 4,I 29 5,I 2 28,I 3 29] .ret)))))
def SZ:C:=(aa [bM 4 0] (.seq (aa [bM 5 0] (.block 0 (.loop (.seq (aa [I 8 5,I 9 0,cx 10 9,bt 11 .lss 8 10,I 12 11,cg 12 true 13 5,cg 12 true 14 1,ax 12 true (cx 15 14),ax 12 true (bt 16 .lss 13 15),ej 17 12 16] (aW 17 .skip (.exit 0))) (.seq (.block 1 (.seq (.seq (.drawn true 53 [I 20 0,I 21 5,cl 22 5 20 21,aF 23 0 1 22,az 24 1 23,I 25 1,I 26 5,cl 27 5 25 26,aF 28 0 1 27,az 29 1 28,b8 30 190 24 29,I 6 30]) (aa [I 31 6,aV 32 .neq 31 0] (aW 32 (aa [I 33 6,I 4 33] .ret) .skip))) (.seq (.drawn true 53 [I 34 0,I 35 5,cl 36 5 34 35,hr 37 1 4 36,bf 38 4 37,I 39 1,I 40 5,cl 41 5 39 40,hr 42 1 4 41,bf 43 4 42,b8 44 133 38 43,I 7 44]) (aa [I 45 7,aV 46 .neq 45 0] (aW 46 (aa [I 47 7,I 4 47] .ret) .skip))))) (.region [I 18 5,aV 19 .add 18 1,I 5 19])))))) (aa [I 48 0,cx 49 48,I 50 1,cx 51 50,b8 52 190 49 51,I 4 52] .ret)))
def SV:C:=(aa [bu 4 false] (.seq (aa [I 11 0,cx 12 11,bM 13 0] (gz 14 13 12 (.seq (.block 1 (aa [cl 15 5 11 13,bf 16 5 15,dF 6 kv,bV 5 6 16] (aa [I 18 1,aF 19 0 1 6,az 20 1 19,cQ 21 116 20,b8 22 69 18 21,I 17 22,cS 23 0 17,cS 24 1 17,dF 7 eB,bV 4 7 23,I 8 24] (aa [I 26 1,hr 27 1 4 6,bf 28 4 27,b8 29 69 26 28,I 25 29,cS 30 0 25,cS 31 1 25,dF 9 eB,bV 4 9 30,I 10 31] (aa [I 32 8,cK 33 32,I 34 33,cg 34 false 35 10,ax 34 false (cK 36 35),dq 37 34 36,I 38 37,ax 38 false (bf 39 4 7),ax 38 false (bf 40 4 9),ax 38 false (b8 41 142 39 40),ax 38 false (cK 42 41),dq 43 38 42] (aW 43 (aa [bu 4 false] .ret) .skip)))))) (.region [aV 44 .add 13 1,I 13 44])))) (aa [bu 4 true] .ret)))
def ZJ:b2 aS Lm [.tmp 2] 1 Tryz.f86=true:=bi
def ZK:b2 aS Ln [] 3 Tryz.f159=true:=bi
def anY:b2 aS Ss [.tmp 4,.tmp 5] 2 Tryz.f165=true:=bi
def an3:b2 aS Sx [.tmp 4] 2 Tryz.f166=true:=bi
def ZN:b2 aS Lq [.tmp 2] 1 Tryz.f168=true:=bi
def ZO:b2 aS Lr [.tmp 4] 2 Tryz.f169=true:=bi
def aom:b2 aS SQ [.tmp 2,.tmp 3] 1 Tryz.f205=true:=bi
def aos:b2 aS SZ [.tmp 4] 2 Tryz.f207=true:=bi
def aop:b2 aS SV [.tmp 4] 2 Tryz.f208=true:=bi
def S8:C:=(aa [dF 2 eB] (aa [I 3 0,jz 4 eB [(0,1,(gV 1)),(1,1,(.t 3))],bV 4 2 4] .ret))
def SX:C:=(aa [cf 0 (.mov (.c (.nilp)))] (aa [ds (.mkmap 1 (some 702)),ds (.mkmap 2 (some 703)),ds (.mkmap 3 (some 704)),ds (.mkmap 4 (some 705)),ds (.mkmap 5 (some 706)),ds (.mkmap 6 (some 707)),cf 7 (.build [.junk,.junk,.junk,.junk,.junk,.junk] [(0,1,(.t 1)),(1,1,(.t 2)),(2,1,(.t 3)),(3,1,(.t 4)),(4,1,(.t 5)),(5,1,(.t 6))]),cU 8 7,I 0 8] (.fz true 0 .ret)))
def SK:C:=(aa [bM 4 0] (.seq (aa [I 8 0,gy 9 8,aF 10 0 1 9,az 11 1 10,I 12 1,cf 13 (.mget .i (.int .i64 0) true (.t 11) (.t 12)),I 7 13,cS 14 0 7,cS 15 1 7,I 5 14,I 6 15] (aa [I 16 6,cK 17 16] (aW 17 (.region [I 18 0,gy 19 18,aF 20 0 1 19,az 21 1 20,I 22 1,I 23 1,ds (.mput .i (.t 21) (.t 22) (.t 23))]) .skip))) (.seq (.block 0 (.loop (.seq (aa [I 24 0,gy 25 24,aF 26 0 1 25,az 27 1 26,I 28 1,cf 29 (.mget .i (.int .i64 0) false (.t 27) (.t 28)),I 30 1,bt 31 .neq 29 30] (aW 31 .skip (.exit 0))) (.block 1 (.seq (.drawn true 55 [I 32 0,gy 33 32,aF 34 0 1 33,az 35 1 34,I 36 1,I 37 0,gy 38 37,aF 39 0 1 38,az 40 1 39,I 41 0,gy 42 41,aF 43 0 1 42,az 44 1 43,I 45 1,cf 46 (.mget .i (.int .i64 0) false (.t 44) (.t 45)),cf 47 (.mget .i (.int .i64 0) false (.t 40) (.t 46)),ds (.mput .i (.t 35) (.t 36) (.t 47))]) (.region [I 48 0,gy 49 48,aF 50 0 1 49,az 51 1 50,I 52 1,cf 53 (.mget .i (.int .i64 0) false (.t 51) (.t 52)),I 1 53])))))) (aa [I 54 1,I 4 54] .ret))))
def SG:C:=(aa [cU 2 0,cU 3 1] (.fz false 2 (.region [bf 4 4 3,cf 5 (.mkf 245 [.t 2]),b8 6 134 4 5])))
def xg:C:=(aa [cU 4 1,cU 5 2,bu 6 false] (.seq (.block 0 (aa [aF 12 0 1 4,az 13 1 12,aV 14 .eql 13 1,I 15 14,ax 15 true (aF 16 0 1 5),ax 15 true (az 17 1 16),ax 15 true (aV 18 .eql 17 1),ej 19 15 18,I 11 19] (aW 11 (aa [I 20 0,aF 21 1 1 4,az 22 1 21,b8 23 216 20 22,I 7 23] (aa [I 24 0,aF 25 1 1 5,az 26 1 25,b8 27 216 24 26,I 8 27] (.seq (aa [I 28 7,I 29 8,bt 30 .eql 28 29] (aW 30 (aa [bu 6 true] .ret) .skip)) (.seq (aa [I 31 8,I 32 7,bt 33 .lss 31 32] (aW 33 (.region [I 34 8,I 35 7,I 7 34,I 8 35]) .skip)) (aa [I 36 0,gy 37 36,aF 38 0 1 37,az 39 1 38,I 40 8,I 41 7,ds (.mput .i (.t 39) (.t 40) (.t 41))] (.seq (aa [I 42 0,gy 43 42,aF 44 2 1 43,az 45 1 44,I 46 8,cf 47 (.mget .i (.bool false) false (.t 45) (.t 46)),cK 48 47] (aW 48 (aa [I 49 0,gy 50 49,aF 51 2 1 50,az 52 1 51,I 53 7,cf 54 (.mget .i (.bool false) false (.t 52) (.t 53)),cK 55 54,I 56 55,cg 56 false 57 0,cg 56 false 58 0,ax 56 false (gy 59 58),ax 56 false (aF 60 1 1 59),ax 56 false (az 61 1 60),cg 56 false 62 7,yN 56 false 63 (.mget .i (.agg eB) false (.t 61) (.t 62)),cg 56 false 64 7,ys 56 false (.mkmap 65 (some 715)),ax 56 false (dN 66 246 [.t 57,.t 63,.t 64,.t 65]),ax 56 false (cK 67 66),dq 68 56 67,I 6 68] .ret) .skip)) (aa [I 69 0,gy 70 69,aF 71 1 1 70,az 72 1 71,I 73 8,cf 74 (.mget .i (.agg eB) false (.t 72) (.t 73)),dF 9 eB,bV 4 9 74] (.seq (aa [I 75 0,gy 76 75,aF 77 2 1 76,az 78 1 77,I 79 7,cf 80 (.mget .i (.bool false) false (.t 78) (.t 79)),cK 81 80] (aW 81 (aa [I 82 0,I 83 7,bf 84 4 9,dN 85 247 [.t 82,.t 83,.t 84],I 6 85] .ret) .skip)) (.seq (.drawnW [715,716] 198 [I 86 0,bf 87 4 9,I 88 7,ds (.mkmap 89 (some 715)),dN 90 246 [.t 86,.t 87,.t 88,.t 89],cK 91 90,I 92 91,cg 92 true 93 0,cg 92 true 94 0,ax 92 true (gy 95 94),ax 92 true (aF 96 1 1 95),ax 92 true (az 97 1 96),cg 92 true 98 7,yN 92 true 99 (.mgetB .i (.agg eB) false (.t 97) (.t 98)),cg 92 true 100 7,ys 92 true (.mkmap 101 (some 716)),ax 92 true (dN 102 246 [.t 93,.t 99,.t 100,.t 101]),ax 92 true (cK 103 102),ej 104 92 103,I 105 104,cg 105 true 106 0,cg 105 true 107 0,ax 105 true (gy 108 107),ax 105 true (aF 109 1 1 108),ax 105 true (az 110 1 109),cg 105 true 111 7,yN 105 true 112 (.mgetB .i (.agg eB) false (.t 110) (.t 111)),ax 105 true (bf 113 4 9),ax 105 true (dN 114 218 [.t 106,.t 112,.t 113]),ej 115 105 114,I 6 115]) .ret))))))))) (aa [aF 117 0 1 4,az 118 1 117,aV 119 .eql 118 1,I 116 119] (aW 116 (aa [I 120 0,aF 121 1 1 4,az 122 1 121,b8 123 216 120 122,I 10 123] (.seq (aa [I 124 0,gy 125 124,aF 126 2 1 125,az 127 1 126,I 128 10,cf 129 (.mget .i (.bool false) false (.t 127) (.t 128)),cK 130 129] (aW 130 (aa [I 131 0,I 132 10,bf 133 4 5,dN 134 247 [.t 131,.t 132,.t 133],I 6 134] .ret) .skip)) (.seq (.drawn false 198 [I 135 0,I 136 0,gy 137 136,aF 138 1 1 137,az 139 1 138,I 140 10,cf 141 (.mgetB .i (.agg eB) false (.t 139) (.t 140)),bf 142 4 5,dN 143 218 [.t 135,.t 141,.t 142],I 6 143]) .ret))) (aa [aF 145 0 1 5,az 146 1 145,aV 147 .eql 146 1,I 144 147] (aW 144 (aa [I 148 0,bf 149 4 5,bf 150 4 4,dN 151 218 [.t 148,.t 149,.t 150],I 6 151] .ret) (aa [aF 153 0 1 4,az 154 1 153,aF 155 0 1 5,az 156 1 155,bt 157 .neq 154 156,I 158 157,ax 158 false (aF 159 1 1 4),ax 158 false (az 160 1 159),ax 158 false (aF 161 1 1 5),ax 158 false (az 162 1 161),ax 158 false (bt 163 .neq 160 162),dq 164 158 163,I 165 164,ax 165 false (aF 166 2 1 4),ax 165 false (az 167 1 166),ax 165 false (aF 168 2 1 5),ax 165 false (az 169 1 168),ax 165 false (bt 170 .neq 167 169),dq 171 165 170,I 152 171] (aW 152 (aa [bu 6 false] .ret) (aa [aF 173 0 1 4,az 174 1 173,aV 175 .eql 174 4,I 172 175] (aW 172 (.seq (.drawn false 198 [I 176 0,aF 177 3 1 4,az 178 1 177,kD 179 4 178 0,bf 180 4 179,aF 181 3 1 5,az 182 1 181,kD 183 4 182 0,bf 184 4 183,dN 185 218 [.t 176,.t 180,.t 184],I 186 185,cg 186 true 187 0,ax 186 true (aF 188 3 1 4),ax 186 true (az 189 1 188),ax 186 true (kD 190 4 189 1),ax 186 true (bf 191 4 190),ax 186 true (aF 192 3 1 5),ax 186 true (az 193 1 192),ax 186 true (kD 194 4 193 1),ax 186 true (bf 195 4 194),ax 186 true (dN 196 218 [.t 187,.t 191,.t 195]),ej 197 186 196,I 6 197]) .ret) .skip))))))))))) (aa [bu 6 true] .ret)))
def SH:C:=(.region [az 3 1 1,I 4 0,b8 5 216 3 4])
def SI:C:=(aa [cU 4 0,cU 5 1,cU 6 2,cU 7 3,bu 8 false] (aa [ds (.alloc 9 (some 712) (.bool false)),ds (.store 1 (.t 9) (.c (.bool false)))] (.seq (.fz false 7 (.fz false 6 (.fz false 4 (.region [bf 10 4 5,cf 11 (.mkf 257 [.t 4,.t 9,.t 6,.t 7]),b8 12 134 10 11])))) (aa [az 13 1 9,I 8 13] .ret))))
def SF:C:=(aa [cU 5 2,bu 6 false] (.seq (.drawn true 24 [I 7 0,gy 8 7,aF 9 1 1 8,az 10 1 9,I 11 1,bf 12 4 5,ds (.mput .i (.t 10) (.t 11) (.t 12))]) (aa [I 13 0,gy 14 13,aF 15 2 1 14,az 16 1 15,I 17 1,ds (.mput .i (.t 16) (.t 17) (.c (.bool true)))] (aa [I 18 0,bf 19 4 5,I 20 1,ds (.mkmap 21 (some 715)),dN 22 246 [.t 18,.t 19,.t 20,.t 21],cK 23 22,I 6 23] .ret))))
def A1:C:=(aa [cU 2 0,bu 4 false] (.seq (.seq (.fz false 2 (.region [az 6 1 2,gy 7 6,aF 8 3 1 7,az 9 1 8,I 10 1,cf 11 (.mget .i (.int .i64 0) false (.t 9) (.t 10)),aV 12 .eql 11 2])) (aW 12 (aa [bu 4 true] .ret) .skip)) (.seq (aa [az 13 1 2,gy 14 13,aF 15 3 1 14,az 16 1 15,I 17 1,cf 18 (.mget .i (.int .i64 0) false (.t 16) (.t 17)),aV 19 .eql 18 1] (aW 19 (aa [bu 4 false] .ret) .skip)) (aa [az 20 1 2,gy 21 20,aF 22 3 1 21,az 23 1 22,I 24 1,ds (.mput .i (.t 23) (.t 24) (gV 1))] (aa [az 25 1 2,gy 26 25,aF 27 4 1 26,az 28 1 27,I 29 1,ds (.mput .i (.t 28) (.t 29) (gV 1))] (.seq (aa [az 30 1 2,gy 31 30,aF 32 2 1 31,az 33 1 32,I 34 1,cf 35 (.mget .i (.bool false) false (.t 33) (.t 34))] (aW 35 (aa [ds (.alloc 5 (some 712) (.bool false)),ds (.store 1 (.t 5) (.c (.bool true)))] (aa [az 36 1 2,gy 37 36,aF 38 1 1 37,az 39 1 38,I 40 1,cf 41 (.mget .i (.agg eB) false (.t 39) (.t 40)),cf 42 (.mkf 258 [.t 5,.t 2]),b8 43 134 41 42] (.seq (aa [az 44 1 5,cK 45 44] (aW 45 (aa [bu 4 false] .ret) .skip)) (.drawn false 64 [az 46 1 2,gy 47 46,aF 48 4 1 47,az 49 1 48,I 50 1,az 51 1 2,gy 52 51,aF 53 1 1 52,az 54 1 53,I 55 1,cf 56 (.mgetB .i (.agg eB) false (.t 54) (.t 55)),cf 57 (.mkf 259 [.t 2]),b8 58 192 56 57,ds (.mput .i (.t 49) (.t 50) (.t 58))])))) .skip)) (aa [az 59 1 2,gy 60 59,aF 61 3 1 60,az 62 1 61,I 63 1,ds (.mput .i (.t 62) (.t 63) (gV 2))] (aa [bu 4 true] .ret))))))))
def GP:C:=(aa [cU 2 0,dF 4 eB] (.seq (.seq (.fz false 2 (.region [az 9 1 2,gy 10 9,aF 11 5 1 10,az 12 1 11,I 13 1,cf 14 (.mget .i (.agg eB) true (.t 12) (.t 13)),I 8 14,cS 15 0 8,cS 16 1 8,dF 5 eB,bV 4 5 15,I 6 16])) (aa [I 17 6] (aW 17 (aa [bf 18 4 5,bV 4 4 18] .ret) .skip))) (aa [I 19 1,cQ 20 116 19,dF 7 eB,bV 4 7 20] (.seq (aa [az 21 1 2,gy 22 21,aF 23 2 1 22,az 24 1 23,I 25 1,cf 26 (.mget .i (.bool false) false (.t 24) (.t 25))] (aW 26 (.region [az 27 1 2,gy 28 27,aF 29 1 1 28,az 30 1 29,I 31 1,cf 32 (.mget .i (.agg eB) false (.t 30) (.t 31)),cf 33 (.mkf 260 [.t 2]),b8 34 194 32 33,bV 4 7 34]) .skip)) (.seq (.drawn true 42 [az 35 1 2,gy 36 35,aF 37 5 1 36,az 38 1 37,I 39 1,bf 40 4 7,ds (.mput .i (.t 38) (.t 39) (.t 40))]) (aa [bf 41 4 7,bV 4 4 41] .ret))))))
def SJ:C:=(aa [az 7 1 1,I 8 0,b8 9 216 7 8,I 6 9] (.seq (aa [az 10 1 2,I 11 10,cg 11 false 12 6,ax 11 false (az 13 1 3),ax 11 false (bt 14 .eql 12 13),dq 15 11 14] (aW 15 (aa [ds (.store 1 (.t 2) (.c (.bool true)))] .ret) .skip)) (aa [az 16 1 4,I 17 6,cf 18 (.mget .i (.bool false) false (.t 16) (.t 17)),cK 19 18,I 20 19,ax 20 true (az 21 1 1),ax 20 true (gy 22 21),ax 20 true (aF 23 2 1 22),ax 20 true (az 24 1 23),cg 20 true 25 6,ax 20 true (cf 26 (.mget .i (.bool false) false (.t 24) (.t 25))),ej 27 20 26] (aW 27 (aa [az 28 1 4,I 29 6,ds (.mput .i (.t 28) (.t 29) (.c (.bool true)))] (.drawn false 40 [az 30 1 1,az 31 1 1,gy 32 31,aF 33 1 1 32,az 34 1 33,I 35 6,cf 36 (.mgetB .i (.agg eB) false (.t 34) (.t 35)),az 37 1 3,az 38 1 4,dN 39 246 [.t 30,.t 36,.t 37,.t 38],bV 1 2 39])) .skip))))
def Lp:C:=(.seq (.drawn false 13 [cf 4 (.loadB false 1 (.t 1)),I 5 4,ax 5 true (az 6 1 2),ax 5 true (az 7 1 2),cg 5 true 8 0,ax 5 true (b8 9 216 7 8),ax 5 true (b8 10 248 6 9),ax 5 true (cK 11 10),ej 12 5 11]) (aW 12 (.region [ds (.store 1 (.t 1) (.c (.bool false)))]) .skip))
def SN:C:=(aa [bM 3 0] (.seq (.drawn false 12 [az 4 1 1,gy 5 4,aF 6 4 1 5,az 7 1 6,az 8 1 1,I 9 0,b8 10 216 8 9,cf 11 (.mgetB .i (.int .i64 0) false (.t 7) (.t 10)),I 3 11]) .ret))
def SM:C:=(aa [dF 3 eB,bu 4 false] (.seq (.drawn false 10 [az 5 1 1,az 6 1 1,I 7 0,b8 8 216 6 7,b8 9 249 5 8,bV 4 3 9,bu 4 true]) .ret))
def aoB:b2 aS S8 [.cell 2 true 4] 1 Tryz.f116=true:=bi
def aoq:b2 aS SX [.tmp 0] 0 Tryz.f215=true:=bi
def aog:b2 aS SK [.tmp 4] 2 Tryz.f216=true:=bi
def aoc:b2 aS SG [] 2 Tryz.f217=true:=bi
def Aa:b2 aS xg [.tmp 6] 3 Tryz.f218=true:=bi
def aod:b2 aS SH [] 2 Tryz.f245=true:=bi
def aoe:b2 aS SI [.tmp 8] 4 Tryz.f246=true:=bi
def aob:b2 aS SF [.tmp 6] 3 Tryz.f247=true:=bi
def Fq:b2 aS A1 [.tmp 4] 2 Tryz.f248=true:=bi
def Pl:b2 aS GP [.cell 4 true 4] 2 Tryz.f249=true:=bi
def aof:b2 aS SJ [] 5 Tryz.f257=true:=bi
def ZM:b2 aS Lp [] 3 Tryz.f258=true:=bi
def aoj:b2 aS SN [.tmp 3] 2 Tryz.f259=true:=bi
def aoi:b2 aS SM [.cell 3 true 4,.tmp 4] 2 Tryz.f260=true:=bi
end
section
open Go Go.Pv
section
variable {α:Type} (S:α->cT) (dE:∀a,ey (S a)) (e5:∀a b,Same (S a) (S b)) (g:Nat) (dH:List af) (ay:∀a,aH (aM (S a)) dH) (dx:b9 dH=dH)
include dE e5 ay dx in
theorem V8(e:α->Prop)(f:Int->α->Option α)(o:∀v a bp,e a->f v a=some bp->e bp/\bE au g (aj v::dH) (S a) fun r d=>r= .tuple []/\d=S bp)(t:T):
  ∀a bp,e a->t.foldO f a=some bp->e bp/\bE au 134 [t.e,.func g dH] (S a) fun r d=>r= .tuple []/\d=S bp:=by
 have b:∀a m,ae (.loc m) (S a).b=none:=fun a=>(dE a).obj.1;have hu:∀a m cs,cL (.loc m) cs (S a).b=(S a).b++[(.loc m,cs)]:=fun a m cs=>kO (b a m);have aq:∀a m,aB.loc m∉cJ (S a):=fun a=>kJ (dE a).obj;induction t with
 |pair x y l k=>intro a bp hi he;have c:=dE a;simp only[T.foldO,ou]at he;obtain⟨h,J,U⟩:=he;obtain⟨i1,g1⟩:=l a h hi J;obtain⟨i2,g2⟩:=k h bp i1 U;refine⟨i2,?_⟩;refine bE.mk mixed a6 Tryz.func134 Cx Ψ c.obj fun j i=>?_;unfold y5;simp[hu,aq,c7,b,dx];(repeat' first|refine al ?_|simp[hu,aq,c7,b]);refine CallDo.ob g1 c aX aX (by simp[ay]) ?_;rintro r d ⟨rfl,rfl⟩;refine⟨e5 _ _,?_⟩;simp[hH,jy,cH,b];(repeat' first|refine al ?_|simp[hu,aq,c7,b]);rw[dx];refine CallDo.ob g2 (dE h) aX aX (by simp[ay]) ?_;rintro r d ⟨rfl,rfl⟩;refine⟨e5 _ _,?_⟩;simp[hH,jy,cH,b];refine c6.at (S bp) (.inr rfl) (dE _) (e5 _ _) aX aX ?_;simp[dc,ba,be,a1]
 |var n=>intro a bp hi he;have c:=dE a;simp only[T.foldO]at he;obtain⟨i1,g1⟩:=o n a bp hi he;refine⟨i1,?_⟩;refine bE.mk mixed a6 Tryz.func134 Cx Ψ c.obj fun j i=>?_;unfold y5;simp[hu,aq,c7,b,dx];(repeat' first|refine al ?_|simp[hu,aq,c7,b]);refine CallDo.ob g1 c aX aX (by simp[ay]) ?_;rintro r d ⟨rfl,rfl⟩;refine⟨e5 _ _,?_⟩;simp[hH,jy,cH,b,c7];refine c6.at (S bp) (.inr rfl) (dE _) (e5 _ _) aX aX ?_;simp[dc,ba,be,a1]
 |_=>intro a bp hi he;have c:=dE a;simp only[T.foldO,dV]at he;subst he;refine⟨hi,?_⟩;refine bE.mk mixed a6 Tryz.func134 Cx Ψ c.obj fun j i=>?_;unfold y5;simp[hu,aq,c7,b,dx];(repeat' first|refine al ?_|simp[hu,aq,c7,b]);refine c6.at (S a) (.inr rfl) c (Same.refl _) aX aX ?_;simp[dc,ba,be,a1]
include dE e5 ay dx in
theorem MI(f:Int->α->Option α)(c:∀v a bp,f v a=some bp->bE au g (aj v::dH) (S a) fun r b=>r= .tuple []/\b=S bp)(t:T)(a bp:α)(h:t.foldO f a=some bp):bE au 134 [t.e,.func g dH] (S a) fun r b=>r= .tuple []/\b=S bp:=(V8 S dE e5 g dH ay dx (fun _=>True) f (fun v a bp _ h=>⟨trivial,c v a bp h⟩) t a bp trivial h).2
include dE e5 ay dx in
theorem aju(f:Int->α->Option (T×α))(s:∀v a p,f v a=some p->bE au g (aj v::dH) (S a) fun r h=>r= .tuple [p.1.e,.bool true]/\h=S p.2)(t:T):
  ∀a p,t.mapO f a=some p->bE au 194 [t.e,.func g dH] (S a) fun r h=>r=p.1.e/\h=S p.2:=by
 have b:∀a m,ae (.loc m) (S a).b=none:=fun a=>(dE a).obj.1;have j:∀a m,ae (.loc m) (S a).e=none:=fun a=>(dE a).obj.2;have hu:∀a m cs,cL (.loc m) cs (S a).b=(S a).b++[(.loc m,cs)]:=fun a m cs=>kO (b a m);have aq:∀a m,aB.loc m∉cJ (S a):=fun a=>kJ (dE a).obj;have c:∀a m p r,cL (.loc m) p ((S a).b++r)=(S a).b++cL (.loc m) p r:=fun a m p r=>Da (b a m);induction t with
 |pair x y q o=>intro a p he;have d:=dE a;simp only[T.mapO,ou,ht]at he;obtain⟨e,J,i,U,rfl⟩:=he;refine bE.mk mixed a6 Tryz.func194 Cy Ψ d.obj fun l k=>?_;unfold y6;simp[hu,aq,c7,b,j,dx,c];(repeat' first|refine al ?_|simp[hu,aq,c7,b,j,c]);refine hJ.ob (q a e J) d (dE e.2) (e5 _ _) aX aX (by simp[ay]) ?_;simp[hH,jy,cH,b,dx];(repeat' first|refine al ?_|simp[hu,aq,c7,b,j,c]);refine hJ.ob (o e.2 i U) (dE e.2) (dE i.2) (e5 _ _) aX aX (by simp[ay,dx]) ?_;simp[hH,jy,cH,b,dx];(repeat' first|refine al ?_|refine aO (KD _ _) ?_|refine aP (KD _ _) ?_|simp[c7,b,c]);refine c6.at (S i.2) (.inl rfl) (dE _) (e5 _ _) aX aX ?_;simp[dc,ba,be,a1,c7,b]
 |var n=>
  intro a p he;have d:=dE a;simp only[T.mapO]at he;refine bE.mk mixed a6 Tryz.func194 Cy Ψ d.obj fun l k=>?_;unfold y6;simp[hu,aq,c7,b,dx,c];(repeat' first|refine al ?_|simp[hu,aq,c7,b,c]);refine CallDo.ob (s n a p he) d aX aX (by simp[ay]) ?_;rintro r h ⟨rfl,rfl⟩;refine⟨e5 _ _,?_⟩;simp[hH,jy,cH,b,hu,aq,c7];(repeat' first|refine al ?_|refine aO (vv _) ?_|refine aP (vv _) ?_|simp[hu,aq,c7,b,c]);all_goals refine c6.at (S p.2) (.inl rfl) (dE _) (e5 _ _) aX aX ?_
  all_goals simp[dc,ba,be,a1,c7,b]
 |_=>intro a p he;have d:=dE a;simp only[T.mapO,dV]at he;subst he;refine bE.mk mixed a6 Tryz.func194 Cy Ψ d.obj fun l k=>?_;unfold y6;simp[hu,aq,c7,b,dx,c];(repeat' first|refine al ?_|simp[hu,aq,c7,b,c]);refine c6.at (S a) (.inl rfl) d (Same.refl _) aX aX ?_;simp[dc,ba,be,a1,c7,b]
include dE e5 ay dx in
theorem ajO(i:α->Prop)(f:Int->α->Option (Int×α))(A:∀v a p,i a->f v a=some p->i p.2/\0<=p.1/\p.1<=1000000)(z:∀v a p,i a->f v a=some p->bE au g (aj v::dH) (S a) fun r e=>r=aj p.1/\e=S p.2)(t:T):
  ∀a p,i a->t.sizeO f a=some p->i p.2/\(0<=p.1/\p.1<=5001)/\bE au 192 [t.e,.func g dH] (S a) fun r e=>r=aj p.1/\e=S p.2:=by
 have b:∀a m,ae (.loc m) (S a).b=none:=fun a=>(dE a).obj.1;have hu:∀a m cs,cL (.loc m) cs (S a).b=(S a).b++[(.loc m,cs)]:=fun a m cs=>kO (b a m);have aq:∀a m,aB.loc m∉cJ (S a):=fun a=>kJ (dE a).obj;induction t with
 |pair x y s q=>
  intro a p hi he;have c:=dE a;simp only[T.sizeO,ou]at he;obtain⟨d,J,U⟩:=he;obtain⟨i1,u,g1⟩:=s a d hi J;by_cases o:5000<d.1
  ·rw[if_pos o]at U;cases U;refine⟨i1,u,?_⟩;refine bE.mk mixed a6 Tryz.func192 Ab Ψ c.obj fun k j=>?_;unfold xh;simp[hu,aq,c7,b,dx];(repeat' first|refine al ?_|simp[hu,aq,c7,b]);refine CallDo.ob g1 c aX aX (by simp[ay]) ?_;rintro r e ⟨rfl,rfl⟩;refine⟨e5 _ _,?_⟩;simp[hH,jy,cH,b];((with_reducible repeat' first|((first|apply cq|apply cu|apply ct)<;>intro h<;>try simp at h)|refine al ?_|simp[hu,aq,c7,b])<;>(try contradiction));all_goals first|omega|(refine c6.at (S p.2) (.inl rfl) (dE _) (e5 _ _) aX aX ?_;simp[dc,ba,be,a1])
  ·rw[if_neg o,ht]at U;obtain⟨l,U,rfl⟩:=U;obtain⟨i2,B,g2⟩:=q d.2 l i1 U;refine⟨i2,by simp only;split<;>omega,?_⟩;refine bE.mk mixed a6 Tryz.func192 Ab Ψ c.obj fun k j=>?_;unfold xh;simp[hu,aq,c7,b,dx];(with_reducible repeat' first|((first|apply cq|apply cu|apply ct)<;>intro h<;>try simp at h)|refine al ?_|simp[hu,aq,c7,b]);refine CallDo.ob g1 c aX aX (by simp[ay]) ?_;rintro r e ⟨rfl,rfl⟩;refine⟨e5 _ _,?_⟩;simp[hH,jy,cH,b];((repeat' first|refine al ?_|simp[hu,aq,c7,b]|((first|apply cq|apply cu|apply ct)<;>intro h<;>try simp at h))<;>(try exact c0));all_goals first|omega|skip
   rw[dx];refine CallDo.ob g2 (dE d.2) aX aX (by simp[ay]) ?_;rintro r s2 ⟨rfl,rfl⟩;refine⟨e5 _ _,?_⟩;simp[hH,jy,cH,b];(repeat' first|refine al ?_|simp[hu,aq,c7,b]);refine c6.at (S l.2) (.inl rfl) (dE _) (e5 _ _) aX aX ?_;simp[dc,ba,be,a1]
 |var n=>intro a p hi he;have c:=dE a;simp only[T.sizeO,ht]at he;obtain⟨d,J,rfl⟩:=he;have w:=A n a d hi J;refine⟨w.1,by simp only;split<;>omega,?_⟩;refine bE.mk mixed a6 Tryz.func192 Ab Ψ c.obj fun k j=>?_;unfold xh;simp[hu,aq,c7,b,dx];(repeat' first|refine al ?_|simp[hu,aq,c7,b]);refine CallDo.ob (z n a d hi J) c aX aX (by simp[ay]) ?_;rintro r e ⟨rfl,rfl⟩;refine⟨e5 _ _,?_⟩;simp[hH,jy,cH,b];refine c6.at (S d.2) (.inl rfl) (dE _) (e5 _ _) aX aX ?_;simp[dc,ba,be,a1]
 |_=>intro a p hi he;have c:=dE a;simp only[T.sizeO,dV]at he;subst he;refine⟨hi,Ψ,?_⟩;refine bE.mk mixed a6 Tryz.func192 Ab Ψ c.obj fun k j=>?_;unfold xh;simp[hu,aq,c7,b,dx];(repeat' first|refine al ?_|simp[hu,aq,c7,b]);refine c6.at (S a) (.inl rfl) c (Same.refl _) aX aX ?_;simp[dc,ba,be,a1]
end
end
end Go.Proofs.YtahlgcidhnjlbaaGreat
namespace Go.Pv
section
open Go Go.RowKit
section
variable {P:cG} {ob:List aB} {st:bo} {Q:Exit->bo->Prop} {c:C} {α:Type}
def e1(b:List Nat)(cs:Nat->α->List (Nat×af))(n:Nat)(d:Nat->α->Prop)(a0:α)(hw:gq ob st (q0 st b (cs 0 a0)))(g:d 0 a0)(e:∀a,d n a->(∀i,eU (get i (q0 st b (cs n a)).t))->de P ob c (bX ob (AN (fun i a=>q0 st b (cs i a)) n d) 0 Q) (q0 st b (cs n a)))
  (f:∀i a,i<n->d i a->(∀j,eU (get j (q0 st b (cs i a)).t))->de P ob c (bX ob (AN (fun i a=>q0 st b (cs i a)) n d) (n-i) Q) (q0 st b (cs i a))):de P ob (.loop c) Q st:=
 fT (fun i a=>q0 st b (cs i a)) n d a0 hw g e f
def xr(b:List Nat)(cs:α->List (Nat×af))(μ:α->Nat)(d:α->Prop)(a0:α)(hw:gq ob st (q0 st b (cs a0)))(f:d a0)
  (e:∀a,d a->(∀j,eU (get j (q0 st b (cs a)).t))->de P ob c (bX ob (Dl (fun a=>q0 st b (cs a)) μ d) (μ a) Q) (q0 st b (cs a))):de P ob (.loop c) Q st:=
 pe (fun a=>q0 st b (cs a)) μ d a0 hw f e
end
attribute [simp] anq
end
end Go.Pv
namespace Go.Proofs.YtahlgcidhnjlbaaGreat
section
open Go Go.Pv
def OE{α β:Type}(k:aB):∀{l:List (aB×α)} {a:List (aB×β)},l.map (·.1)=a.map (·.1)->(ae k l).isSome=(ae k a).isSome
 |[],[],_=>rfl
 |[],_::_,h=>by simp at h
 |_::_,[],h=>by simp at h
 |(i,x)::r,(j,y)::b,h=>by
  simp only[gX,r5]at h;simp only[ae];obtain⟨rfl,h⟩:=h;split
  ·rfl
  ·exact OE k h
def _root_.Go.Pv.Same.keys{s a:cT}(b:s.b.map (·.1)=a.b.map (·.1))(he:s.e.map (·.1)=a.e.map (·.1)):Same s a:=⟨fun k=>OE k b,fun k=>OE k he⟩
section
variable {α:Type} (e:α->af)
def tR(l:List (Int×α)):List af:=k1 (l.map fun x=>(x.1,e x.2))
def RW(k:Int):∀l:List (Int×α),y1 k (l.map fun x=>(x.1,e x.2))=(dp k l).map e
 |[]=>rfl
 |(i,v)::r=>by
  simp only[gX,y1,dp];split
  ·rfl
  ·exact RW k r
def R3(k:Int)(v:α):∀l:List (Int×α),qA k (e v) (l.map fun x=>(x.1,e x.2))=if(dp k l).isSome then some ((fD k v l).map fun x=>(x.1,e x.2))else none
 |[]=>rfl
 |(i,w)::r=>by
  simp only[gX,qA,dp,fD];by_cases h:k=i
  ·subst h;simp
  ·simp only[h,if_false,R3 k v r];cases (dp k r).isSome<;>simp
def acU{k:Int}{v:α}:∀{l:List (Int×α)},dp k l=none->fD k v l=l++[(k,v)]
 |[],_=>rfl
 |(i,w)::r,h=>by
  simp only[dp]at h;split at h
  ·cases h
  ·rename_i a;simp[fD,a,acU h]
def OX(k:Int)(v:α)(l:List (Int×α)):q1 .i (aj k) (e v) (tR e l)=some (tR e (fD k v l)):=by
 simp only[tR,Zu,GH,R3];cases h:dp k l with
 |some w=>simp
 |none=>simp[acU h]
def OT(f:aB->Option (List af))(m:aB)(l:List (Int×α))(z:af)(ok:Bool)(k:Int)(hm:f m=some (tR e l)):pt f .i z ok (.gmap m) (aj k)=some (True,if ok then .tuple [((dp k l).map e).getD z,.bool (dp k l).isSome]else((dp k l).map e).getD z):=by rw[ana f m _ z ok k hm,RW];cases dp k l<;>rfl
@[simp]def axv(l:List (Int×α)):gZ (tR e l)=false:=rfl
def On(S:aB->Prop)(he:∀x,aA S (e x))(l:List (Int×α)):aH S (tR e l):=by
 have:∀l:List (Int×α),aH S (flat (l.map fun x=>(x.1,e x.2))):=by
  intro l;induction l with
  |nil=>simp[flat,aH]
  |cons x r a=>simp[flat,aH,a,he]
 simp[tR,k1,aH,this,aA]
end
def oR:List (Int×Int)->List af:=tR (af.int .i64)
def rN:List (Int×Bool)->List af:=tR af.bool
def vg:List (Int×T)->List af:=tR T.e
@[simp]def axs(l):gZ (oR l)=false:=rfl
@[simp]def axq(l):gZ (rN l)=false:=rfl
@[simp]def axu(l):gZ (vg l)=false:=rfl
@[simp]def awb(S:aB->Prop)(l):aH S (oR l)=True:=h1 (On _ S (fun _=>by simp) l)
@[simp]def awa(S:aB->Prop)(l):aH S (rN l)=True:=h1 (On _ S (fun _=>by simp) l)
@[simp]def awc(S:aB->Prop)(l):aH S (vg l)=True:=h1 (On _ S (fun _=>by simp) l)
@[simp]def axa(k v:Int)(l):q1 .i (aj k) (aj v) (oR l)=some (oR (fD k v l)):=OX _ k v l
@[simp]def aw9(k:Int)(v:Bool)(l):q1 .i (aj k) (.bool v) (rN l)=some (rN (fD k v l)):=OX _ k v l
@[simp]def axc(k:Int)(v:T)(l):q1 .i (aj k) v.e (vg l)=some (vg (fD k v l)):=OX _ k v l
def Fc(a:kj)(z:af)(ok:Bool)(o:Option (List af))(k:af):Option (Prop×af):=pt (fun _=>o) a z ok (.gmap (.loc 0)) k
@[simp]def aw7(f:aB->Option (List af))(a:kj)(z:af)(ok:Bool)(m:aB)(k:af):pt f a z ok (.gmap m) k=Fc a z ok (f m) k:=by simp only[Fc,Y8]
def anc(f:aB->Option (List af))(m:aB)(l:List (Int×Int))(ok:Bool)(k:Int)(hm:f m=some (oR l)):pt f .i (aj 0) ok (.gmap m) (aj k)=some (True,if ok then .tuple [aj (jR l k),.bool (dp k l).isSome]else aj (jR l k)):=by rw[OT _ f m l _ ok k hm];unfold jR;cases dp k l<;>rfl
def anb(f:aB->Option (List af))(m:aB)(l:List (Int×Bool))(ok:Bool)(k:Int)(hm:f m=some (rN l)):pt f .i (.bool false) ok (.gmap m) (aj k)=some (True,if ok then .tuple [.bool ((dp k l).getD false),.bool (dp k l).isSome]else .bool ((dp k l).getD false)):=by rw[OT _ f m l _ ok k hm];cases dp k l<;>rfl
def acG:af:= .agg [aj 0,aj 0,.str [],.slice 4 .nil []]
def yG(o:Option T):af:=(o.map T.e).getD acG
def ane(f:aB->Option (List af))(m:aB)(l:List (Int×T))(ok:Bool)(k:Int)(hm:f m=some (vg l)):pt f .i (.agg [aj 0,aj 0,.str [],.slice 4 .nil []]) ok (.gmap m) (aj k)=some (True,if ok then .tuple [yG (dp k l),.bool (dp k l).isSome]else yG (dp k l)):=by rw[OT _ f m l _ ok k hm];rfl
@[simp]def aw5(l:List (Int×Int))(ok:Bool)(k:Int):Fc .i (aj 0) ok (some (oR l)) (aj k)=some (True,if ok then .tuple [aj (jR l k),.bool (dp k l).isSome]else aj (jR l k)):=anc _ _ l ok k rfl
@[simp]def aw4(l:List (Int×Bool))(ok:Bool)(k:Int):Fc .i (.bool false) ok (some (rN l)) (aj k)=some (True,if ok then .tuple [.bool ((dp k l).getD false),.bool (dp k l).isSome]else .bool ((dp k l).getD false)):=anb _ _ l ok k rfl
@[simp]def aw6(l:List (Int×T))(ok:Bool)(k:Int):Fc .i (.agg [aj 0,aj 0,.str [],.slice 4 .nil []]) ok (some (vg l)) (aj k)=some (True,if ok then .tuple [yG (dp k l),.bool (dp k l).isSome]else yG (dp k l)):=ane _ _ l ok k rfl
@[simp]def ayu(o:Option T):b3 (yG o)=(o.getD .nil).e:=by cases o<;>simp[yG,acG,b3,b9]
@[simp]def awT:[af.hdm 0 []]=k1 []:=rfl
def aE:af:= .eptr (.agg [.gmap (.obj 702),.gmap (.obj 703),.gmap (.obj 704),.gmap (.obj 705),.gmap (.obj 706),.gmap (.obj 707)])
def aD(c:bL):List (aB×List af):=[(.obj 702,oR c.up),(.obj 703,vg c.shape),(.obj 704,rN c.shaped),(.obj 705,oR c.color),(.obj 706,oR c.size),(.obj 707,vg c.full)]
def aQ(c:bL):cT:=⟨aD c,[]⟩
def cy(c:bL):ey (aQ c):=by unfold aQ aD;exact ey.of ⟨by intro m;simp[ae],by intro m;simp[ae]⟩ Ψ Ψ
def Gy(c a:bL):Same (aQ c) (aQ a):=by
 refine⟨fun k=>?_,fun k=>rfl⟩;simp only[aQ,aD,ae];repeat' split
 all_goals rfl
def td(c:bL)(v r:Int)(d:bL)(he:rt c v=some (r,d)):bE au 216 [aE,aj v] (aQ c) fun g j=>g=aj r/\j=aQ d:=by
 have f:=cy c;have e:=cy d;have e5:=Gy c d;simp only[rt,ht,jo]at he;obtain⟨⟨i,m1⟩,he,rfl,rfl⟩:=he;unfold aQ aD at f e e5⊢;simp only at e e5⊢;unfold aE;refine bE.mk mixed a6 Tryz.func216 aog Ψ f.obj fun o l=>?_;unfold SK;simp;(with_reducible repeat' first|((first|apply cq|apply cu|apply ct)<;>intro h<;>try simp at h)|refine al ?_|simp);all_goals
  refine pe (α:=Nat×Int×List (Int×Int)) (fun a=>⟨[(0,aE),(1,aj a.2.1)],[(.obj 702,oR a.2.2),(.obj 703,vg c.shape),(.obj 704,rN c.shaped),(.obj 705,oR c.color),(.obj 706,oR c.size),(.obj 707,vg c.full)],[],0,[.obj 702,.obj 703,.obj 704,.obj 705,.obj 706,.obj 707]⟩) (fun a=>a.1) (fun a=>yw a.1 a.2.2 a.2.1=some (i,m1)) (v.toNat+1,v,AT v c.up) (by simp[AT,h,aE];exact⟨by simp[fresh,aH,aA,cd,aM,ae,aE],ep (by simp[fresh,aH,aA,cd,aM,ae,aE]),er (by simp[fresh,aH,aA,dW,aM,ae,aE]),Ψ⟩) he ?_
  rintro⟨n,u,m⟩ b k
  simp only at b k⊢
  cases n with
  |zero=>simp[yw]at b
  |succ n=>
   simp only[yw]at b
   simp[aE]
   (with_reducible repeat' first|((first|apply cq|apply cu|apply ct)<;>intro h<;>try simp at h)|refine al ?_|simp)
   ·rw[if_neg h]at b
    refine bX.whl (n,jR (fD u (jR m (jR m u)) m) u,fD u (jR m (jR m u)) m) (Nat.lt_succ_self n) b ?_
    simp[aE]
    exact⟨by simp[fresh,aH,aA,cd,aM,ae,aE],ep (by simp[fresh,aH,aA,cd,aM,ae,aE]),er (by simp[fresh,aH,aA,dW,aM,ae,aE]),Ψ⟩
   ·rw[if_pos h]at b
    cases b
    refine c6.at _ (.inl rfl) e e5 aX aX ?_
    simp[dc,ba,be,a1]
end
section
open Go Go.Pv
def ajC(c:bL)(v r:Int)(a:bL)(he:rt c v=some (r,a)):bE au 245 [aj v,.eptr aE] (aQ c) fun e b=>e= .tuple []/\b=aQ a:=by have d:=cy c;simp only[aQ,aD]at d⊢;refine bE.mk mixed a6 Tryz.func245 aod Ψ d.obj fun g f=>?_;unfold SH;simp[aE];(refine CallDo.ob (td c v r a he) ci bv bv d7 ?_;rintro r b ⟨rfl,rfl⟩;refine⟨(Same.keys co co),?_⟩;simp[cH,aQ,aD,aE]);(refine c6.at (aQ a) Ψ ci (Same.keys co co) bv bv ?_;simp[dc,ba,be,a1,aM,ae,aQ,aD,aE])
def ML(c:bL)(t:T)(b:bL)(he:Ch t c=some b):bE au 217 [aE,t.e] (aQ c) fun f d=>f= .tuple []/\d=aQ b:=by
 have e:=cy c;have key:=MI aQ cy Gy 245 [.eptr aE] (fun a=>by simp[aQ,aD,aE,aM,ae]) rfl (fun(v:Int) (c:bL)=>(rt c v).map Prod.snd) (fun v a bp h=>by rw[ht]at h;obtain⟨⟨r,g⟩,J,rfl⟩:=h;exact ajC a v r g J) t c b he
 simp only[aQ,aD]at e⊢;refine bE.mk mixed a6 Tryz.func217 aoc Ψ e.obj fun j i=>?_;unfold SG;simp[aE];(refine CallDo.ob (key) ci bv bv d7 ?_;rintro r d ⟨rfl,rfl⟩;refine⟨(Same.keys co co),?_⟩;simp[cH,aQ,aD,aE]);(refine c6.at (aQ b) Ψ ci (Same.keys co co) bv bv ?_;simp[dc,ba,be,a1,aM,ae,aQ,aD,aE])
def fh(K:Nat)(a:bL×List (Int×Bool)):cT:=⟨aD a.1++[(.obj K,rN a.2)],[]⟩
def gY(K:Nat)(a:vI):cT:=⟨aD a.c++[(.obj K,rN a.seen),(.obj 712,[.bool a.found])],[]⟩
def z7(K:Nat):Prop:=K=715\/K=716
def jc{K:Nat}(b:z7 K)(a):ey (fh K a):=by unfold fh aD;rcases b with rfl|rfl;all_goals exact ey.of ⟨by intro m;simp[ae],by intro m;simp[ae]⟩ Ψ Ψ
def rn{K:Nat}(b:z7 K)(a):ey (gY K a):=by unfold gY aD;rcases b with rfl|rfl;all_goals exact ey.of ⟨by intro m;simp[ae],by intro m;simp[ae]⟩ Ψ Ψ
def KS{K:Nat}(a b):Same (gY K a) (gY K b):=by
 refine⟨fun k=>?_,fun k=>rfl⟩;simp only[gY,aD,b6,cc,ae];repeat' split
 all_goals rfl
def ajI{K:Nat}(k:z7 K)(n:Nat)(x:Int)(m:∀t c seen a,q4 n x t c seen=some a->bE au 246 [aE,t.e,aj x,.gmap (.obj K)] (fh K (c,seen)) fun r g=>r= .bool a.found/\g=fh K (a.c,a.seen))
  (v:Int) (a bp:vI) (he:yu (q4 n x) x v a=some bp):bE au 257 [aj v,.eptr aE,.ptr (.obj 712) 0,.eptr (aj x),.eptr (.gmap (.obj K))] (gY K a) fun r g=>r= .tuple []/\g=gY K bp:=by
 have l:=rn k a;simp only[yu,ou]at he;obtain⟨⟨r,b⟩,J,U⟩:=he;simp only at U;have ad:=k;rcases ad with rfl|rfl;all_goals
  simp only[gY,aD,b6,cc]at l⊢
  refine bE.mk mixed a6 Tryz.func257 aof Ψ l.obj fun s q=>?_;unfold SJ
  simp[aE]
  (refine CallDo.ob (td a.c v r b J) ci bv bv d7 ?_;rintro r g ⟨rfl,rfl⟩;refine⟨(Same.keys co co),?_⟩;simp[cH,aQ,aD,aE])
  obtain⟨ac,e,p⟩:=a
  cases p with
  |true=>
   simp at U;subst U
   (repeat' first|refine al ?_|simp)
   (refine c6.at (gY _ ⟨b,e,true⟩) Ψ i7 (Same.keys mp mp) d9 d9 ?_;simp[dc,ba,be,a1,aM,ae,gY,aD,aE])
  |false=>
   by_cases h:r=x
   ·simp[h]at U;subst U
    (repeat' first|refine al ?_|simp[h])
    (refine c6.at (gY _ ⟨b,e,true⟩) Ψ i7 (Same.keys mp mp) d9 d9 ?_;simp[dc,ba,be,a1,aM,ae,gY,aD,aE])
   ·have i:(r==x)=false:=by simp[h]
    simp only[h,hU,or_self,if_false]at U
    cases d:(dp r e).getD false with
    |true=>
     simp[d]at U;subst U
     (repeat' first|refine al ?_|simp[i,d])
     (refine c6.at (gY _ ⟨b,e,false⟩) Ψ i7 (Same.keys mp mp) d9 d9 ?_;simp[dc,ba,be,a1,aM,ae,gY,aD,aE])
    |false=>
     cases f:b.shd r with
     |false=>
      have j:(dp r b.shaped).getD false=false:=f
      simp[d,f]at U;subst U
      (repeat' first|refine al ?_|simp[i,d,j])
      (refine c6.at (gY _ ⟨b,e,false⟩) Ψ i7 (Same.keys mp mp) d9 d9 ?_;simp[dc,ba,be,a1,aM,ae,gY,aD,aE])
     |true=>
      have j:(dp r b.shaped).getD false=true:=f
      simp[d,f]at U
      have o:=m _ _ _ _ U
      (repeat' first|refine al ?_|simp[i,d,j])
      (refine hJ.ob (o) d8 d8 (Same.keys m7 m7) ge ge (by simp[aM,ae,fh,aD,aE]) ?_;simp[cH,fh,aD,aE])
      (repeat' first|refine al ?_|simp)
      (refine c6.at (gY _ bp) Ψ i7 (Same.keys mp mp) d9 d9 ?_;simp[dc,ba,be,a1,aM,ae,gY,aD,aE])
def HI{K:Nat}(b:z7 K)(x:Int)(n:Nat):∀(t:T) (c:bL) (seen:List (Int×Bool)) (a:vI),q4 n x t c seen=some a->bE au 246 [aE,t.e,aj x,.gmap (.obj K)] (fh K (c,seen)) fun r d=>r= .bool a.found/\d=fh K (a.c,a.seen):=by
 induction n with
 |zero=>intro t c seen a h;simp[q4]at h
 |succ n f=>
  intro t c seen a h;simp only[q4]at h;have e:=jc b (c,seen);have key:=MI (gY K) (rn b) KS 257 [.eptr aE,.ptr (.obj 712) 0,.eptr (aj x),.eptr (.gmap (.obj K))] (fun a=>by rcases b with rfl|rfl<;>simp[gY,aD,aE,aM,ae]) rfl (yu (q4 n x) x) (fun v a bp h=>ajI b n x f v a bp h) t ⟨c,seen,false⟩ a h;have ad:=b;rcases ad with rfl|rfl;all_goals
   simp only[fh,aD,b6,cc]at e⊢
   refine bE.mk mixed a6 Tryz.func246 aoe Ψ e.obj fun i g=>?_;unfold SI
   simp[aE]
   refine CallDo.new key (rn b _) d9 d9 (by simp[aM,ae,gY,aD,aE]) ?_
   rintro r d ⟨rfl,rfl⟩
   refine⟨fun m hm=>.inl ⟨?_,KS _ _⟩,?_⟩
   ·exact((KS _ _).inObs _).2 hm
   simp[cH,gY,aD]
   (repeat' first|refine al ?_|simp)
   (refine c6.at (fh _ (a.c,a.seen)) Ψ d8 (Same.keys m7 m7) ge ge ?_;simp[dc,ba,be,a1,aM,ae,fh,aD,aE])
@[simp]def OG:rN []=k1 []:=rfl
@[simp]def ayx(t:T):yG (some t)=t.e:=rfl
@[simp]def ayw:yG none= .agg [aj 0,aj 0,.str [],.slice 4 .nil []]:=rfl
def Wd(n:Nat)(x:Int)(t:T)(c:bL)(p:Bool×bL)(he:wI n x t c=some p):bE au 247 [aE,aj x,t.e] (aQ c) fun r b=>r= .bool p.1/\b=aQ p.2:=by have d:=cy c;simp only[wI,ht]at he;obtain⟨a,J,rfl⟩:=he;have e:z7 715:= .inl rfl;have key:=HI e x n t (c.know x t) [] a J;simp only[aQ,aD]at d⊢;refine bE.mk mixed a6 Tryz.func247 aob Ψ d.obj fun g f=>?_;unfold SF;simp[aE];(refine CallDo.ob (key) d8 (by simp only[fh,aD,aE,bL.know,b6,cc];exact aX) (by simp only[fh,aD,aE,bL.know,b6,cc];exact aX) (by simp[aM,ae,fh,aD,aE,bL.know]) ?_;rintro r b ⟨rfl,rfl⟩;refine⟨(Same.keys (by simp[fh,aD,aE,bL.know]) (by simp[fh,aD,aE,bL.know])),?_⟩;simp[cH,fh,aD,aE,bL.know]);(refine c6.at (aQ a.c) Ψ ci (Same.keys co co) bv bv ?_;simp[dc,ba,be,a1,aM,ae,aQ,aD,aE])
def V9(n:Nat):∀(a b:T) (c:bL) (p:Bool×bL),hv n a b c=some p->bE au 218 [aE,a.e,b.e] (aQ c) fun r w=>r= .bool p.1/\w=aQ p.2:=by
 induction n with
 |zero=>intro a b c p h;simp[hv]at h
 |succ n L=>
  intro a b c p he;have t:=cy c;have EL:∀i j,a= .var i->b= .var j->bE au 218 [aE,a.e,b.e] (aQ c) fun r w=>r= .bool p.1/\w=aQ p.2:=by
   rintro i j rfl rfl;simp only[hv,ou]at he;obtain⟨⟨x,A⟩,J,⟨y,s⟩,U,E⟩:=he;simp only at U E;simp only[aQ,aD]at t⊢;refine bE.mk mixed a6 Tryz.func218 Aa Ψ t.obj fun M K=>?_;unfold xg;simp[aE];(refine CallDo.ob (td c i x A J) ci bv bv d7 ?_;rintro r w ⟨rfl,rfl⟩;refine⟨(Same.keys co co),?_⟩;simp[cH,aQ,aD,aE]);(repeat' first|refine al ?_|simp);(refine CallDo.ob (td A j y s U) ci bv bv d7 ?_;rintro r w ⟨rfl,rfl⟩;refine⟨(Same.keys co co),?_⟩;simp[cH,aQ,aD,aE]);by_cases V:x=y
   ·rw[if_pos V]at E;cases E;(repeat' first|refine al ?_|simp[V]);(refine c6.at (aQ s) Ψ ci (Same.keys co co) bv bv ?_;simp[dc,ba,be,a1,aM,ae,aQ,aD,aE])
   ·rw[if_neg V]at E;have O:(x==y)=false:=by simp[V]
    have Wy:z7 715:= .inl rfl;have Z:z7 716:= .inr rfl;obtain⟨u,v,P,z⟩:∃u v,((u=y/\v=x/\y<x)\/(u=x/\v=y/\¬y<x))/\tb (hv n) n u v (s.join u v)=some p:=by
     by_cases q:y<x
     ·rw[if_pos q]at E;exact⟨y,x,.inl ⟨rfl,rfl,q⟩,E⟩
     ·rw[if_neg q]at E;exact⟨x,y,.inr ⟨rfl,rfl,q⟩,E⟩
    clear E;obtain⟨d,H⟩:∃d,d=s.join u v:=⟨_,rfl⟩;have m:d.up=fD v u s.up:=by rw[H];rfl
    have f:d.shape=s.shape:=by rw[H];rfl
    have e:d.shaped=s.shaped:=by rw[H];rfl
    have g:d.color=s.color:=by rw[H];rfl
    have l:d.size=s.size:=by rw[H];rfl
    have k:d.full=s.full:=by rw[H];rfl
    rw[<-H]at z;simp only[tb]at z;cases N:d.shd v with
    |false=>
     have F:(dp v s.shaped).getD false=false:=by rw[<-e];exact N
     rw[if_pos N]at z;cases hu:d.shd u with
     |false=>
      have B:(dp u s.shaped).getD false=false:=by rw[<-e];exact hu
      rw[if_pos hu]at z;cases z;rcases P with⟨rfl,rfl,q⟩|⟨rfl,rfl,q⟩;all_goals
       (repeat' first|refine al ?_|simp[O,q,F,B])
       (refine c6.at (aQ d) Ψ ci (Same.keys (by simp[aQ,aD,aE,m,f,e,g,l,k]) (by simp[aQ,aD,aE,m,f,e,g,l,k])) (by simp only[aQ,aD,aE,m,f,e,g,l,k,b6,cc];exact aX) (by simp only[aQ,aD,aE,m,f,e,g,l,k,b6,cc];exact aX) ?_;simp[dc,ba,be,a1,aM,ae,aQ,aD,aE,m,f,e,g,l,k])
     |true=>
      have B:(dp u s.shaped).getD false=true:=by rw[<-e];exact hu
      rw[if_neg (by simp[hu]),ht]at z;obtain⟨a,Y,rfl⟩:=z;have key:=HI Wy u n _ _ _ _ Y;rw[show d.shp u=(dp u s.shape).getD .nil from by rw[<-f];rfl]at key;rcases P with⟨rfl,rfl,q⟩|⟨rfl,rfl,q⟩;all_goals
       (repeat' first|refine al ?_|simp[O,q,F,B])
       (refine CallDo.ob (key) d8 (by simp only[fh,aD,aE,m,f,e,g,l,k,b6,cc];exact aX) (by simp only[fh,aD,aE,m,f,e,g,l,k,b6,cc];exact aX) (by simp[aM,ae,fh,aD,aE,m,f,e,g,l,k]) ?_;rintro r w ⟨rfl,rfl⟩;refine⟨(Same.keys (by simp[fh,aD,aE,m,f,e,g,l,k]) (by simp[fh,aD,aE,m,f,e,g,l,k])),?_⟩;simp[cH,fh,aD,aE,m,f,e,g,l,k])
       (repeat' first|refine al ?_|simp)
       (refine c6.at (aQ a.c) Ψ ci (Same.keys co co) bv bv ?_;simp[dc,ba,be,a1,aM,ae,aQ,aD,aE])
    |true=>
     have F:(dp v s.shaped).getD false=true:=by rw[<-e];exact N
     rw[if_neg (by simp[N])]at z;rw[show d.shp v=(dp v s.shape).getD .nil from by rw[<-f];rfl]at z;cases hu:d.shd u with
     |false=>
      have B:(dp u s.shaped).getD false=false:=by rw[<-e];exact hu
      rw[if_pos hu]at z;have key:=Wd n u _ d p z;cases G:dp v s.shape;all_goals
       rw[G]at key
       simp only[ma,my]at key
       rcases P with⟨rfl,rfl,q⟩|⟨rfl,rfl,q⟩
       all_goals
        (repeat' first|refine al ?_|simp[O,q,F,B,G])
        (refine CallDo.ob (key) ci (by simp only[aQ,aD,aE,m,f,e,g,l,k,b6,cc];exact aX) (by simp only[aQ,aD,aE,m,f,e,g,l,k,b6,cc];exact aX) (by simp[aM,ae,aQ,aD,aE,m,f,e,g,l,k]) ?_;rintro r w ⟨rfl,rfl⟩;refine⟨(Same.keys (by simp[aQ,aD,aE,m,f,e,g,l,k]) (by simp[aQ,aD,aE,m,f,e,g,l,k])),?_⟩;simp[cH,aQ,aD,aE,m,f,e,g,l,k])
        (repeat' first|refine al ?_|simp)
        (refine c6.at (aQ p.2) Ψ ci (Same.keys co co) bv bv ?_;simp[dc,ba,be,a1,aM,ae,aQ,aD,aE])
     |true=>
      have B:(dp u s.shaped).getD false=true:=by rw[<-e];exact hu
      rw[if_neg (by simp[hu]),ou]at z;obtain⟨a,Y,R⟩:=z;have key:=HI Wy u n _ _ _ _ Y;obtain⟨o,G⟩:∃o,dp v s.shape=o:=⟨_,rfl⟩;rw[G]at key R;obtain⟨ac,C1,K9⟩:=a;cases K9 with
      |true=>
       simp at R;subst R;cases o;all_goals
        simp only[ma,my]at key
        rcases P with⟨rfl,rfl,q⟩|⟨rfl,rfl,q⟩
        all_goals
         (repeat' first|refine al ?_|simp[O,q,F,B,G])
         (refine hJ.ob (key) d8 d8 (Same.keys (by simp[fh,aD,aE,m,f,e,g,l,k]) (by simp[fh,aD,aE,m,f,e,g,l,k])) (by simp only[fh,aD,aE,m,f,e,g,l,k,b6,cc];exact aX) (by simp only[fh,aD,aE,m,f,e,g,l,k,b6,cc];exact aX) (by simp[aM,ae,fh,aD,aE,m,f,e,g,l,k]) ?_;simp[cH,fh,aD,aE,m,f,e,g,l,k])
         (repeat' first|refine al ?_|simp)
         (refine c6.at (aQ ac) Ψ ci (Same.keys co co) bv bv ?_;simp[dc,ba,be,a1,aM,ae,aQ,aD,aE])
      |false=>
       simp only[hU,if_false,ou]at R;obtain⟨b,ec,S⟩:=R;have Q:=HI Z u n _ _ _ _ ec;rw[show ac.shp u=(dp u ac.shape).getD .nil from rfl]at Q;obtain⟨Lf,aup,aeF⟩:=b;cases aeF with
       |true=>
        simp at S;subst S;cases o;all_goals
         simp only[ma,my]at key
         rcases P with⟨rfl,rfl,q⟩|⟨rfl,rfl,q⟩
         all_goals
          (repeat' first|refine al ?_|simp[O,q,F,B,G])
          (refine hJ.ob (key) d8 d8 (Same.keys (by simp[fh,aD,aE,m,f,e,g,l,k]) (by simp[fh,aD,aE,m,f,e,g,l,k])) (by simp only[fh,aD,aE,m,f,e,g,l,k,b6,cc];exact aX) (by simp only[fh,aD,aE,m,f,e,g,l,k,b6,cc];exact aX) (by simp[aM,ae,fh,aD,aE,m,f,e,g,l,k]) ?_;simp[cH,fh,aD,aE,m,f,e,g,l,k])
          (repeat' first|refine al ?_|simp)
          (refine hJ.ob (Q) d8 d8 (Same.keys m7 m7) ge ge (by simp[aM,ae,fh,aD,aE]) ?_;simp[cH,fh,aD,aE])
          (repeat' first|refine al ?_|simp)
          (refine c6.at (aQ Lf) Ψ ci (Same.keys co co) bv bv ?_;simp[dc,ba,be,a1,aM,ae,aQ,aD,aE])
       |false=>
        simp only[hU,if_false]at S;have Og:=L _ _ _ _ S;rw[show Lf.shp u=(dp u Lf.shape).getD .nil from rfl]at Og;cases o;all_goals
         simp only[ma,my]at key Og
         rcases P with⟨rfl,rfl,q⟩|⟨rfl,rfl,q⟩
         all_goals
          (repeat' first|refine al ?_|simp[O,q,F,B,G])
          (refine hJ.ob (key) d8 d8 (Same.keys (by simp[fh,aD,aE,m,f,e,g,l,k]) (by simp[fh,aD,aE,m,f,e,g,l,k])) (by simp only[fh,aD,aE,m,f,e,g,l,k,b6,cc];exact aX) (by simp only[fh,aD,aE,m,f,e,g,l,k,b6,cc];exact aX) (by simp[aM,ae,fh,aD,aE,m,f,e,g,l,k]) ?_;simp[cH,fh,aD,aE,m,f,e,g,l,k])
          (repeat' first|refine al ?_|simp)
          (refine hJ.ob (Q) d8 d8 (Same.keys m7 m7) ge ge (by simp[aM,ae,fh,aD,aE]) ?_;simp[cH,fh,aD,aE])
          (repeat' first|refine al ?_|simp)
          (refine hJ.ob (Og) ci ci (Same.keys co co) bv bv d7 ?_;simp[cH,aQ,aD,aE])
          (repeat' first|refine al ?_|simp)
          (refine c6.at (aQ p.2) Ψ ci (Same.keys co co) bv bv ?_;simp[dc,ba,be,a1,aM,ae,aQ,aD,aE])
  have N:∀i,a= .var i->b.kind≠1->bE au 218 [aE,a.e,b.e] (aQ c) fun r w=>r= .bool p.1/\w=aQ p.2:=by
   rintro i rfl ag;have xF:((rt c i).bind fun p=>if p.2.shd p.1=false then wI n p.1 b p.2 else hv n (p.2.shp p.1) b p.2)=some p:=by cases b<;>first|exact he|simp at ag
   simp only[ou]at xF;obtain⟨⟨x,A⟩,J,U⟩:=xF;simp only at U;have dZ:(b.kind==1)=false:=by simp[ag]
   simp only[aQ,aD]at t⊢;refine bE.mk mixed a6 Tryz.func218 Aa Ψ t.obj fun M K=>?_;unfold xg;simp[aE];(repeat' first|refine al ?_|simp[dZ,ag]);(refine CallDo.ob (td c i x A J) ci bv bv d7 ?_;rintro r w ⟨rfl,rfl⟩;refine⟨(Same.keys co co),?_⟩;simp[cH,aQ,aD,aE]);cases W:A.shd x with
   |false=>have X:(dp x A.shaped).getD false=false:=W;rw[if_pos W]at U;(repeat' first|refine al ?_|simp[X]);(refine CallDo.ob (Wd n x b A p U) ci bv bv d7 ?_;rintro r w ⟨rfl,rfl⟩;refine⟨(Same.keys co co),?_⟩;simp[cH,aQ,aD,aE]);(refine c6.at (aQ p.2) Ψ ci (Same.keys co co) bv bv ?_;simp[dc,ba,be,a1,aM,ae,aQ,aD,aE])
   |true=>have X:(dp x A.shaped).getD false=true:=W;rw[if_neg (by simp[W])]at U;have key:=L _ _ _ _ U;(repeat' first|refine al ?_|simp[X]);(refine hJ.ob (key) ci ci (Same.keys co co) bv bv d7 ?_;simp[cH,aQ,aD,aE]);(repeat' first|refine al ?_|simp);(refine c6.at (aQ p.2) Ψ ci (Same.keys co co) bv bv ?_;simp[dc,ba,be,a1,aM,ae,aQ,aD,aE])
  cases a with
  |var i=>
   cases b with
   |var j=>exact EL i j rfl rfl
   |_=>exact N i rfl Ψ
  |pair bq a2=>
   cases b with
   |var j=>simp only[hv]at he;have key:=L _ _ _ _ he;simp only[aQ,aD]at t⊢;refine bE.mk mixed a6 Tryz.func218 Aa Ψ t.obj fun M K=>?_;unfold xg;simp[aE];(refine CallDo.ob (key) ci bv bv d7 ?_;rintro r w ⟨rfl,rfl⟩;refine⟨(Same.keys co co),?_⟩;simp[cH,aQ,aD,aE]);(refine c6.at (aQ p.2) Ψ ci (Same.keys co co) bv bv ?_;simp[dc,ba,be,a1,aM,ae,aQ,aD,aE])
   |pair cm ca=>
    simp only[hv,ou]at he;obtain⟨⟨f1,A⟩,J,U⟩:=he;have key:=L _ _ _ _ J;simp only[aQ,aD]at t⊢;refine bE.mk mixed a6 Tryz.func218 Aa Ψ t.obj fun M K=>?_;unfold xg;simp[aE];(repeat' first|refine al ?_|simp);(refine hJ.ob (key) ci ci (Same.keys co co) bv bv d7 ?_;simp[cH,aQ,aD,aE]);cases f1 with
    |false=>simp at U;subst U;(repeat' first|refine al ?_|simp);(refine c6.at (aQ A) Ψ ci (Same.keys co co) bv bv ?_;simp[dc,ba,be,a1,aM,ae,aQ,aD,aE])
    |true=>simp at U;have Q:=L _ _ _ _ U;(repeat' first|refine al ?_|simp);(refine hJ.ob (Q) ci ci (Same.keys co co) bv bv d7 ?_;simp[cH,aQ,aD,aE]);(repeat' first|refine al ?_|simp);(refine c6.at (aQ p.2) Ψ ci (Same.keys co co) bv bv ?_;simp[dc,ba,be,a1,aM,ae,aQ,aD,aE])
   |_=>simp[hv]at he;subst he;simp only[aQ,aD]at t⊢;refine bE.mk mixed a6 Tryz.func218 Aa Ψ t.obj fun M K=>?_;unfold xg;simp[aE];(refine c6.at (aQ c) Ψ ci (Same.keys co co) bv bv ?_;simp[dc,ba,be,a1,aM,ae,aQ,aD,aE])
  |_=>
   cases b with
   |var j=>simp only[hv]at he;have key:=L _ _ _ _ he;simp only[aQ,aD]at t⊢;refine bE.mk mixed a6 Tryz.func218 Aa Ψ t.obj fun M K=>?_;unfold xg;simp[aE];(refine CallDo.ob (key) ci bv bv d7 ?_;rintro r w ⟨rfl,rfl⟩;refine⟨(Same.keys co co),?_⟩;simp[cH,aQ,aD,aE]);(refine c6.at (aQ p.2) Ψ ci (Same.keys co co) bv bv ?_;simp[dc,ba,be,a1,aM,ae,aQ,aD,aE])
   |_=>
    simp[hv]at he;subst he;simp only[aQ,aD]at t⊢;refine bE.mk mixed a6 Tryz.func218 Aa Ψ t.obj fun M K=>?_;unfold xg;simp[aE];((repeat' first|refine al ?_|simp|((first|apply cq|apply cu|apply ct)<;>intro h<;>try simp at h))<;>(try exact c0));all_goals(refine c6.at (aQ c) Ψ ci (Same.keys co co) bv bv ?_;simp[dc,ba,be,a1,aM,ae,aQ,aD,aE])
    all_goals simp_all
def nN(c:bL):Prop:= ∀x,0<=c.sz x/\c.sz x<=5001
def nN.rt{c:bL}(h:nN c){v r:Int}{a:bL}(he:rt c v=some (r,a)):nN a:=by simp only[Pv.rt,ht,jo]at he;obtain⟨p,_,_,rfl⟩:=he;exact h
def nN.put{c:bL}(h:nN c){x k:Int}(ad:0<=k/\k<=5001)(m:List (Int×Int)):nN {c with size:=fD x k c.size,color:=m}:=fun z=>by
 show 0<=(dp z (fD x k c.size)).getD 0/\(dp z (fD x k c.size)).getD 0<=5001;rw[oY];split
 ·exact ad
 ·exact h z
def aj0(c:bL)(v:Int)(p:Int×bL)(he:Ax v c=some p):bE au 259 [aj v,.eptr aE] (aQ c) fun r d=>r=aj p.1/\d=aQ p.2:=by have b:=cy c;simp only[Ax,ht]at he;obtain⟨⟨r,a⟩,J,rfl⟩:=he;simp only[aQ,aD]at b⊢;refine bE.mk mixed a6 Tryz.func259 aoj Ψ b.obj fun f e=>?_;unfold SN;simp[aE];(refine hJ.ob (td c v r a J) ci ci (Same.keys co co) bv bv d7 ?_;simp[cH,aQ,aD,aE]);(repeat' first|refine al ?_|simp);(refine c6.at (aQ a) Ψ ci (Same.keys co co) bv bv ?_;simp[dc,ba,be,a1,aM,ae,aQ,aD,aE]);all_goals rfl
def hk(a:bL×Bool):cT:=⟨aD a.1++[(.obj 712,[.bool a.2])],[]⟩
def sc(a):ey (hk a):=by unfold hk aD;exact ey.of ⟨by intro m;simp[ae],by intro m;simp[ae]⟩ Ψ Ψ
def ad8(a b):Same (hk a) (hk b):=Same.keys (by simp[hk,aD]) (by simp[hk,aD])
def ajZ(n:Nat)(h:∀x c p,r2 n x c=some p->nN c->nN p.2/\bE au 248 [aE,aj x] (aQ c) fun r d=>r= .bool p.1/\d=aQ p.2)
  (v:Int) (a bp:bL×Bool) (g:nN a.1) (he:AH (r2 n) v a=some bp):nN bp.1/\bE au 258 [aj v,.ptr (.obj 712) 0,.eptr aE] (hk a) fun r d=>r= .tuple []/\d=hk bp:=by
 have b:=sc a;obtain⟨c,f⟩:=a;cases f with
 |false=>simp[AH]at he;subst he;refine⟨g,?_⟩;simp only[hk,aD,b6,cc]at b⊢;refine bE.mk mixed a6 Tryz.func258 ZM Ψ b.obj fun k i=>?_;unfold Lp;simp[aE];(repeat' first|refine al ?_|simp);(refine c6.at (hk (c,false)) Ψ i8 (Same.keys (by simp[hk,aD,aE]) (by simp[hk,aD,aE])) io io ?_;simp[dc,ba,be,a1,aM,ae,hk,aD,aE])
 |true=>
  simp only[AH,if_true,ou,ht]at he;obtain⟨⟨r,j⟩,J,⟨f2,e⟩,U,rfl⟩:=he;obtain⟨z2,key⟩:=h _ _ _ U (g.rt J);refine⟨z2,?_⟩;simp only[hk,aD,b6,cc]at b⊢;refine bE.mk mixed a6 Tryz.func258 ZM Ψ b.obj fun k i=>?_;unfold Lp;simp[aE];(repeat' first|refine al ?_|simp);(refine hJ.ob (td c v r j J) ci ci (Same.keys co co) bv bv d7 ?_;simp[cH,aQ,aD,aE]);(repeat' first|refine al ?_|simp);(refine hJ.ob (key) ci ci (Same.keys co co) bv bv d7 ?_;simp[cH,aQ,aD,aE]);cases f2 with
  |true=>(repeat' first|refine al ?_|simp);(refine c6.at (hk (e,true)) Ψ i8 (Same.keys (by simp[hk,aD,aE]) (by simp[hk,aD,aE])) io io ?_;simp[dc,ba,be,a1,aM,ae,hk,aD,aE])
  |false=>(repeat' first|refine al ?_|simp);(refine c6.at (hk (e,false)) Ψ i8 (Same.keys (by simp[hk,aD,aE]) (by simp[hk,aD,aE])) io io ?_;simp[dc,ba,be,a1,aM,ae,hk,aD,aE])
def ajY(n:Nat):∀(x:Int) (c:bL) (p:Bool×bL),r2 n x c=some p->nN c->nN p.2/\bE au 248 [aE,aj x] (aQ c) fun r t=>r= .bool p.1/\t=aQ p.2:=by
 induction n with
 |zero=>intro x c p h;simp[r2]at h
 |succ n B=>
  intro x c p he d;have b:=cy c;simp only[r2]at he;by_cases U:c.col x=2
  ·rw[if_pos U]at he;cases he;have l:jR c.color x=2:=U;refine⟨d,?_⟩;simp only[aQ,aD]at b⊢;refine bE.mk mixed a6 Tryz.func248 Fq Ψ b.obj fun s q=>?_;unfold A1;simp[aE];(repeat' first|refine al ?_|simp[l]);(refine c6.at (aQ c) Ψ ci (Same.keys co co) bv bv ?_;simp[dc,ba,be,a1,aM,ae,aQ,aD,aE])
  rw[if_neg U]at he;have l:(jR c.color x==2)=false:=by simp;exact U
  by_cases J:c.col x=1
  ·rw[if_pos J]at he;cases he;have g:jR c.color x=1:=J;refine⟨d,?_⟩;simp only[aQ,aD]at b⊢;refine bE.mk mixed a6 Tryz.func248 Fq Ψ b.obj fun s q=>?_;unfold A1;simp[aE];(repeat' first|refine al ?_|simp[g]);(refine c6.at (aQ c) Ψ ci (Same.keys co co) bv bv ?_;simp[dc,ba,be,a1,aM,ae,aQ,aD,aE])
  rw[if_neg J]at he;have g:(jR c.color x==1)=false:=by simp;exact J
  have y:nN (c.grey x):=d.put Ω _;cases o:(c.grey x).shd x with
  |false=>rw[if_pos o]at he;cases he;have m:(dp x c.shaped).getD false=false:=o;refine⟨y,?_⟩;simp only[aQ,aD]at b⊢;refine bE.mk mixed a6 Tryz.func248 Fq Ψ b.obj fun s q=>?_;unfold A1;simp[aE];(repeat' first|refine al ?_|simp[l,g,m]);(refine c6.at (aQ ((c.grey x).black x)) Ψ ci (Same.keys (by simp[aQ,aD,aE,bL.grey,bL.black]) (by simp[aQ,aD,aE,bL.grey,bL.black])) (by simp only[aQ,aD,aE,bL.grey,bL.black,b6,cc];exact aX) (by simp only[aQ,aD,aE,bL.grey,bL.black,b6,cc];exact aX) ?_;simp[dc,ba,be,a1,aM,ae,aQ,aD,aE,bL.grey,bL.black])
  |true=>
   rw[if_neg (by simp[o]),ou]at he;have m:(dp x c.shaped).getD false=true:=o;obtain⟨⟨e,f⟩,E,j⟩:=he;simp only at j;obtain⟨i,key⟩:=V8 hk sc ad8 258 [.ptr (.obj 712) 0,.eptr aE] (fun a=>by simp[hk,aD,aE,aM,ae]) rfl (fun a=>nN a.1) (AH (r2 n)) (fun v a bp d h=>ajZ n B v a bp d h) _ _ _ y E;rw[show(c.grey x).shp x=(dp x c.shape).getD .nil from rfl]at key;cases f with
   |false=>simp at j;subst j;refine⟨i,?_⟩;simp only[aQ,aD]at b⊢;refine bE.mk mixed a6 Tryz.func248 Fq Ψ b.obj fun s q=>?_;unfold A1;simp[aE];(repeat' first|refine al ?_|simp[l,g,m]);(refine CallDo.ob (key) i8 kw kw (by simp[aM,ae,hk,aD,aE,bL.grey]) ?_;rintro r t ⟨rfl,rfl⟩;refine⟨(Same.keys (by simp[hk,aD,aE,bL.grey]) (by simp[hk,aD,aE,bL.grey])),?_⟩;simp[cH,hk,aD,aE,bL.grey]);(repeat' first|refine al ?_|simp);(refine c6.at (aQ e) Ψ ci (Same.keys co co) bv bv ?_;simp[dc,ba,be,a1,aM,ae,aQ,aD,aE])
   |true=>
    rw[if_neg Ψ,ht]at j;obtain⟨⟨k,w⟩,A,rfl⟩:=j;obtain⟨z2,z,u⟩:=ajO aQ cy Gy 259 [.eptr aE] (fun a=>by simp[aQ,aD,aE,aM,ae]) rfl nN Ax (fun v a p d h=>by simp only[Ax,ht]at h;obtain⟨⟨r,F⟩,J,rfl⟩:=h;exact⟨d.rt J,(d.rt J r).1,Int.le_trans (d.rt J r).2 Ω⟩) (fun v a p _ h=>aj0 a v p h) _ _ _ i A
    rw[show bL.shp e x=(dp x e.shape).getD .nil from rfl]at u;refine⟨z2.put z _,?_⟩;simp only[aQ,aD]at b⊢;refine bE.mk mixed a6 Tryz.func248 Fq Ψ b.obj fun s q=>?_;unfold A1;simp[aE];(repeat' first|refine al ?_|simp[l,g,m]);(refine CallDo.ob (key) i8 kw kw (by simp[aM,ae,hk,aD,aE,bL.grey]) ?_;rintro r t ⟨rfl,rfl⟩;refine⟨(Same.keys (by simp[hk,aD,aE,bL.grey]) (by simp[hk,aD,aE,bL.grey])),?_⟩;simp[cH,hk,aD,aE,bL.grey]);(repeat' first|refine al ?_|simp);(refine hJ.ob (u) ci ci (Same.keys co co) bv bv d7 ?_;simp[cH,aQ,aD,aE]);(repeat' first|refine al ?_|simp);(refine c6.at (aQ (({w with size:=fD x k w.size}:bL).black x)) Ψ ci (Same.keys (by simp[aQ,aD,aE,bL.black]) (by simp[aQ,aD,aE,bL.black])) (by simp only[aQ,aD,aE,bL.black,b6,cc];exact aX) (by simp only[aQ,aD,aE,bL.black,b6,cc];exact aX) ?_;simp[dc,ba,be,a1,aM,ae,aQ,aD,aE,bL.black])
def ajX(n:Nat)(d:∀x c p,r1 n x c=some p->bE au 249 [aE,aj x] (aQ c) fun r a=>r=p.1.e/\a=aQ p.2)
  (v:Int) (c:bL) (p:T×bL) (he:Dg (r1 n) v c=some p):bE au 260 [aj v,.eptr aE] (aQ c) fun r a=>r= .tuple [p.1.e,.bool true]/\a=aQ p.2:=by
 have b:=cy c;simp only[Dg,ou]at he;obtain⟨⟨r,e⟩,J,U⟩:=he;have key:=d _ _ _ U;simp only[aQ,aD]at b⊢;refine bE.mk mixed a6 Tryz.func260 aoi Ψ b.obj fun g f=>?_;unfold SM;simp[aE];(repeat' first|refine al ?_|simp);(refine hJ.ob (td c v r e J) ci ci (Same.keys co co) bv bv d7 ?_;simp[cH,aQ,aD,aE]);(repeat' first|refine al ?_|simp);(refine hJ.ob (key) ci ci (Same.keys co co) bv bv d7 ?_;simp[cH,aQ,aD,aE]);(repeat' first|refine al ?_|simp);(refine c6.at (aQ p.2) Ψ ci (Same.keys co co) bv bv ?_;simp[dc,ba,be,a1,aM,ae,aQ,aD,aE])
def l5(n:Int):bT au 116 [aj n] (T.var n).e:=by refine bF a6 Tryz.func116 aoB fun a=>?_;unfold S8;exact cn
def ajW(n:Nat):∀(x:Int) (c:bL) (p:T×bL),r1 n x c=some p->bE au 249 [aE,aj x] (aQ c) fun r j=>r=p.1.e/\j=aQ p.2:=by
 induction n with
 |zero=>intro x c p h;simp[r1]at h
 |succ n l=>
  intro x c p he;have b:=cy c;simp only[r1]at he;cases d:dp x c.full with
  |some t=>rw[d]at he;cases he;simp only[aQ,aD]at b⊢;refine bE.mk mixed a6 Tryz.func249 Pl Ψ b.obj fun k g=>?_;unfold GP;simp[aE];(repeat' first|refine al ?_|simp[d]);(refine c6.at (aQ c) Ψ ci (Same.keys co co) bv bv ?_;simp[dc,ba,be,a1,aM,ae,aQ,aD,aE])
  |none=>
   rw[d]at he;simp only at he;cases e:c.shd x with
   |false=>have f:(dp x c.shaped).getD false=false:=e;rw[if_pos e]at he;cases he;simp only[aQ,aD]at b⊢;refine bE.mk mixed a6 Tryz.func249 Pl Ψ b.obj fun k g=>?_;unfold GP;simp[aE];(repeat' first|refine al ?_|refine aO (l5 _) ?_|refine aP (l5 _) ?_|simp[d,f]);(refine c6.at (aQ {c with full:=fD x (.var x) c.full}) Ψ ci (Same.keys co co) bv bv ?_;simp[dc,ba,be,a1,aM,ae,aQ,aD,aE])
   |true=>have f:(dp x c.shaped).getD false=true:=e;rw[if_neg (by simp[e]),ht]at he;obtain⟨⟨t,i⟩,J,rfl⟩:=he;have key:=aju aQ cy Gy 260 [.eptr aE] (fun a=>by simp[aQ,aD,aE,aM,ae]) rfl (Dg (r1 n)) (fun v a p h=>ajX n l v a p h) _ _ _ J;rw[show c.shp x=(dp x c.shape).getD .nil from rfl]at key;simp only[aQ,aD]at b⊢;refine bE.mk mixed a6 Tryz.func249 Pl Ψ b.obj fun k g=>?_;unfold GP;simp[aE];(repeat' first|refine al ?_|refine aO (l5 _) ?_|refine aP (l5 _) ?_|simp[d,f]);(refine CallDo.ob (key) ci bv bv d7 ?_;rintro r j ⟨rfl,rfl⟩;refine⟨(Same.keys co co),?_⟩;simp[cH,aQ,aD,aE]);(repeat' first|refine al ?_|simp);(refine c6.at (aQ {i with full:=fD x t i.full}) Ψ ci (Same.keys co co) bv bv ?_;simp[dc,ba,be,a1,aM,ae,aQ,aD,aE])
def ajD:bE au 215 [] ⟨[],[]⟩ fun r a=>r=aE/\a=aQ bL.new:=by have b:ey ⟨[],[]⟩:=ey.of q3 Ψ Ψ;refine bE.mk mixed a6 Tryz.func215 aoq Ψ b.obj fun d c=>?_;unfold SX;simp;refine c6.new (aQ bL.new) (.inl rfl) (cy _) ⟨trivial,trivial⟩ (by simp only[aQ,aD,bL.new];exact aX) (by simp only[aQ,aD,bL.new];exact aX) ?_;simp[dc,ba,be,a1,aM,ae,aQ,aD,aE]
def aci{a b:List Int}(h:a.Perm b):sN a=sN b:=by
 have e:∀a b c:Int,(decide (a<=b))=true->(decide (b<=c))=true->(decide (a<=c))=true:=by intro a b c;simp;omega
 have d:∀a b:Int,(decide (a<=b)||decide (b<=a))=true:=by intro a b;simp;omega
 have J:=List.pairwise_mergeSort e d a;have U:=List.pairwise_mergeSort e d b;refine RB (le:=fun x y:Int=>(decide (x<=y))=true) (fun x y _ _ J U=>by simp at J U;omega) J U ?_;exact(List.mergeSort_perm a _).trans (h.trans (List.mergeSort_perm b _).symm)
def amc(l:List Int)(k:Nat)(st:bo):Prop:=∃(seen:List Nat) (xs:List Int),seen.Nodup/\(∀b∈seen,b<l.length)/\k=l.length-seen.length/\xs=seen.filterMap (fun b=>l[b]?)/\xs.length=seen.length/\st=⟨[(3,.row 1 (.obj 306) xs.length),(7,.ptr (.loc 0) 0)],[(.obj 304,pW l),(.loc 0,cd l.length seen (.obj 304))],[(.obj 306,⟨xs.length,3,1,some (e6 xs)⟩)],1,[.obj 306,.obj 304]⟩
@[simp]def avU(xs:List Int):(e6 xs).length=xs.length:=by simp[e6]
@[simp]def ayo(xs:List Int):b9 (e6 xs)=e6 xs:=by
 induction xs with
 |nil=>rfl
 |cons x r a=>simp only[e6,gX,b9,b3]at a⊢;rw[a]
@[simp]def avV:e6 []=[]:=rfl
def al7(xs:List Int)(x:Int):e6 xs++[af.int .i64 x]=e6 (xs++[x]):=by simp[e6]
def ajV(l:List Int)(v:l.length<=1000000):bE au 136 [.gmap (.obj 304)] (vJ l) fun r n=>r=c1 (e6 (sN l))/\n=vJ l:=by
 have e:=RK l;unfold vJ at e⊢;refine bE.mk mixed a6 Tryz.func136 aoA Ψ e.obj fun w m=>?_;unfold S7;simp;refine qH (amc l) l.length _ ⟨by simp[fresh,aH,aA,cd,aM,ae,n7,u9],ep (by simp[fresh,aH,aA,cd,aM,ae,n7,u9]),er (by simp[fresh,aH,aA,dW,aM,ae,n7,u9]),Ψ⟩ ⟨[],[],Ψ,Ψ,Ψ,Ψ,Ψ,rfl⟩ ?_;rintro k st ⟨seen,xs,d,a,ad,i,s,rfl⟩ q m;clear q m;have hle:=Kb d a;simp;refine afZ (mk:= .obj 304) (seen:=seen) (l:=l) Ψ Ψ rfl (fun p=>?_) (fun b x g o=>?_)
 ·simp;have h:=Qy d a p;rw[<-i]at h;refine CallDo.ob (ajS 306 xs Ω) (KT 306 xs) (by unfold oy;exact aX) (by unfold oy;exact aX) (by simp[oy,aM,ae]) ?_;rintro r n ⟨rfl,rfl⟩;refine⟨⟨fun _=>rfl,fun k=>by simp only[oy,ae];split<;>rfl⟩,?_⟩;unfold oy;simp[cH,ach];refine c6.at _ (.inl rfl) e (Same.refl _) aX aX ?_;simp[dc,ba,be,a1];rw[aci h];simp[aA,u9]
 ·have t:∀f:aB->Option (List af),f (.loc 0)=some (cd l.length (seen++[b]) (.obj 304))->f (.obj 304)=some (pW l)->qZ f (.ptr (.loc 0) 0)=some (True,.tuple [aj x,.bool true]):=fun f J U=>am4 f (.loc 0) (.obj 304) l.length seen b l x J U rfl g;have j:b<l.length:=(fI.1 g).1;have u:=Qz d a j o;simp[t,al7];refine⟨by unfold lim;omega,?_⟩;refine bX.next (l.length-(seen.length+1)) Ω ⟨seen++[b],xs++[x],Pa d o,(by simp;intro c ay;rcases ay with ay|rfl;exact a c ay;exact j),Ψ,by rw[List.filterMap_append,<-i];simp[g],by simp[s],rfl⟩ ⟨by simp[fresh,aH,aA,cd,aM,ae,n7,u9],ep (by simp[fresh,aH,aA,cd,aM,ae,n7,u9]),er (by simp[fresh,aH,aA,dW,aM,ae,n7,u9]),Ψ⟩
@[simp]def av9(S:aB->Prop)(xs:List Int):aH S (e6 xs)=True:=h1 (u9 S xs)
@[simp]def auI:cells .junk=[.junk]:=rfl
def S6:C:=(aa [eY 6 5,bu 7 false] (aa [dN 12 215 [],I 8 12] (.seq (aa [I 13 0,cx 14 13,bM 15 0] (gz 16 15 14 (.seq (.block 1 (aa [cl 17 5 13 15,bf 18 5 17,dF 10 kv,bV 5 10 18] (aa [I 19 8,aF 20 0 1 10,az 21 1 20,b8 22 216 19 21] (aa [I 23 8,hr 24 1 4 10,bf 25 4 24,b8 26 217 23 25] (.seq (.drawn false 69 [I 27 8,aF 28 0 1 10,az 29 1 28,cQ 30 116 29,hr 31 1 4 10,bf 32 4 31,dN 33 218 [.t 27,.t 30,.t 32],cK 34 33]) (aW 34 (aa [eY 6 5,bu 7 false] .ret) .skip)))))) (.region [aV 35 .add 15 1,I 15 35])))) (.seq (aa [I 36 1,cx 37 36,bM 38 0] (.block 2 (.loop (aa [bt 39 .lss 38 37] (.seq (aW 39 .skip (.exit 2)) (.seq (.block 3 (aa [I 40 38,I 11 40] (aa [I 41 8,I 42 1,I 43 11,cl 44 4 42 43,bf 45 4 44,b8 46 217 41 45] (aa [I 47 8,I 48 2,I 49 11,cl 50 4 48 49,bf 51 4 50,b8 52 217 47 51] (.seq (.drawn false 69 [I 53 8,I 54 1,I 55 11,cl 56 4 54 55,bf 57 4 56,I 58 2,I 59 11,cl 60 4 58 59,bf 61 4 60,dN 62 218 [.t 53,.t 57,.t 61],cK 63 62]) (aW 63 (aa [eY 6 5,bu 7 false] .ret) .skip)))))) (.region [aV 64 .add 38 1,I 38 64]))))))) (aa [I 65 8,cQ 66 219 65,cS 67 0 66,cS 68 1 66,I 6 67,I 7 68] .ret)))))
def SL:C:=(aa [eY 2 5,bu 3 false] (aa [ds (.mkmap 12 (some 304)),I 4 12] (.seq (aa [I 13 0,gy 14 13,aF 15 0 1 14,az 16 1 15,ds (.range 17 none (.t 16))] (.block 0 (.loop (aa [⟨none,.next 18 (.t 17)⟩,cS 19 0 18] (.seq (aW 19 .skip (.exit 0)) (.block 1 (aa [cf 20 (.ment (.t 17)),cS 21 0 20,I 5 21] (.region [I 22 4,I 23 5,ds (.mput .i (.t 22) (.t 23) (.c (.bool true)))])))))))) (aa [I 24 4,cQ 25 136 24,I 6 25] (aa [ds (.bslm 26 none 5 113 []),I 7 26] (.seq (aa [I 27 6,cx 28 27,bM 29 0] (.block 2 (.loop (aa [bt 30 .lss 29 28] (.seq (aW 30 .skip (.exit 2)) (.seq (.block 3 (aa [cl 31 1 27 29,az 32 1 31,I 9 32] (aa [I 33 0,I 34 9,b8 35 216 33 34,I 10 35] (.seq (aa [I 36 0,I 37 10,b8 38 248 36 37,cK 39 38] (aW 39 (aa [eY 2 5,bu 3 false] .ret) .skip)) (.seq (aa [I 40 10,I 41 9,bt 42 .eql 40 41,I 43 42,cg 43 true 44 0,ax 43 true (gy 45 44),ax 43 true (aF 46 2 1 45),ax 43 true (az 47 1 46),cg 43 true 48 10,ax 43 true (cf 49 (.mget .i (.bool false) false (.t 47) (.t 48))),ax 43 true (cK 50 49),ej 51 43 50] (aW 51 (.exit 3) .skip)) (aa [I 52 7,I 53 9,jz 54 kv [(0,1,(.t 53))],eX 55 5 113 [.t 54],ds (.appm 56 none 5 113 (.t 52) (.t 55)),I 7 56] (aa [I 57 0,gy 58 57,aF 59 4 1 58,az 60 1 59,I 61 10,cf 62 (.mget .i (.int .i64 0) false (.t 60) (.t 61)),aV 63 .gtr 62 5000,I 64 63,cg 64 false 65 7,ax 64 false (cx 66 65),ax 64 false (aV 67 .gtr 66 400),dq 68 64 67] (aW 68 (aa [eY 2 5,bu 3 false] .ret) .skip)))))))) (.region [aV 69 .add 29 1,I 29 69]))))))) (.seq (aa [I 70 7,cx 71 70,bM 72 0] (.block 4 (.loop (aa [bt 73 .lss 72 71] (.seq (aW 73 .skip (.exit 4)) (.seq (.block 5 (aa [I 74 72,I 11 74] (.region [I 75 7,I 76 11,I 77 0,I 78 0,I 79 7,I 80 11,cl 81 5 79 80,aF 82 0 1 81,az 83 1 82,b8 84 216 78 83,b8 85 249 77 84,cQ 86 143 85,cl 87 5 75 76,hr 88 1 4 87,bV 4 88 86]))) (.region [aV 89 .add 72 1,I 72 89]))))))) (.seq (.pub 7 (.region [I 90 7,I 2 90,bu 3 true])) .ret))))))))
def aoz:b2 aS S6 [.tmp 6,.tmp 7] 3 Tryz.f186=true:=bi
def aoh:b2 aS SL [.tmp 2,.tmp 3] 1 Tryz.f219=true:=bi
def gw(o:Option (List Bd)):af:= .tuple [bH ((o.getD []).map Bd.e),.bool o.isSome]
def am6(f:aB->Option (List af))(gk mk:aB)(n:Nat)(seen:List Nat)(b:Nat)(l:List (Int×Int))(x:Int×Int)(hi:f gk=some (cd n (seen++[b]) mk))(hm:f mk=some (oR l))(a:n=l.length)(c:l[b]? =some x):qZ f (.ptr gk 0)=some (True,.tuple [aj x.1,aj x.2]):=by rw[Y4 f gk mk n seen b _ hi hm (by simpa using a)];simp[c]
def af0{st:bo}{d:Nat}{K:bo->Prop}{gk mk:aB}{n:Nat}{seen:List Nat}{l:List (Int×Int)}(hi:ae gk st.b=some (cd n seen mk))(hm:ae mk st.b=some (oR l))(e:n=l.length)
  (J:(∀b,b<l.length->b∈seen)->K {st with t:=Pv.put d (.tuple [.bool false]) st.t}) (U:∀b x,l[b]? =some x->b∉seen->K {st with t:=Pv.put d (.tuple [.bool true,aj x.1,aj x.2]) st.t,b:=cL gk (cd n (seen++[b]) mk) st.b}):
  uL st d (.ptr gk 0) K:=by
 refine U9 hi hm (by simpa using e) (fun h=>J fun b a=>h b Ω) (fun b k v a g=>?_);simp only[List.getElem?_map,ht]at a;obtain⟨x,f,c⟩:=a;simp only[jo]at c;obtain⟨rfl,rfl⟩:=c;exact U b x f g
@[simp]def axy(m:aB)(l:List (Int×Int)):Am m (oR l)=some (cd l.length [] m):=by simp[oR,tR]
def o9(v:Int):af:= .agg [aj v,aj 0,aj 0,.str [],.slice 4 .nil []]
@[simp]def amy(S:aB->Prop)(l:List Int):aH S (l.map o9)=True:=by
 apply h1;induction l with
 |nil=>simp[aH]
 |cons x r a=>simp only[gX,aH];exact⟨by simp[o9,aA,aH],a⟩
@[simp]def awn(S:aB->Prop)(v:Int):aA S (o9 v)=True:=by simp[o9,aA,aH]
@[simp]def axJ(v:Int):eS (o9 v)=true:=rfl
@[simp]def aus(v:Int):cells (o9 v)=[aj v,aj 0,aj 0,.str [],.slice 4 .nil []]:=rfl
def arb(v:Int)(f:Nat)(cs:List af):oi (o9 v) f cs= .agg (nI [aj v,aj 0,aj 0,.str [],.slice 4 .nil []] f cs):=rfl
def j0{S:aB->Prop}:∀{a b:List af},aH S (a++b)↔(aH S a/\aH S b)
 |[],b=>by simp[aH]
 |x::a,b=>by simp[aH,j0 (a:=a),and_assoc]
@[simp]def av8(S:aB->Prop)(k:Nat)(l:List Int):aH S (o1 k (l.map o9))=True:=by rw[<-List.map_drop];exact amy S _
@[simp]def awD(S:aB->Prop)(o:Option (List Bd)):aA S (gw o)=True:=by simp[gw]
def Le(l:List Int)(v:Int):l.map o9++[.agg [aj v,aj 0,aj 0,.str [],.slice 4 .nil []]]=(l++[v]).map o9:=by simp[o9]
def al8(c:bL)(k:Nat)(st:bo):Prop:=∃(seen:List Nat) (xs:List Int),seen.Nodup/\(∀b∈seen,b<c.up.length)/\k=c.up.length-seen.length/\xs=seen.filterMap (fun b=>(c.up[b]?).map (·.1))/\xs.length=seen.length/\st=⟨[(0,aE),(4,.gmap (.obj 304)),(17,.ptr (.loc 0) 0)],aD c++[(.obj 304,pW xs),(.loc 0,cd c.up.length seen (.obj 702))],[],1,[.obj 304,.obj 702,.obj 703,.obj 704,.obj 705,.obj 706,.obj 707]⟩
def arp{c:bL}{seen:List Nat}(e:seen.Nodup)(d:∀b∈seen,b<c.up.length)(a:∀b,b<c.up.length->b∈seen):(seen.filterMap fun b=>(c.up[b]?).map (·.1)).Perm (cF c.up):=by have:=Qy (l:=cF c.up) e (by simpa[cF]using d) (by simpa[cF]using a);simpa[cF]using this
def arq{c:bL}(e:(cF c.up).Nodup){seen:List Nat}{b:Nat}(j:b∉seen){x:Int×Int}(k:c.up[b]? =some x):x.1∉seen.filterMap fun b=>(c.up[b]?).map (·.1):=by
 intro hm;rw[List.mem_filterMap]at hm;obtain⟨b0,J,U⟩:=hm;obtain⟨y,i,l⟩:=ht.1 U;have f:(cF c.up)[b]? =some x.1:=by simp[cF,k]
 have g:(cF c.up)[b0]? =some x.1:=by simp[cF,i,l]
 have d:=(fI.1 f).1;have a:=(fI.1 g).1;have f1:=(fI.1 f).2;have f2:=(fI.1 g).2;rcases Nat.lt_trichotomy b b0 with h|h|h
 ·exact rj.1 e b b0 d a h (f1.trans f2.symm)
 ·subst h;exact j J
 ·exact rj.1 e b0 b a d h (f2.trans f1.symm)
def ajQ(n:Nat)(c:bL)(o:Option (List Bd))(he:F3 n (sO (cF c.up)) c=some o)(Ex:(cF c.up).Nodup)(hlen:c.up.length<=1000000)(bz:nN c):bE au 219 [aE] (aQ c) fun r A=>r=gw o/\∃cB,A=aQ cB:=by
 have ai:=cy c;simp only[aQ,aD]at ai⊢;refine bE.mk mixed a6 Tryz.func219 aoh Ψ ai.obj fun aR c5=>?_;unfold SL;simp[aE];have O:∀S:aB->Prop,aH S (k1 []):=fun S=>n7 S [];refine qH (al8 c) c.up.length _ ⟨by simp[fresh,aH,aA,cd,aM,ae,n7,aE,aD,O],ep (by simp[fresh,aH,aA,cd,aM,ae,n7,aE,aD,O]),er (by simp[fresh,aH,aA,dW,aM,ae,n7,aE,aD,O]),Ψ⟩ ⟨[],[],Ψ,Ψ,Ψ,Ψ,Ψ,rfl⟩ ?_;rintro k st ⟨seen,xs,s,K,ad,P,kX,rfl⟩ lS c5;clear lS c5;have hle:=Kb s K;simp[aD,aE];refine af0 (mk:= .obj 702) (seen:=seen) (l:=c.up) Ψ Ψ rfl (fun mH=>?_) (fun b x N p=>?_);rotate_left
 ·have BM:∀f:aB->Option (List af),f (.loc 0)=some (cd c.up.length (seen++[b]) (.obj 702))->f (.obj 702)=some (oR c.up)->qZ f (.ptr (.loc 0) 0)=some (True,.tuple [aj x.1,aj x.2]):=fun f J U=>am6 f (.loc 0) (.obj 702) c.up.length seen b c.up x J U rfl N;have gg:b<c.up.length:=(fI.1 N).1;have qR:=Qz s K gg p;have jY:=arq Ex p N;rw[<-P]at jY;simp[BM,K8,jY];refine bX.next (c.up.length-(seen.length+1)) Ω ⟨seen++[b],xs++[x.1],Pa s p,(by simp;intro c ay;rcases ay with ay|rfl;exact K c ay;exact gg),Ψ,by rw[List.filterMap_append,<-P];simp[N],by simp[kX],rfl⟩ ⟨by simp[fresh,aH,aA,cd,aM,ae,n7,aE,aD],ep (by simp[fresh,aH,aA,cd,aM,ae,n7,aE,aD]),er (by simp[fresh,aH,aA,dW,aM,ae,n7,aE,aD]),Ψ⟩
 ·simp;have xR:=arp s K mH;rw[<-P]at xR;have X:xs.length<=1000000:=Ω
  refine CallDo.ob (ajV xs X) (RK _) (by simp only[vJ];exact aX) (by simp only[vJ];exact aX) (by simp[aM,vJ,ae]) ?_;rintro r A ⟨rfl,rfl⟩;refine⟨Same.refl _,?_⟩;have BT:sN xs=sO (cF c.up):=aci xR;rw[BT];obtain⟨bk,kV⟩:∃bk,bk=sO (cF c.up):=⟨_,rfl⟩;rw[<-kV]at he⊢;simp[vJ,cH];simp only[F3,ou]at he;obtain⟨res,BE,y⟩:=he;have oP:bk.length<=1000000:=by rw[kV,(F6 _).length_eq];simpa[cF]using hlen
  refine fT (α:=bL×List Int) (fun i a=>⟨[(0,aE),(27,c1 (e6 bk)),(28,aj bk.length),(7,.row 5 (.loc 1) a.2.length),(29,aj i)],aD a.1,[(.loc 1,⟨a.2.length,113,5,some (a.2.map o9)⟩)],2,[.obj 702,.obj 703,.obj 704,.obj 705,.obj 706,.obj 707]⟩) bk.length (fun i a=>uf n (bk.drop i) a.1 a.2=some res/\nN a.1/\a.2.length<=400) (c,[]) (by simp[aE,aD];exact⟨by simp[fresh,aH,aA,cd,aM,ae,n7,aE,aD],ep (by simp[fresh,aH,aA,cd,aM,ae,n7,aE,aD]),er (by simp[fresh,aH,aA,dW,aM,ae,n7,aE,aD]),Ψ⟩) ⟨by simpa using BE,bz,Ψ⟩ ?_ ?_
  ·rintro⟨Q,out⟩ ⟨J,U,M⟩ p;simp only at J U M p⊢;simp[uf]at J;subst J;simp only[ht]at y;obtain⟨⟨L,aeX⟩,Y,rfl⟩:=y;simp[aE,aD];refine fT (α:=bL×List Bd) (fun j a=>⟨[(0,aE),(7,.row 5 (.loc 1) out.length),(71,aj out.length),(72,aj j)],aD a.1,[(.loc 1,⟨out.length,113,5,some (a.2.map Bd.e++(out.drop j).map o9)⟩)],2,[.obj 702,.obj 703,.obj 704,.obj 705,.obj 706,.obj 707]⟩) out.length (fun j a=>a.2.length=j/\∃rest,Ay n (out.drop j) a.1=some (rest,aeX)/\a.2++rest=L) (Q,[]) (by simp[aE,aD];exact⟨by simp[fresh,aH,aA,cd,aM,ae,aE,aD],ep lw,er lR,Ψ⟩) ⟨rfl,L,by simpa using Y,rfl⟩ ?_ ?_
   ·rintro⟨w,done⟩ ⟨q,rest,m,g⟩ p;simp only at q m g p⊢;simp[Ay]at m;obtain⟨rfl,rfl⟩:=m;simp at g;subst g;simp[aE,aD,q];refine c6.at (aQ w) Ψ (cy _) (Same.keys (by simp[aQ,aD]) (by simp[aQ,aD])) ip ip ?_;simp[dc,ba,be,a1,aQ,aD,gw];exact⟨w,Ψ⟩
   ·rintro j ⟨w,done⟩ B ⟨q,rest,m,g⟩ p;simp only at q m g p⊢;obtain⟨v,u⟩:∃v,out[j]? =some v:=⟨_,ck B⟩;have s:out.drop j=v::out.drop (j+1):=by rw[lJ B];rw[ck B]at u;cases u;rfl
    rw[s]at m;simp only[Ay,ou,ht,jo]at m;obtain⟨⟨x,d⟩,ec,⟨t,h5⟩,lP,⟨V,auU⟩,uP,rfl,rfl⟩:=m;simp only at lP uP;have key:=ajW n x d _ lP;rw[s];have iK:∀R,(done.map Bd.e++o9 v::R)[j]? =some (o9 v):=fun R=>by rw[vC d6];simp[q]
    have xW:∀R x,(done.map Bd.e++o9 v::R).set j x=done.map Bd.e++x::R:=fun R x=>by rw[List.set_append_right _ _ d6];simp[q]
    simp[aE,aD];(repeat' first|refine al ?_|simp[iK,B]);(refine CallDo.ob (td w v x d ec) ci bv bv d7 ?_;rintro r A ⟨rfl,rfl⟩;refine⟨(Same.keys co co),?_⟩;simp[cH,aQ,aD,aE]);(repeat' first|refine al ?_|simp);(refine CallDo.ob (key) ci bv bv d7 ?_;rintro r A ⟨rfl,rfl⟩;refine⟨(Same.keys co co),?_⟩;simp[cH,aQ,aD,aE]);(repeat' first|refine al ?_|refine aO (vv _) ?_|refine aP (vv _) ?_|simp[iK,xW,B,arb,-oi]);refine bX.rng (h5,done++[⟨v,t⟩]) B ⟨by simp[q],V,uP,by simpa using g⟩ ?_;simp[aE,aD];exact⟨by simp[fresh,aH,aA,cd,aM,ae,aE,aD,j0],ep (by simp[fresh,aH,aA,cd,aM,ae,aE,aD,j0]),er (by simp[fresh,aH,aA,dW,aM,ae,aE,aD,j0]),Ψ⟩
  ·rintro i ⟨Q,out⟩ hi ⟨J,U,M⟩ p;simp only at J U M p⊢;obtain⟨v,u⟩:∃v,bk[i]? =some v:=⟨_,ck hi⟩;have s:bk.drop i=v::bk.drop (i+1):=by rw[lJ hi];rw[ck hi]at u;cases u;rfl
   rw[s]at J;simp only[uf,ou]at J;obtain⟨⟨x,w⟩,q,⟨f,d⟩,m,g⟩:=J;simp only at m g;obtain⟨z3,key⟩:=ajY n x w _ m (U.rt q);have Z:∀h,(e6 bk)[i]'h=aj v:=fun h=>by rw[ck hi]at u;simp only[dV]at u;simp[e6,u]
   simp[aE,aD];(repeat' first|refine al ?_|simp[Z,hi]);(refine CallDo.ob (td Q v x w q) ci bv bv d7 ?_;rintro r A ⟨rfl,rfl⟩;refine⟨(Same.keys co co),?_⟩;simp[cH,aQ,aD,aE]);(repeat' first|refine al ?_|simp);(refine CallDo.ob (key) ci bv bv d7 ?_;rintro r A ⟨rfl,rfl⟩;refine⟨(Same.keys co co),?_⟩;simp[cH,aQ,aD,aE]);cases f with
   |false=>simp at g;subst g;simp at y;subst y;(repeat' first|refine al ?_|simp);refine c6.at (aQ d) Ψ (cy _) (Same.keys (by simp[aQ,aD]) (by simp[aQ,aD])) ip ip ?_;simp[dc,ba,be,a1,aQ,aD,gw];exact⟨d,Ψ⟩
   |true=>
    simp only[Bool.true_eq_false,if_false]at g;by_cases ay:x=v/\d.shd x=false
    ·rw[if_pos ay]at g;obtain⟨W,ny⟩:=ay;subst W;have u1:(dp x d.shaped).getD false=false:=ny;(repeat' first|refine al ?_|simp[u1]);refine bX.rng (d,out) hi ⟨g,z3,M⟩ ?_;exact⟨by simp[fresh,aH,aA,cd,aM,ae,aE,aD],ep lw,er lR,Ψ⟩
    ·rw[if_neg ay]at g;have Xm:(x==v)=false\/((x==v)=true/\(dp x d.shaped).getD false=true):=by
      by_cases e:x=v
      ·right;refine⟨by simp[e],?_⟩;cases aC:d.shd x with
       |false=>exact absurd ⟨e,aC⟩ ay
       |true=>exact aC
      ·left;simp[e]
     by_cases H:5000<d.sz x\/400<out.length+1
     ·rw[if_pos H]at g;cases g;simp at y;subst y;have oJ:(decide (5000<jR d.size x))=true\/(decide (5000<jR d.size x)=false/\400<out.length+1):=by
       by_cases e:5000<jR d.size x
       ·left;simp[e]
       ·right;exact⟨by simp[e],H.resolve_left e⟩
      have E:True:=trivial;have F:True:=trivial;rcases Xm with z|⟨z,E⟩;all_goals
       rcases oJ with G|⟨G,F⟩
       all_goals
        ((repeat' first|refine al ?_|simp[z,E,G,F]|((first|apply cq|apply cu|apply ct)<;>intro h<;>try simp at h))<;>(try exact c0))
        refine c6.at (aQ d) Ψ (cy _) (Same.keys (by simp[aQ,aD]) (by simp[aQ,aD])) ip ip ?_
        simp[dc,ba,be,a1,aQ,aD,gw]
        exact⟨d,Ψ⟩
     ·rw[if_neg H]at g;have G:decide (5000<jR d.size x)=false:=by simp;exact Int.not_lt.1 fun h=>H (.inl h)
      have F:¬400<out.length+1:=fun h=>H (.inr h);have E:True:=trivial;rcases Xm with z|⟨z,E⟩;all_goals
       ((repeat' first|refine al ?_|simp[z,E,G,F]|((first|apply cq|apply cu|apply ct)<;>intro h<;>try simp at h))<;>(try exact c0))
       all_goals try refine⟨by unfold lim;omega,?_⟩
       ((repeat' first|refine al ?_|simp[z,E,G,F]|((first|apply cq|apply cu|apply ct)<;>intro h<;>try simp at h))<;>(try exact c0))
       refine bX.rng (d,out++[v]) hi ⟨g,z3,by simp;omega⟩ ?_
       exact⟨by simp[fresh,aH,aA,cd,aM,ae,aE,aD,Le,j0],ep (by simp[fresh,aH,aA,cd,aM,ae,aE,aD,Le,j0]),er (by simp[fresh,aH,aA,dW,aM,ae,aE,aD,Le,j0]),Ψ⟩
def Q3:∀{a b:T},a.tm=b.tm->a=b:=by
 intro a;induction a with
 |pair x y d c=>intro b h;cases b<;>simp[T.tm]at h;rw[d h.1,c h.2]
 |_=>intro b h;cases b<;>simp[T.tm]at h⊢ <;>exact h
def aeh(l:List Bt):Prop:= ∃s:List Bd,l=s.map Bd.b/\rS s/\jB s/\iw s
def KY(l:List Bt):Prop:= ∃s:List Bd,l=s.map Bd.b/\rS s/\gD s/\iw s
def Se:∀{l:List Bt},(∀b∈l,b.t.fits=true)->∃s:List Bd,l=s.map Bd.b/\Bo s
 |[],_=>⟨[],rfl,fun b d=>by simp at d⟩
 |b::l,h=>by
  obtain⟨s,J,U⟩:=Se (l:=l) fun c ay=>h c (by simp[ay]);obtain⟨x,a,e⟩:=Tm.fits_ex (h b Ψ);refine⟨⟨b.v,x⟩::s,by rw[J];simp[Bd.b,a],fun c ay=>?_⟩;rcases gJ.1 ay with rfl|ay
  ·exact e
  ·exact U c ay
def KF{l:List Bt}:AS l↔aeh l:=by
 constructor
 ·rintro⟨J,U⟩;obtain⟨s,rfl,f⟩:=Se (l:=l) fun b a=>by obtain⟨i,hi,e⟩:=pM a;exact(U i hi b (by rw[ck hi,e])).2.2
  have n:∀b∈s,b.t.ok=true/\b.t.size<=5000:=fun b a=>by have:=f b a;simpa[T.fit]using this
  refine⟨s,rfl,fun b a=>⟨?_,(n b a).1⟩,?_,by simpa using J,fun b a=>(n b a).2⟩
  ·obtain⟨i,hi,e⟩:=pM a;have:=(U i (by simpa using hi) b.b (by simp[ck hi,e])).1;exact this
  ·rw[jB,rj];have g:∀i (h:i+1<s.length),s[i].v<s[i+1].v:=fun i h=>by have:=(U (i+1) (by simpa using h) s[i+1].b (by simp[ck h])).2.1 s[i].b Ω (by simp[ck (show i<s.length by omega)]);exact this
   have:∀(d i:Nat) (h:i+d+1<s.length),s[i].v<s[i+d+1].v:=by
    intro d;induction d with
    |zero=>intro i h;exact g i h
    |succ d q=>intro i h;have o:=q i Ω;have a2:=g (i+d+1) Ω;simp only[Nat.add_assoc]at o a2⊢;omega
   intro i j hi w u;have:=this (j-i-1) i Ω;simpa[show i+(j-i-1)+1=j from by omega]using this
 ·rintro⟨s,rfl,aq,p,m⟩;refine⟨by simpa using m.1,fun i hi b a=>?_⟩;simp only[List.getElem?_map,ht]at a;obtain⟨c,ay,rfl⟩:=a;have hm:=fx ay;refine⟨(aq c hm).1,fun d v k=>?_,?_⟩
  ·simp only[List.getElem?_map,ht]at k;obtain⟨e,he,rfl⟩:=k;obtain⟨J,r⟩:=fI.1 he;obtain⟨U,t⟩:=fI.1 ay;have:=rj.1 p (i-1) i J U Ω;rw[r,t]at this;exact this
  ·show c.t.tm.fits=true;rw[Tm.fits_T];simp[T.fit,(aq c hm).2,m.2 c hm]
def xl(s:List Bd)(v:Int)(f:Bool):Bool:=if 0<=oE s v then false else f
def nP(s:List Bd)(b:Bd):Bool:=b.t.fold (xl s) true&& !(b.t.kind==1&&decide (b.v<=b.t.int))
def VV{s:List Bd}(e:jB s)(t:T):∀f:Bool,t.fold (xl s) f=true↔f=true/\∀w,t.occ w=true->dG s w=none:=by
 induction t with
 |var n=>
  intro f;simp only[T.fold,T.occ,eA,xl];have:=VR e n;by_cases h:0<=oE s n
  ·rw[if_pos h];constructor
   ·intro h;cases h
   ·rintro⟨_,U⟩;have:=this.2 (U n rfl);omega
  ·rw[if_neg h];exact⟨fun i=>⟨i,fun w hw=>by subst hw;exact this.1 Ω⟩,fun h=>h.1⟩
 |pair a b d c=>
  intro f;simp only[T.fold,d,c,T.occ,oo];constructor
  ·rintro⟨⟨J,U⟩,g⟩;exact⟨J,fun w hw=>hw.elim (U w) (g w)⟩
  ·rintro⟨J,U⟩;exact⟨⟨J,fun w hw=>U w (.inl hw)⟩,fun w hw=>U w (.inr hw)⟩
 |_=>intro f;simp[T.fold,T.occ]
def Lg{s:List Bd}(a:jB s)(b:Bd):nP s b=true↔(∀w,b.t.occ w=true->dG s w=none)/\∀w,b.t= .var w->w<b.v:=by
 unfold nP;rw[cO,VV a];simp only[true_and];refine and_congr_right fun _=>?_;constructor
 ·intro h w hw;have ad:(b.t.kind==1)=true:=by rw[hw];rfl
  have hi:b.t.int=w:=by rw[hw];rfl
  rw[ad,hi]at h;simpa using h
 ·intro h;cases ad:(b.t.kind==1)with
  |false=>rfl
  |true=>
   obtain⟨w,hw⟩:∃w,b.t= .var w:=by
    cases e:b.t with
    |var w=>exact⟨w,rfl⟩
    |_=>rw[e]at ad;simp at ad
   have hi:b.t.int=w:=by rw[hw];rfl
   have:=h w hw;rw[hi];simpa using this
def acg{s:List Bd}(c:jB s):gD s↔∀b∈s,nP s b=true:=by
 constructor
 ·intro h b a;exact(Lg c b).2 ⟨h.free b a,h.ori b a⟩
 ·intro h;exact⟨c,fun b a=>((Lg c b).1 (h b a)).1,fun b a=>((Lg c b).1 (h b a)).2⟩
def qX{α:Type}(p:α->Bool)(s:List α)(i:Nat)(_:Unit):Prop:= ∀k b,k<i->s[k]? =some b->p b=true
def qX.step{α:Type}{p:α->Bool}{s:List α}{i:Nat}(h:qX p s i ()){b:α}(d:s[i]? =some b)(a:p b=true):qX p s (i+1) ():=fun k c ad ay=>by
 rcases(by omega:k<i\/k=i)with J|rfl
 ·exact h k c J ay
 ·rw[d]at ay;cases ay;exact a
open Classical in
noncomputable def hA(l:List Bt):Bool:=decide (KY l)
def sQ{l:List Bt}:hA l=true↔KY l:=by unfold hA;simp
def jD(f:Bool):cT:=⟨[(.obj 731,[.bool f])],[]⟩
def xa(f:Bool):ey (jD f):=by unfold jD;exact ey.of ⟨by intro m;simp[ae],by intro m;simp[ae]⟩ Ψ Ψ
def ad6(a b:Bool):Same (jD a) (jD b):=Same.keys (by simp[jD]) (by simp[jD])
def ajc(s:List Bd)(a:s.length<=1000000)(v:Int)(f:Bool):bE au 159 [aj v,.eptr (bH (s.map Bd.e)),.ptr (.obj 731) 0] (jD f) fun r d=>r= .tuple []/\d=jD (xl s v f):=by
 have b:=xa f;simp only[jD]at b⊢;by_cases h:0<=oE s v
 ·rw[xl,if_pos h];refine bE.mk mixed a6 Tryz.func159 ZK Ψ b.obj fun e c=>?_;unfold Ln;simp;(repeat' first|refine al ?_|refine aO (vx s v a) ?_|refine aP (vx s v a) ?_|simp[h]);(refine c6.at (jD false) Ψ (by first|exact xa _|exact xa ‹_› _) (Same.keys (by simp[jD]) (by simp[jD])) jp jp ?_;simp[dc,ba,be,a1,aM,ae,jD])
 ·rw[xl,if_neg h];refine bE.mk mixed a6 Tryz.func159 ZK Ψ b.obj fun e c=>?_;unfold Ln;simp;(repeat' first|refine al ?_|refine aO (vx s v a) ?_|refine aP (vx s v a) ?_|simp[h]);(refine c6.at (jD f) Ψ (by first|exact xa _|exact xa ‹_› _) (Same.keys (by simp[jD]) (by simp[jD])) jp jp ?_;simp[dc,ba,be,a1,aM,ae,jD])
def Ra(l:List Bt):bT au 86 [bH (l.map Bt.e)] (.bool (hA l)):=by
 have p:=asC l;by_cases h:AS l;rotate_left
 ·have m:hA l=false:=by unfold hA;simp only[iN];rintro⟨s,J,U,f,A⟩;exact h (KF.2 ⟨s,J,U,f.asc,A⟩)
  rw[m];refine bF a6 Tryz.func86 ZJ fun K=>?_;unfold Lm;exact cn
 ·obtain⟨s,rfl,aq,E,B⟩:=KF.1 h;have G:s.length<=1000000:=by have:=B.1;omega
  have H:(s.map Bd.b).map Bt.e=s.map Bd.e:=by rw[List.map_map];exact List.map_congr_left fun b _=>Bd.b_e b
  have m:hA (s.map Bd.b)=s.all (nP s):=by
   rw[rf,j5,sQ,<-acg E];constructor
   ·rintro⟨z,J,U,f,A⟩;have:z=s:=by
     have n:∀a b:List Bd,a.map Bd.b=b.map Bd.b->a=b:=by
      intro a;induction a with
      |nil=>intro b c;cases b<;>simp at c⊢
      |cons x a F=>
       intro b c;cases b with
       |nil=>simp at c
       |cons y b=>simp only[gX,r5,Bd.b,Bt.mk.injEq]at c;rw[F b c.2];have:=Q3 c.1.2;obtain⟨⟨L,_⟩,_⟩:=c;cases x;cases y;simp_all
     exact(n _ _ J).symm
    rw[<-this];exact f
   ·intro f;exact⟨s,rfl,aq,f,B⟩
  rw[m];rw[H]at p⊢;refine bF a6 Tryz.func86 ZJ fun K=>?_;unfold Lm;simp;(repeat' first|refine al ?_|refine aO p ?_|refine aP p ?_|simp[h]);refine fT (α:=Unit) (fun i _=>⟨[(1,.eptr (bH (s.map Bd.e))),(9,bH (s.map Bd.e)),(10,aj s.length),(11,aj i)],[],[],1,[]⟩) s.length (qX (nP s) s) () cb (fun k b ad=>Ω) (fun _ j _=>?_) (fun i _ hi j _=>?_)
  ·have:s.all (nP s)=true:=by rw[j5];intro b c;obtain⟨k,ad,e⟩:=pM c;exact j k b ad (by rw[ck ad,e])
   rw[this];exact cn
  ·obtain⟨b,d⟩:∃b,s[i]? =some b:=⟨_,ck hi⟩;have u:∀h,(s[i]'h)=b:=fun h=>by rw[ck hi]at d;exact eZ d
   have key:=V7 jD xa ad6 159 [.eptr (bH (s.map Bd.e)),.ptr (.obj 731) 0] (fun a=>by simp[jD,aM,ae]) Ψ (xl s) (fun v a=>ajc s G v a) b.t true;have t:nP s b=false->s.all (nP s)=false:=fun h=>by rw[Bool.eq_false_iff];intro w;rw[j5]at w;rw[w b (fx d)]at h;cases h
   simp[hi,u];(repeat' first|refine al ?_|simp[u,hi]);(refine CallDo.ob (key) (by first|exact xa _|exact xa ‹_› _) jp jp (by simp[aM,ae,jD]) ?_;rintro r z ⟨rfl,rfl⟩;refine⟨(Same.keys (by simp[jD]) (by simp[jD])),?_⟩;simp[cH,jD]);generalize o:b.t.fold (xl s) true=q;have g:nP s b=(q&& !(b.t.kind==1&&decide (b.v<=b.t.int))):=by unfold nP;rw[o]
   cases q with
   |false=>rw[t (by rw[g];rfl)];exact cn
   |true=>
    cases ad:(b.t.kind==1)with
    |false=>(repeat' first|refine al ?_|simp[ad]);refine bX.rng () hi (j.step d (by rw[g,ad];rfl)) ?_;exact cb
    |true=>
     by_cases hle:b.v<=b.t.int
     ·rw[t (by rw[g,ad];simp[hle])];exact cn
     ·(repeat' first|refine al ?_|simp[ad,hle]);refine bX.rng () hi (j.step d (by rw[g,ad];simp[hle])) ?_;exact cb
@[simp]def awg(S:aB->Prop):aH S (k1 [])=True:=h1 (n7 S [])
def ajP(n:Nat)(s:List Bd)(l r:List T)(P:l.length=r.length)(V:s.length<=1000000)(S:l.length<=1000000)(o:Option (List Bd))(he:C2 n (iy s++l.zip r)=some o)
  (hinv:∀c,rr n (iy s++l.zip r) bL.new=some (true,c)->(cF c.up).Nodup/\c.up.length<=1000000/\nN c):bT au 186 [bH (s.map Bd.e),dw (l.map T.e),dw (r.map T.e)] (gw o):=by
 obtain⟨E,t⟩:∃E,E=iy s++l.zip r:=⟨_,rfl⟩;rw[<-t]at he hinv;simp only[C2,ou]at he;obtain⟨fin,L,g⟩:=he;have hlen:E.length=s.length+l.length:=by rw[t];simp[iy,P]
 have F:∀i b,s[i]? =some b->E.drop i=(.var b.v,b.t)::E.drop (i+1):=fun i b e=>by
  have hi:=(fI.1 e).1;have bd:E[i]? =some (.var b.v,b.t):=by rw[t,r6 (by simp[iy];exact hi)];simp[iy,e]
  rw[lJ Ω];rw[ck Ω]at bd;simp only[dV]at bd;rw[bd]
 have G:∀i a b,l[i]? =some a->r[i]? =some b->E.drop (s.length+i)=(a,b)::E.drop (s.length+(i+1)):=fun i a b j e=>by
  have hi:=(fI.1 j).1;have bd:E[s.length+i]? =some (a,b):=by rw[t,vC (by simp[iy])];simp[iy,List.getElem?_zip_eq_some,j,e]
  rw[lJ Ω];rw[ck Ω]at bd;simp only[dV]at bd;rw[bd];rfl
 refine bF a6 Tryz.func186 aoz fun X=>?_;unfold S6;simp;refine CallDo.new ajD (ey.of q3 Ψ Ψ) (fun k cs h=>by simp[ae]at h) (fun k cs h=>by simp[ae]at h) Ψ ?_;rintro r0 s0 ⟨rfl,rfl⟩;refine⟨fun m hm=>.inr Ψ,?_⟩;simp[aQ,aD,cH,aE];refine fT (α:=bL) (fun i c=>⟨[(1,dw (l.map T.e)),(2,dw (r.map T.e)),(8,aE),(13,bH (s.map Bd.e)),(14,aj s.length),(15,aj i)],aD c,[],0,[.obj 702,.obj 703,.obj 704,.obj 705,.obj 706,.obj 707]⟩) s.length (fun i c=>rr n (E.drop i) c=some fin) bL.new (by simp[aE,aD];exact⟨by simp[fresh,aH,aA,cd,aM,ae,aE,aD,bL.new],ep (by simp[fresh,aH,aA,cd,aM,ae,aE,aD,bL.new]),er (by simp[fresh,aH,aA,dW,aM,ae,aE,aD,bL.new]),Ψ⟩) (by simpa using L) ?_ ?_
 ·rintro c J e;simp[aE,aD];refine fT (α:=bL) (fun i c=>⟨[(1,dw (l.map T.e)),(2,dw (r.map T.e)),(8,aE),(37,aj l.length),(38,aj i)],aD c,[],0,[.obj 702,.obj 703,.obj 704,.obj 705,.obj 706,.obj 707]⟩) l.length (fun i c=>rr n (E.drop (s.length+i)) c=some fin) c (by simp[aE,aD];exact⟨by simp[fresh,aH,aA,cd,aM,ae,aE,aD],ep lw,er lR,Ψ⟩) J ?_ ?_
  ·rintro p J e;rw[List.drop_eq_nil_of_le Ω]at J;simp[rr]at J;subst J;simp at g;obtain⟨R,O,N⟩:=hinv p L;simp[aE,aD];refine CallDo.ob (ajQ n p o g R O N) (cy _) ip ip d7 ?_;rintro r0 s0 ⟨rfl,W,rfl⟩;refine⟨Same.keys (by simp[aQ,aD]) (by simp[aQ,aD]),?_⟩;simp[cH,aQ,aD,gw];exact cn
  ·rintro i c hi J e;simp only at J e⊢;obtain⟨a,j⟩:∃a,l[i]? =some a:=⟨_,ck hi⟩;obtain⟨b,A⟩:∃b,r[i]? =some b:=⟨_,ck Ω⟩;have w:∀h,(l[i]'h)=a:=fun h=>by rw[ck hi]at j;exact eZ j
   have z:∀h,(r[i]'h)=b:=fun h=>by rw[ck h]at A;exact eZ A
   have v:i<r.length:=Ω
   rw[G i a b j A]at J;simp only[rr,ou]at J;obtain⟨p,U,B,u,⟨f,y⟩,q,d⟩:=J;simp only at q d;have key:=V9 n _ _ _ _ q;simp[aE,aD];(repeat' first|refine al ?_|simp[w,z,hi,v]);(refine CallDo.ob (ML c a p U) ci bv bv d7 ?_;rintro r H ⟨rfl,rfl⟩;refine⟨(Same.keys co co),?_⟩;simp[cH,aQ,aD,aE]);(repeat' first|refine al ?_|simp[w,z,hi,v]);(refine CallDo.ob (ML p b B u) ci bv bv d7 ?_;rintro r H ⟨rfl,rfl⟩;refine⟨(Same.keys co co),?_⟩;simp[cH,aQ,aD,aE]);(repeat' first|refine al ?_|simp[w,z,hi,v]);(refine hJ.ob (key) ci ci (Same.keys co co) bv bv d7 ?_;simp[cH,aQ,aD,aE]);cases f with
   |false=>simp at d;subst d;simp at g;subst g;(repeat' first|refine al ?_|simp);simp[bZ,ba,be,a1];simp[gw]
   |true=>simp at d;(repeat' first|refine al ?_|simp);refine bX.rng y hi d ?_;simp[aE,aD];exact⟨by simp[fresh,aH,aA,cd,aM,ae,aE,aD],ep lw,er lR,Ψ⟩
 ·rintro i c hi J e;simp only at J e⊢;obtain⟨b,Q,M⟩:=eV hi;rw[F i b Q]at J;simp only[rr,ou]at J;obtain⟨p,U,B,u,⟨f,y⟩,q,d⟩:=J;simp only[Ch,T.foldO,ht]at U;obtain⟨⟨x,K⟩,U,rfl⟩:=U;simp only at U u q d;have key:=V9 n _ _ _ _ q;simp[aE,aD];(repeat' first|refine al ?_|simp[M,hi]);(refine CallDo.ob (td c b.v x K U) ci bv bv d7 ?_;rintro r H ⟨rfl,rfl⟩;refine⟨(Same.keys co co),?_⟩;simp[cH,aQ,aD,aE]);(repeat' first|refine al ?_|simp);(refine CallDo.ob (ML K b.t B u) ci bv bv d7 ?_;rintro r H ⟨rfl,rfl⟩;refine⟨(Same.keys co co),?_⟩;simp[cH,aQ,aD,aE]);(repeat' first|refine al ?_|refine aO (l5 _) ?_|refine aP (l5 _) ?_|simp);(refine hJ.ob (key) ci ci (Same.keys co co) bv bv d7 ?_;simp[cH,aQ,aD,aE]);cases f with
  |false=>simp at d;subst d;simp at g;subst g;(repeat' first|refine al ?_|simp);simp[bZ,ba,be,a1];simp[gw]
  |true=>simp at d;(repeat' first|refine al ?_|simp);refine bX.rng y hi d ?_;simp[aE,aD];exact⟨by simp[fresh,aH,aA,cd,aM,ae,aE,aD],ep lw,er lR,Ψ⟩
def adu(s:List Bd)(l r:List T)(k:l.length=r.length)(u:gD s)(p:iw s)(aq:rS s)(g:l.length<=1000000)(J:∀t∈l,t.ok=true)(U:∀t∈r,t.ok=true):
  bT au 186 [bH (s.map Bd.e),dw (l.map T.e),dw (r.map T.e)] (gw (mgu s (l.zip r))):=by
 have d:∀e∈iy s++l.zip r,e.1.ok=true/\e.2.ok=true:=fun e he=>by
  rcases jT.1 he with he|he
  ·obtain⟨b,m,rfl⟩:=hc.1 he;have:=aq b m;exact⟨by simpa[T.ok]using this.1,this.2⟩
  ·exact⟨J _ (List.of_mem_zip he).1,U _ (List.of_mem_zip he).2⟩
 have j:Pb (iy s++l.zip r):=fun e he v a=>by
  rcases a with a|a
  ·exact(yK (d e he).1 a).1
  ·exact(yK (d e he).2 a).1
 obtain⟨n,o,q,i,h⟩:=arM _ j;rw[tU (aef.1 i)];refine ajP n s l r k (by have:=p.1;omega) g o q fun c ay=>?_;obtain⟨f,a2,a3⟩:=h c ay;have:=Yf f fun v a=>by
  obtain⟨e,he,a⟩:=a2 v a;rcases a with a|a
  ·exact yK (d e he).1 a
  ·exact yK (d e he).2 a
 refine⟨f,by simp[cF]at this;omega,fun x=>?_⟩;simp[bL.sz,a3,dp]
structure e3 (s:List Bd):Prop where
 ok:rS s
 sol:gD s
 fits:iw s
def e3.len{s:List Bd}(h:e3 s):s.length<=1000000:=by have:=h.fits.1;omega
def e3.fit{s:List Bd}(h:e3 s):Bo s:=fun b a=>by simp[T.fit,(h.ok b a).2,h.fits.2 b a]
def e3.mgu{s:List Bd}(h:e3 s){E:List (T×T)}(b:∀e∈E,e.1.ok=true/\e.2.ok=true){a:List Bd}(hm:mgu s E=some a):e3 a:=⟨anf h.sol h.fits h.ok b hm,(Ci h.sol h.fits hm).1,(Ci h.sol h.fits hm).2⟩
def zZ(s:List Bd):(s.map Bd.b).map Bt.e=s.map Bd.e:=by rw[List.map_map];exact List.map_congr_left fun b _=>Bd.b_e b
def qs{s:List Bd}(h:e3 s):bT au 86 [bH (s.map Bd.e)] (.bool true):=by have:=Ra (s.map Bd.b);rw[zZ,sQ.2 ⟨s,rfl,h.ok,h.sol,h.fits⟩]at this;exact this
def amo(t:List Bd)(i:Nat)(p:List T×List T):Prop:=p.1=(t.take i).map (fun b=>T.var b.v)/\p.2=(t.take i).map (·.t)
def asN(t:List Bd)(s:t.length<=1000000):bT au 205 [bH (t.map Bd.e)] (.tuple [dw ((t.map fun b=>T.var b.v).map T.e),dw ((t.map (·.t)).map T.e)]):=by
 generalize br:((t.map fun b=>T.var b.v).map T.e)=q;generalize f:((t.map fun x=>x.t).map T.e)=o;have k:∀S:aB->Prop,aH S q=True:=fun S=>by rw[<-br];exact Yn S _
 have j:∀S:aB->Prop,aH S o=True:=fun S=>by rw[<-f];exact Yn S _
 refine bT.mk mixed a6 Tryz.func205 aom Ψ (by simp[aA,k,j]) fun r=>?_;unfold SQ;simp;refine fT (α:=List T×List T) (fun i p=>⟨[(10,bH (t.map Bd.e)),(11,aj t.length),(4,.slice 4 (.own (.loc 0)) (p.1.map T.e)),(5,.slice 4 (.own (.loc 1)) (p.2.map T.e)),(12,aj i)],[],[(.loc 0,⟨p.1.length,30,4,none⟩),(.loc 1,⟨p.2.length,30,4,none⟩)],2,[]⟩) t.length (amo t) ([],[]) cb ⟨Ψ,Ψ⟩ (fun p d _=>?_) (fun i p hi d _=>?_)
 ·obtain⟨A,B⟩:=p;obtain⟨c,a⟩:=d;simp only at c a⊢;rw[iv (dO _)]at c a;rw[<-br,<-f,<-c,<-a];simp;(repeat' first|refine al ?_|simp);simp[bZ,ba,be,a1]
 ·obtain⟨A,B⟩:=p;obtain⟨c,a⟩:=d;simp only at c a⊢;obtain⟨b,n,g⟩:=eV hi;have e:t.take (i+1)=t.take i++[b]:=by rw[List.take_succ,n];rfl
  have m:A.length<=1000000:=by rw[c];simp;omega
  have l:B.length<=1000000:=by rw[a];simp;omega
  simp[hi,g];((repeat' first|refine al ?_|refine aO (l5 _) ?_|refine aP (l5 _) ?_|simp[g,hi]|((first|apply cq|apply cu|apply ct)<;>intro h<;>try simp at h))<;>(try exact c0));all_goals try refine⟨by unfold lim;omega,?_⟩
  (repeat' first|refine al ?_|simp);all_goals try refine⟨by unfold lim;omega,?_⟩
  (repeat' first|refine al ?_|simp);refine bX.rng (A++[.var b.v],B++[b.t]) hi ⟨by rw[e,c];simp,by rw[e,a];simp⟩ ?_;simp;exact⟨by simp[fresh,aH,aA,cd,aM,ae,j0],ep g9,er ii,Ψ⟩
def ast{s t:List Bd}(c:e3 s)(a:e3 t):bT au 165 [bH (s.map Bd.e),bH (t.map Bd.e)] (gw (mgu s (iy t))):=by
 have f:(t.map fun b=>T.var b.v).zip (t.map (·.t))=iy t:=by rw[iy,List.zip_map']
 have key:=adu s (t.map fun b=>T.var b.v) (t.map (·.t)) Ψ c.sol c.fits c.ok (by simpa using a.len) (fun x e=>by
  obtain⟨b,d,rfl⟩:=hc.1 e;have:=a.ok b d;simpa[T.ok]using this.1) (fun x e=>by
  obtain⟨b,d,rfl⟩:=hc.1 e;exact(a.ok b d).2)
 rw[f]at key;have heq:=asN t a.len;generalize (t.map fun b=>T.var b.v)=A at key heq;generalize (t.map fun x=>x.t)=B at key heq;refine bF a6 Tryz.func165 anY fun g=>?_;unfold Ss;simp;(repeat' first|refine al ?_|refine aO (qs c) ?_|refine aP (qs c) ?_|refine aO (qs a) ?_|refine aP (qs a) ?_|refine aO heq ?_|refine aP heq ?_|refine aO key ?_|refine aP key ?_|simp);simp[bZ,ba,be,a1];simp[gw]
def nK{α:Type}{t:List α}{i:Nat}{b:α}(a:t[i]? =some b):t.take (i+1)=t.take i++[b]:=by rw[List.take_succ,a];rfl
def fp(s t:List Bd):List Bd:=t.filter fun b=>(dG s b.v).isNone
def sG(s t:List Bd)(i:Nat)(out:List Bd):Prop:=out=fp s (t.take i)
def ac4{s t:List Bd}(a:e3 s)(g:e3 t):bT au 166 [bH (s.map Bd.e),bH (t.map Bd.e)] (bH ((fp s t).map Bd.e)):=by
 have k:=g.len;generalize br:fp s t=R;refine bF a6 Tryz.func166 an3 fun m=>?_;unfold Sx;simp;(repeat' first|refine al ?_|refine aO (qs a) ?_|refine aP (qs a) ?_|refine aO (qs g) ?_|refine aP (qs g) ?_|simp);refine fT (α:=List Bd) (fun i out=>⟨[(0,bH (s.map Bd.e)),(17,bH (t.map Bd.e)),(18,aj t.length),(5,.slice 5 (.own (.loc 0)) (out.map Bd.e)),(19,aj i)],[],[(.loc 0,⟨out.length,113,5,none⟩)],1,[]⟩) t.length (sG s t) [] cb (by simp[sG,fp]) (fun out c _=>?_) (fun i out hi c _=>?_)
 ·rw[sG,iv (dO _),br]at c;rw[<-c];exact cn
 ·obtain⟨b,j,f⟩:=eV hi;have l:out.length<=1000000:=by
   have:out.length<=(t.take i).length:=by rw[c];exact List.length_filter_le _ _
   simp at this;omega
  have h:=VR a.sol.asc b.v;simp[hi,f];by_cases d:oE s b.v<0
  ·(repeat' first|refine al ?_|refine aO (vx s b.v a.len) ?_|refine aP (vx s b.v a.len) ?_|refine aO (vv _) ?_|refine aP (vv _) ?_|simp[f,hi,d]);all_goals try refine⟨by unfold lim;omega,?_⟩
   (repeat' first|refine al ?_|simp);refine bX.rng (out++[b]) hi (by rw[sG,nK j,fp,List.filter_append,c];simp[fp,h.1 d]) ?_;simp;exact⟨by simp[fresh,aH,aA,cd,aM,ae,j0],ep g9,er ii,Ψ⟩
  ·(repeat' first|refine al ?_|refine aO (vx s b.v a.len) ?_|refine aP (vx s b.v a.len) ?_|simp[f,hi,d]);refine bX.rng out hi (by
    have:dG s b.v≠none:=fun e=>d (h.2 e);rw[sG,nK j,fp,List.filter_append,c];cases e:dG s b.v with
    |none=>exact absurd e this
    |some x=>simp[fp,e]) ?_
   exact cb
def Ix(t:List Bd)(i:Nat)(out:List Bd):Prop:=out=t.take i
def ac8(t:List Bd)(g:t.length<=1000000):bT au 168 [bH (t.map Bd.e)] (bH (t.map Bd.e)):=by
 refine bF a6 Tryz.func168 ZN fun f=>?_;unfold Lq;simp;refine fT (α:=List Bd) (fun i out=>⟨[(7,bH (t.map Bd.e)),(8,aj t.length),(3,.slice 5 (.own (.loc 0)) (out.map Bd.e)),(9,aj i)],[],[(.loc 0,⟨out.length,113,5,none⟩)],1,[]⟩) t.length (Ix t) [] cb (by simp[Ix]) (fun out a _=>?_) (fun i out hi a _=>?_)
 ·rw[Ix,iv (dO _)]at a;subst a;exact cn
 ·obtain⟨b,d,c⟩:=eV hi;have e:out.length<=1000000:=by rw[a];simp;omega
  simp[hi,c];(repeat' first|refine al ?_|refine aO (vv _) ?_|refine aP (vv _) ?_|simp[c,hi]);all_goals try refine⟨by unfold lim;omega,?_⟩
  (repeat' first|refine al ?_|simp);refine bX.rng (out++[b]) hi (by rw[Ix,nK d,a]) ?_;simp;exact⟨by simp[fresh,aH,aA,cd,aM,ae,j0],ep g9,er ii,Ψ⟩
def tT(t:List Bd)(b:Bd):Bool:=decide (cR t b.v=b.t.ap (cR t))
def oS(s t:List Bd):Bool:=s.all (tT t)
def FZ{t:List Bd}(a:e3 t)(v:Int):(cR t v).size<=5000:=by
 unfold cR;cases e:dG t v with
 |none=>simp[T.size]
 |some x=>exact a.fits.2 _ (kQ e)
def adp(s:List Bd){t:List Bd}(r:s.length<=1000000)(d:e3 t):bT au 208 [bH (s.map Bd.e),bH (t.map Bd.e)] (.bool (oS s t)):=by
 refine bF a6 Tryz.func208 aop fun u=>?_;unfold SV;simp;refine e1 [1,11,12] (fun i (_:Unit)=>[(13,aj i)]) s.length (qX (tT t) s) () cb (fun k b ad=>Ω) (fun _ j _=>?_) (fun i _ hi j _=>?_)
 ·have:oS s t=true:=by rw[oS,j5];intro b q;obtain⟨k,ad,e⟩:=pM q;exact j k b ad (by rw[ck ad,e])
  rw[this];exact cn
 ·obtain⟨b,o,g⟩:=eV hi;have m:tT t b=false->oS s t=false:=fun h=>by rw[Bool.eq_false_iff];intro n;rw[oS,j5]at n;rw[n b (fx o)]at h;cases h
  have a:=KE t (.var b.v) d.len d.sol.asc d.fit;have c:=KE t b.t d.len d.sol.asc d.fit;have l:=FZ d b.v;have p:((T.var b.v).ap (cR t)).size<=5000:=l;rw[if_pos p,lK p]at a;rw[show(T.var b.v).ap (cR t)=cR t b.v from rfl]at a;simp[hi,g];by_cases f:(b.t.ap (cR t)).size<=5000
  ·rw[if_pos f,lK f]at c;by_cases he:cR t b.v=b.t.ap (cR t)
   ·rw[he]at a;(repeat' first|refine al ?_|refine aO (l5 _) ?_|refine aP (l5 _) ?_|refine aO a ?_|refine aP a ?_|refine aO c ?_|refine aP c ?_|refine aO (vw _ _) ?_|refine aP (vw _ _) ?_|simp[g,hi,he]);exact bX.rng () hi (j.step o (by simp[tT,he])) cb
   ·rw[m (by simp[tT,he])];(repeat' first|refine al ?_|refine aO (l5 _) ?_|refine aP (l5 _) ?_|refine aO a ?_|refine aP a ?_|refine aO c ?_|refine aP c ?_|refine aO (vw _ _) ?_|refine aP (vw _ _) ?_|simp[g,hi,he]);simp[bZ,ba,be,a1]
  ·rw[if_neg f,mz f]at c;rw[m (by simp only[tT,iN];intro e;rw[<-e]at f;exact f l)];(repeat' first|refine al ?_|refine aO (l5 _) ?_|refine aP (l5 _) ?_|refine aO a ?_|refine aP a ?_|refine aO c ?_|refine aP c ?_|refine aO (vw _ _) ?_|refine aP (vw _ _) ?_|simp[g,hi]);simp[bZ,ba,be,a1]
def E5(c:Bd->Bd->Int):∀a b:List Bd,a=[]\/b=[]->kI c a b=fe a.length b.length
 |[],[],_=>by simp[kI,fe]
 |[],_::_,_=>by simp[kI,fe]<;>omega
 |_::_,[],_=>by simp[kI,fe]<;>omega
 |_::_,_::_,h=>by simp at h
def aac(x y:Bd)(xs ys:List Bd):fc (x::xs) (y::ys)=if fe x.v y.v=0 then(if e8 x.t y.t=0 then fc xs ys else e8 x.t y.t)else fe x.v y.v:=by
 by_cases a:fe x.v y.v=0
 ·by_cases b:e8 x.t y.t=0<;>simp[fc,kI,Af,a,b]
 ·simp[fc,kI,Af,a]
def aad(a b k:Int):fe (a-k) (b-k)=fe a b:=by unfold fe;(repeat' split)<;>omega
def N9(d e:List Bd)(i:Nat):Prop:=i<=d.length/\i<=e.length/\fc (d.drop i) (e.drop i)=fc d e
def KC(d e:List Bd):bT au 207 [bH (d.map Bd.e),bH (e.map Bd.e)] (aj (fc d e)):=by
 generalize br:fc d e=R;refine bF a6 Tryz.func207 aos fun l=>?_;unfold SZ;have q:d.length<=68719476736:=by simp[eK,eU,eM,lim]at l;omega
 have he:e.length<=68719476736:=by simp[eK,eU,eM,lim]at l;omega
 simp;refine xr [0,1] (fun(i:Nat)=>[(5,aj i)]) (fun i=>d.length-i) (N9 d e) 0 cb ⟨Ω,Ω,Ψ⟩ (fun i n _=>?_);obtain⟨J,U,a⟩:=n;rw[br]at a;by_cases hi:i<d.length
 ·by_cases b:i<e.length
  ·obtain⟨x,k⟩:∃x,d[i]? =some x:=⟨_,ck hi⟩;obtain⟨y,m⟩:∃y,e[i]? =some y:=⟨_,ck b⟩;have f:∀h,(d[i]'h)=x:=fun h=>by rw[ck hi]at k;exact eZ k
   have c:∀h,(e[i]'h)=y:=fun h=>by rw[ck b]at m;exact eZ m
   have p:d.drop i=x::d.drop (i+1):=by rw[lJ hi,f]
   have o:e.drop i=y::e.drop (i+1):=by rw[lJ b,c]
   rw[p,o]at a;rw[aac]at a;simp[hi,b,f,c];by_cases g:fe x.v y.v=0
   ·rw[if_pos g]at a;by_cases j:e8 x.t y.t=0
    ·rw[if_pos j]at a;(repeat' first|refine al ?_|refine aO (pH _ _) ?_|refine aP (pH _ _) ?_|refine aO (De _ _) ?_|refine aP (De _ _) ?_|simp[f,c,hi,b,g,j]);refine bX.whl (i+1) Ω ⟨Ω,Ω,by rw[br];exact a⟩ ?_;exact cb
    ·rw[if_neg j]at a;((repeat' first|refine al ?_|refine aO (pH _ _) ?_|refine aP (pH _ _) ?_|refine aO (De _ _) ?_|refine aP (De _ _) ?_|simp[f,c,hi,b,g,j]|((first|apply cq|apply cu|apply ct)<;>intro h<;>try simp at h))<;>(try exact c0));simp[bZ,ba,be,a1];exact a
   ·rw[if_neg g]at a;((repeat' first|refine al ?_|refine aO (pH _ _) ?_|refine aP (pH _ _) ?_|simp[f,c,hi,b,g]|((first|apply cq|apply cu|apply ct)<;>intro h<;>try simp at h))<;>(try exact c0));simp[bZ,ba,be,a1];exact a
  ·have:fe d.length e.length=R:=by rw[<-a,fc,E5 _ _ _ (.inr (List.drop_eq_nil_of_le Ω))];rw[<-aad d.length e.length i];simp only[ur];congr 1<;>omega
   simp[hi,b];(repeat' first|refine al ?_|refine aO (pH _ _) ?_|refine aP (pH _ _) ?_|simp[hi,b]);simp[bZ,ba,be,a1];exact this
 ·have:fe d.length e.length=R:=by rw[<-a,fc,E5 _ _ _ (.inl (List.drop_eq_nil_of_le Ω))];rw[<-aad d.length e.length i];simp only[ur];congr 1<;>omega
  simp[hi];(repeat' first|refine al ?_|refine aO (pH _ _) ?_|refine aP (pH _ _) ?_|simp[hi]);simp[bZ,ba,be,a1];exact this
def Rc(a b:List Bd)(v:a.length<=1000000):bT au 169 [bH (a.map Bd.e),bH (b.map Bd.e)] (.bool (decide (a=b))):=by
 by_cases q:a.length=b.length;rotate_left
 ·have r:decide (a=b)=false:=by simp only[iN];rintro rfl;exact q rfl
  have u:((a.length:Int) !=(b.length:Int))=true:=by simp;omega
  have t:¬(a.length:Int)=b.length:=Ω
  rw[r];refine bF a6 Tryz.func169 ZO fun s=>?_;unfold Lr;exact cn
 ·generalize br:decide (a=b)=R;refine bF a6 Tryz.func169 ZO fun s=>?_;unfold Lr;simp;(repeat' first|refine al ?_|simp[q]);refine e1 [0,1,12] (fun i (_:Unit)=>[(13,aj i)]) b.length (fun i (_:Unit)=> ∀k,k<i->a[k]? =b[k]?) () cb (fun k ad=>Ω) (fun _ o _=>?_) (fun i _ hi o _=>?_)
  ·have:R=true:=by
    rw[<-br,gn];apply List.ext_getElem?;intro k;by_cases ad:k<b.length
    ·exact o k ad
    ·rw[rh Ω,rh Ω]
   rw[this];exact cn
  ·obtain⟨x,g⟩:∃x,a[i]? =some x:=⟨_,ck Ω⟩;obtain⟨y,c⟩:∃y,b[i]? =some y:=⟨_,ck hi⟩;have f:i<a.length:=Ω
   have m:∀h,(a[i]'h)=x:=fun h=>by rw[ck f]at g;exact eZ g
   have l:∀h,(b[i]'h)=y:=fun h=>by rw[ck hi]at c;exact eZ c
   have p:x≠y->R=false:=fun h=>by rw[<-br,iN];rintro rfl;rw[g]at c;cases c;exact h rfl
   simp[hi,f,m,l];by_cases d:x.v=y.v
   ·have j:(x.v !=y.v)=false:=by simp[d]
    by_cases n:x.t=y.t
    ·(repeat' first|refine al ?_|refine aO (vw _ _) ?_|refine aP (vw _ _) ?_|simp[m,l,hi,f,d,j,n]);refine bX.rng () hi (fun k ad=>?_) ?_
     ·rcases(by omega:k<i\/k=i)with h|rfl
      ·exact o k h
      ·rw[g,c];cases x;cases y;simp_all
     ·exact cb
    ·rw[p (fun e=>n (by rw[e]))];(repeat' first|refine al ?_|refine aO (vw _ _) ?_|refine aP (vw _ _) ?_|simp[m,l,hi,f,d,j,n]);simp[bZ,ba,be,a1]
   ·have j:(x.v !=y.v)=true:=by simp[d]
    rw[p (fun e=>d (by rw[e]))];exact cn
def jO(l:List (List Bd))(e:List Bd):Bool:=l.all fun d=>decide (d=e)|| !oS d e
def amt{l b:List (List Bd)}(h:∀x,x∈l↔x∈b)(e:List Bd):jO l e=jO b e:=by rw[rf,jO,jO,j5,j5];exact⟨fun J x a=>J x ((h x).2 a),fun J x a=>J x ((h x).1 a)⟩
def lZ(l:List (List Bd)):List (List Bd):=(asc fc l).filter (jO l)
def Cj{l:List (List Bd)}{x:List Bd}:x∈lZ l↔x∈l/\jO l x=true:=by rw[lZ,oq,Y1]
def Zb(l:List (List Bd)):iO fc (lZ l):=(Lb mT l).filter _
def Zc{l a:List (List Bd)}(b:iO fc a)(hm:∀x,x∈a↔x∈l/\jO l x=true):lZ l=a:=(Zb l).ext mT b fun x=>by rw[hm,Cj]
structure dd where
 n:Int
 b:List Bd
 d:List (List Bd)
 k:List bJ
 m:List bn
 deriving DecidableEq,Inhabited
noncomputable def hN(b:List Bd)(k:List bJ)(m:List bn):List (List Bd)->Option (List (List Bd))
 |[]=>some []
 |d::r=>match mgu b (iy d)with
  |none=>hN b k m r
  |some x=>if gU x k []=none\/ha x m []=none then hN b k m r else if fp b x=[]then none else(hN b k m r).map (fp b x:: ·)
def ly(k:List bJ)(x:bn):Bool:=nD k x.v !=some 3
noncomputable def jk(s:dd):Option dd:=match gU s.b s.k []with
 |none=>none
 |some k=>match ha s.b s.m []with
  |none=>none
  |some m=>match hN s.b k (m.filter (ly k)) s.d with
   |none=>none
   |some L=>if(lZ L).length<=30 then some ⟨s.n,s.b,lZ L,k,m.filter (ly k)⟩else none
def y3(t:T)(n:Int):Prop:= ∀v,t.occ v=true->v<n
def rp(l:List Bd)(n:Int):Prop:= ∀b∈l,b.v<n/\y3 b.t n
structure pD (s:dd):Prop where
 n:0<=s.n/\s.n<=100000
 b:e3 s.b
 d:∀x∈s.d,e3 x
 k:jN s.k
 m:iT s.m
 bb:rp s.b s.n
 db:∀x∈s.d,rp x s.n
 kb:∀x∈s.k,x.v<s.n
 mb:∀x∈s.m,x.v<s.n
def ug(s:dd):Prop:=pD s/\jk s=some s
def CZ{s:List Bd}(a:e3 s){v:Int}(b:0<=v/\v<=100000):(cR s v).ok=true:=by have:=Kc a.ok (t:= .var v) (by simpa[T.ok]using b);exact this
def JO{s:List Bd}(c:e3 s):∀{l acc a:List bJ},(∀x∈l,(0<=x.v/\x.v<=100000)/\(x.k=2\/x.k=3))->jN acc->gU s l acc=some a->jN a
 |[],acc,a,_,h,he=>by simp only[gU,dV]at he;rw[<-he];exact h
 |x::r,acc,a,b,h,he=>by
  simp only[gU]at he;split at he
  ·rename_i g e;have d:=b x Ψ;exact JO c (fun y f=>b y (by simp[f])) (K4 h (CZ c d.1) d.2 e) he
  ·cases he
def JP{s:List Bd}(c:e3 s):∀{l acc a:List bn},(∀x∈l,(0<=x.v/\x.v<=100000)/\kt x.s=true)->iT acc->ha s l acc=some a->iT a
 |[],acc,a,_,h,he=>by simp only[ha,dV]at he;rw[<-he];exact h
 |x::r,acc,a,b,h,he=>by
  simp only[ha]at he;split at he
  ·rename_i g e;have d:=b x Ψ;exact JP c (fun y f=>b y (by simp[f])) (K6 h (CZ c d.1) d.2 e) he
  ·cases he
def oX(G:List (List cV))(l:List bn):Prop:= ∀x∈l,x.s∈G
def K7{G:List (List cV)}{l a:List bn}{t:T}{s:List cV}(h:oX G l)(b:s∈G)(he:nh l t s=some a):oX G a:=fun x c=>by
 rcases(Fb he x).1 c with J|⟨J,_⟩
 ·exact h x J
 ·rw[J];exact b
def JQ{G:List (List cV)}{s:List Bd}:∀{l acc a:List bn},oX G l->oX G acc->ha s l acc=some a->oX G a
 |[],acc,a,_,h,he=>by simp only[ha,dV]at he;rw[<-he];exact h
 |x::r,acc,a,b,h,he=>by
  simp only[ha]at he;split at he
  ·rename_i e c;exact JQ (fun y d=>b y (by simp[d])) (K7 h (b x Ψ) c) he
  ·cases he
def ap2{α:Type}[DecidableEq α]:∀{G:List α} {l:List (Nat×α)},l.Nodup->(∀x∈l,x.1<100001/\x.2∈G)->l.length<=100001*G.length:=by
 intro G l b h;have:=RA b (l₂:=(List.range 100001).flatMap fun i=>G.map fun g=>(i,g)) (fun x c=>by obtain⟨J,U⟩:=h x c;rw[List.mem_flatMap];exact⟨x.1,List.mem_range.2 J,hc.2 ⟨x.2,U,rfl⟩⟩)
 have e:((List.range 100001).flatMap fun i=>G.map fun g=>(i,g)).length=100001*G.length:=by
  generalize 100001=n;induction n with
  |zero=>simp
  |succ n a=>rw[List.range_succ,List.flatMap_append,qv,a];simp[Nat.succ_mul]
 omega
def E9{G:List (List cV)}{l:List bn}(h:iT l)(bd:oX G l):l.length<=100001*G.length:=by
 have J:(l.map fun x=>(x.v.toNat,x.s)).Nodup:=by rw[List.nodup_iff_pairwise_ne,List.pairwise_map];refine at4 (fun{a b} f g d e=>d ?_) (h.asc.nodup mU);have:=(h.at' a f).1;have:=(h.at' b g).1;simp only[jo]at e;cases a;cases b;simp only[bn.mk.injEq];simp only at*;exact⟨Ω,e.2⟩
 have:=ap2 (G:=G) J fun x i=>by obtain⟨y,c,rfl⟩:=hc.1 i;have:=(h.at' y c).1;exact⟨by simp;omega,bd y c⟩
 simpa using this
def kC(m:List bn):Prop:= ∃G:List (List cV),G.length<=687000/\oX G m
def kC.len{m:List bn}(h:kC m)(hm:iT m):m.length<=68719470000:=by obtain⟨G,J,U⟩:=h;have:=E9 hm U;omega
def kC.of{m:List bn}(h:m.length<=687000):kC m:=⟨m.map (·.s),by simpa using h,fun _ a=>List.mem_map_of_mem a⟩
def arl{s:List Bd}(h:e3 s)(p:Bd->Bool):e3 (s.filter p):=by
 have c:∀b∈s.filter p,b∈s:=fun b a=>(oq.1 a).1;have d:∀w,dG s w=none->dG (s.filter p) w=none:=fun w hw=>by rw[xd]at hw⊢;exact fun b a=>hw b (c b a)
 exact⟨fun b a=>h.ok b (c b a),⟨adR p h.sol.asc,fun b a w hw=>d w (h.sol.free b (c b a) w hw),fun b a=>h.sol.ori b (c b a)⟩,
  kg (List.length_filter_le _ _) h.fits.1,fun b a=>h.fits.2 b (c b a)⟩
def Fi{b x:List Bd}(h:e3 x):e3 (fp b x):=arl h _
def anE{b x:List Bd}(n:gD b)(d:gD x)(o:iw x)(h:∀a,hW x a->hW b a):jG b (iy (fp b x)) (some x):=by
 refine⟨⟨d,o⟩,fun a=>⟨fun i=>⟨h a i,fun e he=>?_⟩,fun⟨J,U⟩ c ay=>?_⟩⟩
 ·obtain⟨c,ay,rfl⟩:=hc.1 he;exact i c (oq.1 ay).1
 ·have g:∀c∈x,dG b c.v=none->a c.v=c.t.ap a:=fun c ay l=>by have:=U (.var c.v,c.t) (hc.2 ⟨c,oq.2 ⟨ay,by simp[l]⟩,rfl⟩);exact this
  have j:∀w,dG b w=none->(cR x w).ap a=a w:=fun w hw=>by
   unfold cR;cases e:dG x w with
   |none=>rfl
   |some t=>have hm:=kQ e;exact(g _ hm hw).symm
  cases e:dG b c.v with
  |none=>exact g c ay e
  |some t=>
   have m:a c.v=t.ap a:=J _ (kQ e);have f:=h (cR x) (Az d) _ (kQ e);simp only at f;have k:cR x c.v=c.t:=by unfold cR;rw[vR d.asc ay];rfl
   rw[k]at f;rw[m,f,Dw];exact vP fun w hw=>(j w (n.free _ (kQ e) w hw)).symm
def ang{s:List Bd}(b:gD s)(c:iw s){E:List (T×T)}{x:List Bd}(h:mgu s E=some x):∀a,hW x a↔hW s a/\km E a:=by have:=I6 b c E;rw[h]at this;exact this.2
def Y9{s:List Bd}(a:gD s)(b:iw s){E:List (T×T)}{x:List Bd}(h:mgu s E=some x):mgu s (iy (fp s x))=some x:=tU (anE a (Ci a b h).1 (Ci a b h).2 fun d c=>((ang a b h d).1 c).1)
def Za(p:Int->Prop){E:List (T×T)}:∀{s j:List Bd},gD s->iw s->(∀b∈s,p b.v/\∀w,b.t.occ w=true->p w)->(∀e∈E,(∀w,e.1.occ w=true->p w)/\∀w,e.2.occ w=true->p w)->mgu s E=some j->∀b∈j,p b.v/\∀w,b.t.occ w=true->p w:=by
 induction E with
 |nil=>intro s j d i J _ h;rw[I5 d i]at h;cases h;exact J
 |cons e E v=>
  intro s j d i J U h;rw[OU d i]at h;split at h
  ·rename_i s1 m;obtain⟨V,a⟩:∃V,V=s.flatMap (fun b=>b.v::oZ b.t)++oZ e.1++oZ e.2:=⟨_,rfl⟩;have q:∀w∈V,p w:=by
    intro w hw;rw[a]at hw;simp only[jT,List.mem_flatMap,gJ]at hw;rcases hw with(⟨b,f,rfl|hw⟩|hw)|hw
    ·exact(J b f).1
    ·exact(J b f).2 w (Gi.1 hw)
    ·exact(U e Ψ).1 w (Gi.1 hw)
    ·exact(U e Ψ).2 w (Gi.1 hw)
   obtain⟨n,o,x,t,r⟩:=acW V _ _ s e.1 e.2 d i (fun c ay=>⟨by rw[a];simp only[jT,List.mem_flatMap];exact .inl (.inl ⟨c,ay,Ψ⟩),fun w hw=>by rw[a];simp only[jT,List.mem_flatMap];exact .inl (.inl ⟨c,ay,by simp[z1 hw]⟩)⟩)
    (fun w hw=>by rw[a];simp only[jT];exact .inl (.inr (z1 hw))) (fun w hw=>by rw[a];simp only[jT];exact .inr (z1 hw)) rfl rfl
   have k:=tU t;rw[m]at k;subst k;obtain⟨g,_⟩:=r s1 rfl;have l:=Ci d i m;exact v l.1 l.2 (fun b f=>⟨q _ (g b f).1,fun w hw=>q w ((g b f).2 w hw)⟩) (fun u he=>U u (by simp[he])) h
  ·cases h
def art{s:List Bd}(a:gD s){v n:Int}(h:cR s v= .var n):dG s n=none:=by have:=QE a (t:= .var v) (w:=n) (by show(cR s v).occ n=true;rw[h];simp[T.occ]);exact this
def RO{l b:List bJ}{t:T}{k:Int}(h:k7 l t k=some b):∀x∈b,x∈l\/t= .var x.v:=by
 unfold k7 at h;split at h
 ·rename_i n;split at h
  ·split at h
   ·cases h;exact fun x a=>.inl a
   ·cases h
  ·cases h;intro x a;rcases I3.1 a with rfl|a
   ·exact .inr rfl
   ·exact .inl a
 ·split at h
  ·cases h;exact fun x a=>.inl a
  ·cases h
def abz{s:List Bd}(b:gD s):∀{l acc a:List bJ},(∀x∈acc,dG s x.v=none)->gU s l acc=some a->∀x∈a,dG s x.v=none
 |[],acc,a,h,he=>by simp only[gU,dV]at he;rw[<-he];exact h
 |y::r,acc,a,h,he=>by
  simp only[gU]at he;split at he
  ·rename_i e c;refine abz b (fun x d=>?_) he;rcases RO c x d with J|J
   ·exact h x J
   ·exact art b J
  ·cases he
def XP{x:bJ}:∀{l:List bJ},(∀y∈l,y.v<x.v)->nB x l=l++[x]
 |[],_=>rfl
 |y::l,h=>by simp only[nB,if_pos (h y Ψ),XP (l:=l) fun z a=>h z (by simp[a]),b6]
def abA{s:List Bd}:∀{l acc:List bJ},(acc++l).Pairwise (fun x y=>x.v<y.v)->(∀x∈l,dG s x.v=none)->gU s l acc=some (acc++l)
 |[],acc,_,_=>by simp[gU]
 |x::r,acc,b,c=>by
  have J:∀y∈acc,y.v<x.v:=fun y a=>(List.pairwise_append.1 b).2.2 y a x Ψ;have U:nD acc x.v=none:=E1.2 fun y a=>by have:=J y a;omega
  have d:k7 acc (cR s x.v) x.k=some (acc++[x]):=by rw[CY (c x Ψ)];simp only[k7,U];rw[XP J]
  simp only[gU,d];rw[abA (by simpa using b) fun y a=>c y (by simp[a])];simp
def abC{s:List Bd}(b:gD s):∀{l acc a:List bn},(∀x∈acc,dG s x.v=none)->ha s l acc=some a->∀x∈a,dG s x.v=none
 |[],acc,a,h,he=>by simp only[ha,dV]at he;rw[<-he];exact h
 |y::r,acc,a,h,he=>by
  simp only[ha]at he;split at he
  ·rename_i e c;refine abC b (fun x d=>?_) he;rcases(Fb c x).1 d with J|⟨_,J⟩
   ·exact h x J
   ·exact QE b (t:= .var y.v) J
  ·cases he
def abD{s:List Bd}:∀{l acc:List bn},iO gf (acc++l)->(∀x∈l,dG s x.v=none)->ha s l acc=some (acc++l)
 |[],acc,_,_=>by simp[ha]
 |x::r,acc,a,b=>by
  have c:nh acc (cR s x.v) x.s=some (acc++[x]):=by
   rw[CY (b x Ψ)];refine K5 rfl (ayP ?_ a) fun z=>?_
   ·simp
   ·simp only[jT,List.mem_singleton,T.occ,eA];refine or_congr_right ⟨fun h=>by rw[h];exact⟨rfl,rfl⟩,fun⟨J,U⟩=>?_⟩;cases z;cases x;simp_all
  simp only[ha,c];rw[abD (by simpa using a) fun y d=>b y (by simp[d])];simp
def yD(b:List Bd)(k:List bJ)(m:List bn)(d:List Bd):Prop:= ∃x,mgu b (iy d)=some x/\¬(gU x k []=none\/ha x m []=none)/\fp b x=d/\d≠[]
def IS{b:List Bd}(a:e3 b){k:List bJ}{m:List bn}:∀{l L:List (List Bd)},hN b k m l=some L->∀d∈L,yD b k m d
 |[],L,h=>by simp only[hN,dV]at h;rw[<-h];simp
 |d0::r,L,h=>by
  simp only[hN]at h;split at h
  ·exact IS a h
  ·rename_i x f;split at h
   ·exact IS a h
   ·rename_i ad;split at h
    ·cases h
    ·rename_i e;rw[ht]at h;obtain⟨g,J,rfl⟩:=h;intro d c;rcases gJ.1 c with rfl|c
     ·exact⟨x,Y9 a.sol a.fits f,ad,rfl,e⟩
     ·exact IS a J d c
def YE{b:List Bd}{k:List bJ}{m:List bn}:∀{L:List (List Bd)},(∀d∈L,yD b k m d)->hN b k m L=some L
 |[],_=>rfl
 |d::L,h=>by obtain⟨x,J,U,a,c⟩:=h d Ψ;simp only[hN,J,if_neg U,a,if_neg c,YE (L:=L) fun e he=>h e (by simp[he]),pN]
def IQ{b:List Bd}(g:e3 b){k:List bJ}{m:List bn}:∀{l L:List (List Bd)},(∀d∈l,e3 d)->hN b k m l=some L->∀d∈L,e3 d
 |[],L,_,h=>by simp only[hN,dV]at h;rw[<-h];simp
 |d0::r,L,f,h=>by
  simp only[hN]at h;split at h
  ·exact IQ g (fun d a=>f d (by simp[a])) h
  ·rename_i x i;split at h
   ·exact IQ g (fun d a=>f d (by simp[a])) h
   ·split at h
    ·cases h
    ·rw[ht]at h;obtain⟨j,J,rfl⟩:=h;intro d a;rcases gJ.1 a with rfl|a
     ·exact Fi (g.mgu (fun e he=>by obtain⟨c,ay,rfl⟩:=hc.1 he;have:=(f d0 Ψ).ok c ay;exact⟨by simpa[T.ok]using this.1,this.2⟩) i)
     ·exact IQ g (fun d a=>f d (by simp[a])) J d a
def IP{b:List Bd}(f:e3 b){n:Int}(g:rp b n){k:List bJ}{m:List bn}:∀{l L:List (List Bd)},(∀d∈l,rp d n)->hN b k m l=some L->∀d∈L,rp d n
 |[],L,_,h=>by simp only[hN,dV]at h;rw[<-h];simp
 |d0::r,L,i,h=>by
  simp only[hN]at h;split at h
  ·exact IP f g (fun d a=>i d (by simp[a])) h
  ·rename_i x j;split at h
   ·exact IP f g (fun d a=>i d (by simp[a])) h
   ·split at h
    ·cases h
    ·rw[ht]at h;obtain⟨o,J,rfl⟩:=h;intro d a;rcases gJ.1 a with rfl|a
     ·have:=Za (fun v=>v<n) f.sol f.fits g (fun e he=>by obtain⟨c,ay,rfl⟩:=hc.1 he;have:=i d0 Ψ c ay;exact⟨fun w hw=>by simp[T.occ]at hw;subst hw;exact this.1,this.2⟩) j
      exact fun c ay=>this c (oq.1 ay).1
     ·exact IP f g (fun d a=>i d (by simp[a])) J d a
def anj{L:List (List Bd)}:lZ (lZ L)=lZ L:=Zc (Zb L) fun x=>by rw[Cj,and_assoc];refine⟨fun⟨J,U⟩=>⟨J,U,?_⟩,fun⟨J,U,_⟩=>⟨J,U⟩⟩;rw[jO,j5]at U⊢;exact fun d a=>U d (Cj.1 a).1
def X7{b:List Bd}(c:e3 b){n:Int}(a:rp b n){v w:Int}(d:v<n)(h:(cR b v).occ w=true):w<n:=by
 unfold cR at h;cases e:dG b v with
 |none=>rw[e]at h;simp[T.occ]at h;omega
 |some t=>rw[e]at h;exact(a _ (kQ e)).2 w h
def aby{b:List Bd}(f:e3 b){n:Int}(d:rp b n):∀{l acc a:List bJ},(∀x∈l,x.v<n)->(∀x∈acc,x.v<n)->gU b l acc=some a->∀x∈a,x.v<n
 |[],acc,a,_,h,he=>by simp only[gU,dV]at he;rw[<-he];exact h
 |y::r,acc,a,e,h,he=>by
  simp only[gU]at he;split at he
  ·rename_i i g;refine aby f d (fun x c=>e x (by simp[c])) (fun x c=>?_) he;rcases RO g x c with J|J
   ·exact h x J
   ·exact X7 f d (e y Ψ) (by rw[J];simp[T.occ])
  ·cases he
def abB{b:List Bd}(f:e3 b){n:Int}(d:rp b n):∀{l acc a:List bn},(∀x∈l,x.v<n)->(∀x∈acc,x.v<n)->ha b l acc=some a->∀x∈a,x.v<n
 |[],acc,a,_,h,he=>by simp only[ha,dV]at he;rw[<-he];exact h
 |y::r,acc,a,e,h,he=>by
  simp only[ha]at he;split at he
  ·rename_i i g;refine abB f d (fun x c=>e x (by simp[c])) (fun x c=>?_) he;rcases(Fb g x).1 c with J|⟨_,J⟩
   ·exact h x J
   ·exact X7 f d (e y Ψ) J
  ·cases he
def QC{s b:dd}(h:pD s)(he:jk s=some b):ug b/\b.n=s.n/\b.b=s.b:=by
 unfold jk at he;split at he
 ·cases he
 rename_i k ad;split at he
 ·cases he
 rename_i m hm;split at he
 ·cases he
 rename_i L c;split at he;rotate_left
 ·cases he
 rename_i g;cases he;have e:=JO h.b h.k.at' ⟨Ψ,Ψ⟩ ad;have m1:=JP h.b h.m.at' ⟨Ψ,by simp[iO]⟩ hm;have m2:iT (m.filter (ly k)):=⟨fun x a=>m1.at' x (oq.1 a).1,adR _ m1.asc⟩;have dx:=IS h.b c;have f:=IQ h.b h.d c;refine⟨⟨⟨h.n,h.b,fun x a=>f x (Cj.1 a).1,e,m2,h.bb,fun x a=>IP h.b h.bb h.db c x (Cj.1 a).1,aby h.b h.bb h.kb Ψ ad,fun x a=>abB h.b h.bb h.mb Ψ hm x (oq.1 a).1⟩,?_⟩,rfl,rfl⟩;unfold jk;have l:gU s.b k []=some k:=abA (acc:=[]) e.asc (abz h.b.sol Ψ ad);have o:ha s.b (m.filter (ly k)) []=some (m.filter (ly k)):=abD (acc:=[]) m2.asc fun x a=>abC h.b.sol Ψ hm x (oq.1 a).1;have i:(m.filter (ly k)).filter (ly k)=m.filter (ly k):=by rw[List.filter_filter];simp
 have j:hN s.b k (m.filter (ly k)) (lZ L)=some (lZ L):=YE fun d n=>dx d (Cj.1 n).1;simp only[l,o,i,j,anj,if_pos g]
def vb{α:Type}{s:List α}{i:Nat}{t:α}(h:s[i]? =some t):s.drop i=t::s.drop (i+1):=by obtain⟨hi,e⟩:=fI.1 h;rw[lJ hi,e]
def rP(L:List (List Bd))(a:List (List Bd))(e:List Bd):List (List Bd):=if jO L e=true then kY fc e a else a
def OV{L:List (List Bd)}:∀(xs:List (List Bd)) {a:List (List Bd)},iO fc a->iO fc (xs.foldl (rP L) a)
 |[],_,h=>h
 |x::xs,a,h=>OV xs (a:=rP L a x) (by unfold rP;split<;>first|exact N3 mT h|exact h)
def Ze{L:List (List Bd)}{x:List Bd}:∀(xs:List (List Bd)) {a:List (List Bd)},x∈xs.foldl (rP L) a↔x∈a\/(x∈xs/\jO L x=true)
 |[],a=>by simp
 |y::xs,a=>by
  rw[List.foldl_cons,Ze xs,gJ];unfold rP;by_cases ad:jO L y=true
  ·rw[if_pos ad,I2 mT];constructor
   ·rintro((rfl|h)|h)
    ·exact .inr ⟨.inl rfl,ad⟩
    ·exact .inl h
    ·exact .inr ⟨.inr h.1,h.2⟩
   ·rintro(h|⟨rfl|J,U⟩)
    ·exact .inl (.inr h)
    ·exact .inl (.inl rfl)
    ·exact .inr ⟨J,U⟩
  ·rw[if_neg ad];constructor
   ·rintro(h|h)
    ·exact .inl h
    ·exact .inr ⟨.inr h.1,h.2⟩
   ·rintro(h|⟨rfl|J,U⟩)
    ·exact .inl h
    ·exact absurd U ad
    ·exact .inr ⟨J,U⟩
def Zd{L:List (List Bd)}:∀(xs a:List (List Bd)),(xs.foldl (rP L) a).length<=a.length+xs.length
 |[],a=>by simp
 |y::xs,a=>by
  have J:=Zd (L:=L) xs (rP L a y);have U:(rP L a y).length<=a.length+1:=by
   unfold rP;split
   ·exact N5 _ _
   ·omega
  simp only[List.foldl_cons,mZ];omega
def anl(L:List (List Bd)):lZ L=L.foldl (rP L) []:=Zc (OV L (by simp[iO])) fun x=>by rw[Ze];simp
def zS(L:List (List Bd))(i:Nat)(a:List (List Bd)):Prop:=a=(L.take i).foldl (rP L) []
def zS.step{L:List (List Bd)}{i:Nat}{a:List (List Bd)}(h:zS L i a){e:List Bd}(he:L[i]? =some e):zS L (i+1) (rP L a e):=by rw[zS,nK he,List.foldl_append,h];rfl
def x8(e d:List Bd):Bool:=decide (d=e)|| !oS d e
def rH(L:List (List Bd))(e:List Bd)(j:Nat)(k:Bool):Prop:=k=(L.take j).all (x8 e)
def rH.step{L:List (List Bd)}{e:List Bd}{j:Nat}{k:Bool}(h:rH L e j k){d:List Bd}(a:L[j]? =some d):rH L e (j+1) (k&&x8 e d):=by rw[rH,nK a,List.all_append,h];simp
def Iy(a:List (List Bd))(e:List Bd)(k:Nat):Prop:=k<=a.length/\∀c,a[k]? =some c->0<=fc c e
def Iy.fin{a:List (List Bd)}{e:List Bd}{k:Nat}(h:Iy a e k)(l:iO fc a)(ay:∀d,0<k->a[k-1]? =some d->fc d e<0):kY fc e a=if(match a[k]? with|some y=>decide (fc y e=0)|none=>false)=true then a else a.take k++e::a.drop k:=
 (N4 mT e a k (fun i c hi b=>by
  have ad:=h.1;obtain⟨d,f⟩:∃d,a[k-1]? =some d:=⟨_,ck Ω⟩;have J:=ay d Ω f;rcases Nat.lt_or_ge i (k-1)with U|U
  ·have g:=(fI.1 b);have j:=(fI.1 f);have:=rj.1 l i (k-1) g.1 j.1 U;rw[g.2,j.2]at this;exact mT.ltr this Ω
  ·have:i=k-1:=Ω
   subst this;rw[f]at b;cases b;exact J) h.2 h.1).trans (by cases a[k]?<;>rfl)
def X9(L:List (List Bd))(e:List Bd):jO L e=L.all (x8 e):=rfl
def acj{l:List (List Bd)}{x:List Bd}:x∈qn fc l↔x∈l:=(AA fc l).mem_iff
def ank(l:List (List Bd)):lZ l=(cX none (qn fc l)).filter (jO (qn fc l)):=by have h:jO l=jO (qn fc l):=funext fun e=>amt (fun x=>acj.symm) e;rw[lZ,h];rfl
def mQ(s:List (List Bd))(i:Nat)(acc:List (List Bd)):Prop:=acc++(cX (if i=0 then none else s[i-1]?) (s.drop i)).filter (jO s)=(cX none s).filter (jO s)
def ih:dd:=⟨0,[],[],[],[]⟩
noncomputable def yA(s:dd):dd:=match gU s.b s.k []with
 |none=>ih
 |some k=>match ha s.b s.m []with
  |none=>ih
  |some m=>match hN s.b k (m.filter (ly k)) s.d with
   |none=>ih
   |some L=>⟨s.n,s.b,lZ L,k,m.filter (ly k)⟩
def QD{s b:dd}(h:jk s=some b):yA s=b:=by
 unfold jk at h;unfold yA;cases J:gU s.b s.k []with
 |none=>rw[J]at h;cases h
 |some k=>
  rw[J]at h;simp only at h⊢;cases U:ha s.b s.m []with
  |none=>rw[U]at h;cases h
  |some m=>
   rw[U]at h;simp only at h⊢;cases a:hN s.b k (m.filter (ly k)) s.d with
   |none=>rw[a]at h;cases h
   |some L=>
    rw[a]at h;simp only at h⊢;split at h
    ·cases h;rfl
    ·cases h
def aej{k:List bJ}(ad:jN k)(v:Int):(k7 k (.var v) 2).isSome=(nD k v !=some 3):=by
 unfold k7;simp only;cases h:nD k v with
 |none=>simp
 |some x=>have:=(ad.at' _ (Yh h)).2;simp only at this;rcases this with rfl|rfl<;>simp
def aen{k:List bJ}(a:k.Pairwise fun x y=>x.v<y.v)(v:Int):(k.any fun x=>x.v==v&&x.k==3)=(nD k v==some 3):=by
 rw[rf,List.any_eq_true,eA];constructor
 ·rintro⟨x,b,h⟩;simp only[cO,eA]at h;have:=Oi a b;rw[h.1,h.2]at this;exact this
 ·intro h;exact⟨_,Yh h,Ψ⟩
def OA{b:List Bd}{k:List bJ}{m:List bn}{d:List Bd}{r:List (List Bd)}(h:mgu b (iy d)=none):hN b k m (d::r)=hN b k m r:=by rw[hN,h]
def Oz{b:List Bd}{k:List bJ}{m:List bn}{d x:List Bd}{r:List (List Bd)}(h:mgu b (iy d)=some x)(ad:gU x k []=none\/ha x m []=none):hN b k m (d::r)=hN b k m r:=by rw[hN,h];simp only[if_pos ad]
def Oy{b:List Bd}{k:List bJ}{m:List bn}{d x:List Bd}{r:List (List Bd)}(h:mgu b (iy d)=some x)(ad:¬(gU x k []=none\/ha x m []=none))(a:fp b x=[]):hN b k m (d::r)=none:=by rw[hN,h];simp only[if_neg ad,if_pos a]
def OB{b:List Bd}{k:List bJ}{m:List bn}{d x:List Bd}{r:List (List Bd)}(h:mgu b (iy d)=some x)(ad:¬(gU x k []=none\/ha x m []=none))(a:fp b x≠[]):hN b k m (d::r)=(hN b k m r).map (fp b x:: ·):=by rw[hN,h];simp only[if_neg ad,if_neg a]
def rI(b:List Bd)(k:List bJ)(m:List bn)(aY:List (List Bd))(i:Nat)(a:List (List Bd)):Prop:=a.length<=i/\(∀x∈a,e3 x)/\(hN b k m (aY.drop i)).map (a++ ·)=hN b k m aY
def fu(n:Int):T->Bool
 | .var v=>decide (v<n)
 | .pair a b=>fu n a&&fu n b
 |_=>true
def DA{n:Int}:∀{t:T},fu n t=true↔y3 t n
 | .var v=>by simp[fu,y3,T.occ]
 | .pair a b=>by simp only[fu,cO,DA (t:=a),DA (t:=b),y3,T.occ,oo];exact⟨fun h v c=>c.elim (h.1 v) (h.2 v),fun h=>⟨fun v c=>h v (.inl c),fun v c=>h v (.inr c)⟩⟩
 | .nil=>by simp[fu,y3,T.occ]
 | .sym _=>by simp[fu,y3,T.occ]
 | .num _=>by simp[fu,y3,T.occ]
def lN(n:Int)(b:Bd):Bool:=decide (b.v<n)&&fu n b.t
def xe{n:Int}{s:List Bd}:s.all (lN n)=true↔rp s n:=by simp[j5,lN,rp,DA]
def sT(v m:Int):Int:=if m<v+1 then v+1 else m
def KG{n:Int}:∀(t:T) (m:Int),t.fold sT m<=n↔m<=n/\fu n t=true
 | .var v,m=>by simp only[T.fold,sT,fu,gn];split<;>omega
 | .pair a b,m=>by simp only[T.fold,KG b,KG a,fu,cO,and_assoc]
 | .nil,m=>by simp[T.fold,fu]
 | .sym _,m=>by simp[T.fold,fu]
 | .num _,m=>by simp[T.fold,fu]
def Gj(v m:Int):Option Int:=if 0<=v/\v<=100000 then some (sT v m)else none
def Ro:∀(t:T) (m:Int),t.ok=true->t.foldO Gj m=some (t.fold sT m)
 | .var v,m,h=>by
  have:0<=v/\v<=100000:=by simpa[T.ok]using h
  simp[T.foldO,T.fold,Gj,this]
 | .pair a b,m,h=>by
  have J:a.ok=true/\b.ok=true:=by simpa[T.ok]using h
  simp[T.foldO,T.fold,Ro a m J.1,Ro b _ J.2]
 | .nil,m,_=>rfl
 | .sym _,m,_=>rfl
 | .num _,m,_=>rfl
structure gp where
 n:Int
 b:List Bt
 d:List (List Bt)
 k:List bJ
 m:List bn
def dd.r(s:dd):gp:=⟨s.n,s.b.map Bd.b,s.d.map fun x=>x.map Bd.b,s.k,s.m⟩
def kc(r:gp):Prop:= ∃s:dd,r=s.r/\ug s
def k9(n:Int)(x:List Bt):Prop:= ∃s:List Bd,x=s.map Bd.b/\e3 s/\rp s n
structure P9 (r:gp):Prop where
 n:0<=r.n/\r.n<=100000
 b:k9 r.n r.b
 d:∀x∈r.d,k9 r.n x
 k:jN r.k
 m:iT r.m
 kb:∀x∈r.k,x.v<r.n
 mb:∀x∈r.m,x.v<r.n
def kc.raw{r:gp}(h:kc r):P9 r:=by obtain⟨s,rfl,J,_⟩:=h;exact⟨J.n,⟨s.b,rfl,J.b,J.bb⟩,fun x b=>by obtain⟨y,a,rfl⟩:=hc.1 b;exact⟨y,rfl,J.d y a,J.db y a⟩,J.k,J.m,J.kb,J.mb⟩
def xc:∀{a b:List Bd},a.map Bd.b=b.map Bd.b->a=b
 |[],b,h=>by cases b<;>simp at h⊢
 |x::a,[],h=>by simp at h
 |x::a,y::b,h=>by simp only[gX,r5,Bd.b,Bt.mk.injEq]at h;rw[xc h.2];have:=Q3 h.1.2;obtain⟨⟨J,_⟩,_⟩:=h;cases x;cases y;simp_all
def R6:∀{a b:List (List Bd)},(a.map fun x=>x.map Bd.b)=(b.map fun x=>x.map Bd.b)->a=b
 |[],b,h=>by cases b<;>simp at h⊢
 |x::a,[],h=>by simp at h
 |x::a,y::b,h=>by rw[gX,gX,r5]at h;rw[R6 h.2,xc h.1]
def dd.r_inj{s t:dd}(h:s.r=t.r):s=t:=by obtain⟨n,b,d,k,m⟩:=s;obtain⟨n',b0,g,bs,f⟩:=t;simp only[dd.r,gp.mk.injEq]at h;obtain⟨J,U,c,e,a⟩:=h;rw[J,xc U,R6 c,e,a]
def UK{n:Int}:∀{d:List (List Bt)},(∀x∈d,k9 n x)->∃aY:List (List Bd),d=(aY.map fun x=>x.map Bd.b)/\(∀x∈aY,e3 x)/\∀x∈aY,rp x n
 |[],_=>⟨[],rfl,Ψ,Ψ⟩
 |x::d,h=>by
  obtain⟨aY,J,U,c⟩:=UK (d:=d) fun y a=>h y (by simp[a]);obtain⟨s,e,f,b⟩:=h x Ψ;refine⟨s::aY,by rw[J,e];rfl,fun y a=>?_,fun y a=>?_⟩
  ·rcases gJ.1 a with rfl|a
   ·exact f
   ·exact U y a
  ·rcases gJ.1 a with rfl|a
   ·exact b
   ·exact c y a
def acm{s:dd}(h:pD s):kc s.r↔jk s=some s:=by
 constructor
 ·rintro⟨t,e,_,U⟩;rw[dd.r_inj e];exact U
 ·intro U;exact⟨s,rfl,h,U⟩
def yE{l:List Bt}:KY l↔∃s:List Bd,l=s.map Bd.b/\e3 s:=⟨fun⟨s,J,U,a,b⟩=>⟨s,J,U,a,b⟩,fun⟨s,J,U⟩=>⟨s,J,U.ok,U.sol,U.fits⟩⟩
def ta{α:Type}(a b:List α)(i:Nat)(_:Unit):Prop:= ∀k,k<i->a[k]? =b[k]?
def ta.fin{α:Type}{a b:List α}(h:ta a b b.length ())(c:a.length=b.length):a=b:=by
 apply List.ext_getElem?;intro k;by_cases ad:k<b.length
 ·exact h k ad
 ·rw[rh Ω,rh Ω]
def ta.step{α:Type}{a b:List α}{i:Nat}(h:ta a b i ()){x:α}(c:a[i]? =some x)(d:b[i]? =some x):ta a b (i+1) ():=fun k ad=>by
 rcases(by omega:k<i\/k=i)with J|rfl
 ·exact h k J
 ·rw[c,d]
def tL{α:Type}(p:α->Prop)(s:List α)(i:Nat)(_:Unit):Prop:= ∀k b,k<i->s[k]? =some b->p b
def tL.step{α:Type}{p:α->Prop}{s:List α}{i:Nat}(h:tL p s i ()){b:α}(d:s[i]? =some b)(a:p b):tL p s (i+1) ():=fun k c ad ay=>by
 rcases(by omega:k<i\/k=i)with J|rfl
 ·exact h k c J ay
 ·rw[d]at ay;cases ay;exact a
def tL.fin{α:Type}{p:α->Prop}{s:List α}(h:tL p s s.length ()):∀b∈s,p b:=fun b a=>by obtain⟨k,ad,e⟩:=pM a;exact h k b ad (by rw[ck ad,e])
def St:C:=(aa [bu 2 false] (.seq (aa [I 5 0,cx 6 5,bM 7 0] (gz 8 7 6 (.seq (.block 1 (aa [I 9 7,cl 10 2 5 7,bf 11 2 10,ds (.alloc 4 none (.agg [.int .i64 0,.int .i64 0])),I 3 9,bV 2 4 11] (.seq (.drawn true 46 [aF 12 0 1 4,az 13 1 12,aV 14 .lss 13 0,I 15 14,ax 15 false (aF 16 0 1 4),ax 15 false (az 17 1 16),ax 15 false (aV 18 .gtr 17 100000),dq 19 15 18,I 20 19,ax 20 false (aF 21 1 1 4),ax 20 false (az 22 1 21),ax 20 false (aV 23 .neq 22 2),cg 20 false 24 23,ax 24 true (aF 25 1 1 4),ax 24 true (az 26 1 25),ax 24 true (aV 27 .neq 26 3),ax 20 false (ej 28 24 27),dq 29 20 28,I 30 29,cg 30 false 31 3,ax 30 false (aV 32 .gtr 31 0),cg 30 false 33 32,cg 33 true 34 0,cg 33 true 35 3,ax 33 true (aV 36 .sub 35 1),ax 33 true (cl 37 2 34 36),ax 33 true (aF 38 0 1 37),ax 33 true (az 39 1 38),ax 33 true (aF 40 0 1 4),ax 33 true (az 41 1 40),ax 33 true (bt 42 .geq 39 41),ax 30 false (ej 43 33 42),dq 44 30 43]) (aW 44 (aa [bu 2 false] .ret) .skip)))) (.region [aV 45 .add 7 1,I 7 45])))) (aa [bu 2 true] .ret)))
def Su:C:=(aa [bu 2 false] (.seq (aa [I 5 0,cx 6 5,bM 7 0] (gz 8 7 6 (.seq (.block 1 (aa [I 9 7,cl 10 2 5 7,bf 11 2 10,ds (.alloc 4 none (.agg [.int .i64 0,.str []])),I 3 9,bV 2 4 11] (.seq (.drawn true 41 [aF 12 0 1 4,az 13 1 12,aV 14 .lss 13 0,I 15 14,ax 15 false (aF 16 0 1 4),ax 15 false (az 17 1 16),ax 15 false (aV 18 .gtr 17 100000),dq 19 15 18,I 20 19,ax 20 false (aF 21 1 1 4),ax 20 false (az 22 1 21),ax 20 false (cQ 23 160 22),ax 20 false (cK 24 23),dq 25 20 24,I 26 25,cg 26 false 27 3,ax 26 false (aV 28 .gtr 27 0),cg 26 false 29 28,cg 29 true 30 0,cg 29 true 31 3,ax 29 true (aV 32 .sub 31 1),ax 29 true (cl 33 2 30 32),ax 29 true (bf 34 2 33),ax 29 true (bf 35 2 4),ax 29 true (b8 36 161 34 35),ax 29 true (cK 37 36),ax 26 false (ej 38 29 37),dq 39 26 38]) (aW 39 (aa [bu 2 false] .ret) .skip)))) (.region [aV 40 .add 7 1,I 7 40])))) (aa [bu 2 true] .ret)))
def A0:C:=(aa [cU 6 2,eY 8 2,bu 9 false] (.seq (aa [I 15 0,cQ 16 86 15,cK 17 16,I 18 17,ax 18 false (bf 19 4 6),ax 18 false (cQ 20 64 19),ax 18 false (cK 21 20),dq 22 18 21,I 23 22,cg 23 false 24 1,ax 23 false (cQ 25 87 24),ax 23 false (cK 26 25),dq 27 23 26,I 28 27,cg 28 false 29 3,ax 28 false (aV 30 .neq 29 2),cg 28 false 31 30,cg 31 true 32 3,ax 31 true (aV 33 .neq 32 3),ax 28 false (ej 34 31 33),dq 35 28 34] (aW 35 (aa [eY 8 2,bu 9 false] .ret) .skip)) (aa [I 37 0,bf 38 4 6,b8 39 69 37 38,I 36 39,cS 40 0 36,cS 41 1 36,dF 10 eB,bV 4 10 40,I 11 41] (.seq (aa [I 42 11,cK 43 42] (aW 43 (aa [eY 8 2,bu 9 false] .ret) .skip)) (aa [ds (.bslm 44 (some 803) 2 98 []),I 45 1,ds (.appm 46 none 2 98 (.t 44) (.t 45)),ds (.alloc 12 (some 804) (.slice 2 .nil [])),bV 1 12 46] (.seq (aa [aF 47 0 1 10,az 48 1 47,aV 49 .neq 48 1] (aW 49 (.seq (aa [aF 50 0 1 10,az 51 1 50,I 52 3,bt 53 .neq 51 52] (aW 53 (aa [eY 8 2,bu 9 false] .ret) .skip)) (.seq (.pubB 12 (.region [az 54 1 12,I 8 54,bu 9 true])) .ret)) .skip)) (.seq (aa [I 55 1,cx 56 55,bM 57 0] (gz 58 57 56 (.seq (.block 1 (aa [cl 59 2 55 57,bf 60 2 59,ds (.alloc 14 none (.agg [.int .i64 0,.int .i64 0])),bV 2 14 60] (aa [aF 61 0 1 14,az 62 1 61,aF 63 1 1 10,az 64 1 63,bt 65 .eql 62 64] (aW 65 (.seq (aa [aF 66 1 1 14,az 67 1 66,I 68 3,bt 69 .neq 67 68] (aW 69 (aa [eY 8 2,bu 9 false] .ret) .skip)) (.seq (.pubB 12 (.region [az 70 1 12,I 8 70,bu 9 true])) .ret)) .skip)))) (.region [aV 71 .add 57 1,I 57 71])))) (aa [az 72 1 12,aF 73 1 1 10,az 74 1 73,I 75 3,cf 76 (.build [.int .i64 0,.int .i64 0] [(0,1,(.t 74)),(1,1,(.t 75))]),eX 77 2 98 [.t 76],ds (.appm 78 none 2 98 (.t 72) (.t 77)),bV 1 12 78] (aa [az 79 1 12,cf 80 (.mkif 48 (.t 79)),cf 81 (.mkf 183 [.t 12]),b8 82 182 80 81] (.seq (.pubB 12 (.region [az 83 1 12,I 8 83,bu 9 true])) .ret))))))))))
def GN:C:=(aa [cU 6 2,ds (.box 7 (some 811) (.t 3)),eY 8 2,bu 9 false] (.seq (aa [I 17 0,cQ 18 86 17,cK 19 18,I 20 19,ax 20 false (bf 21 4 6),ax 20 false (cQ 22 64 21),ax 20 false (cK 23 22),dq 24 20 23,I 25 24,cg 25 false 26 1,ax 25 false (cQ 27 88 26),ax 25 false (cK 28 27),dq 29 25 28,I 30 29,ax 30 false (az 31 1 7),ax 30 false (cQ 32 160 31),ax 30 false (cK 33 32),dq 34 30 33] (aW 34 (aa [eY 8 2,bu 9 false] .ret) .skip)) (aa [I 36 0,bf 37 4 6,b8 38 69 36 37,I 35 38,cS 39 0 35,cS 40 1 35,dF 10 eB,bV 4 10 39,I 11 40] (.seq (aa [I 41 11,cK 42 41,I 43 42,ax 43 false (bf 44 4 10),ax 43 false (az 45 1 7),ax 43 false (b8 46 177 44 45),dq 47 43 46] (aW 47 (aa [eY 8 2,bu 9 false] .ret) .skip)) (aa [ds (.mkmap 48 (some 812)),ds (.alloc 12 (some 813) (.junk)),bV 1 12 48] (.seq (aa [I 49 1,cx 50 49,bM 51 0] (gz 52 51 50 (.seq (.block 1 (aa [cl 53 2 49 51,bf 54 2 53,ds (.alloc 14 none (.agg [.int .i64 0,.str []])),bV 2 14 54] (.region [az 55 1 12,bf 56 2 14,ds (.mput (.a [false,true]) (.t 55) (.t 56) (.c (.bool true)))]))) (.region [aV 57 .add 51 1,I 51 57])))) (aa [bf 58 4 10,cf 59 (.mkf 184 [.t 12,.t 7]),b8 60 134 58 59] (aa [ds (.bslm 61 (some 814) 2 100 []),ds (.alloc 15 (some 815) (.slice 2 .nil [])),bV 1 15 61] (.seq (aa [az 62 1 12,ds (.range 63 none (.t 62))] (.block 2 (.loop (aa [⟨none,.next 64 (.t 63)⟩,cS 65 0 64] (.seq (aW 65 .skip (.exit 2)) (.block 3 (aa [cf 66 (.ment (.t 63)),cS 67 0 66,ds (.alloc 16 none (.agg [.int .i64 0,.str []])),bV 2 16 67] (.region [az 68 1 15,bf 69 2 16,eX 70 2 100 [.t 69],ds (.appm 71 none 2 100 (.t 68) (.t 70)),bV 1 15 71])))))))) (aa [az 72 1 15,cf 73 (.mkif 49 (.t 72)),cf 74 (.mkf 185 [.t 15]),b8 75 182 73 74] (.seq (.pubB 15 (.region [az 76 1 15,I 8 76,bu 9 true])) .ret)))))))))))
def GO:C:=(aa [cU 2 0,cU 3 1,bu 4 false] (aa [aF 5 0 1 2,az 6 1 5,aF 7 0 1 3,az 8 1 7,bt 9 .lss 6 8,I 10 9,ax 10 false (aF 11 0 1 2),ax 10 false (az 12 1 11),ax 10 false (aF 13 0 1 3),ax 10 false (az 14 1 13),ax 10 false (bt 15 .eql 12 14),cg 10 false 16 15,ax 16 true (aF 17 1 1 2),ax 16 true (az 18 1 17),ax 16 true (aF 19 1 1 3),ax 16 true (az 20 1 19),ax 16 true (bt 21 .lss 18 20),ax 10 false (ej 22 16 21),dq 23 10 22,I 4 23] .ret))
def GR:C:=(aa [cU 2 0,bu 4 false] (.seq (aa [aF 5 0 1 2,az 6 1 5,aV 7 .eql 6 4] (aW 7 (aa [aF 8 3 1 2,az 9 1 8,kD 10 4 9 0,bf 11 4 10,I 12 1,b8 13 177 11 12,I 14 13,ax 14 false (aF 15 3 1 2),ax 14 false (az 16 1 15),ax 14 false (kD 17 4 16 1),ax 14 false (bf 18 4 17),cg 14 false 19 1,ax 14 false (b8 20 177 18 19),dq 21 14 20,I 4 21] .ret) .skip)) (aa [aF 22 0 1 2,az 23 1 22,aV 24 .eql 23 2,I 25 24,ax 25 true (aF 26 2 1 2),ax 25 true (az 27 1 26),cg 25 true 28 1,ax 25 true (bt 29 .eql 27 28),ej 30 25 29,I 4 30] .ret)))
def Sq:C:=(aa [bu 5 false] (.seq (.drawn true 17 [az 6 1 2,I 7 0,cl 8 2 6 7,aF 9 0 1 8,az 10 1 9,az 11 1 2,I 12 1,cl 13 2 11 12,aF 14 0 1 13,az 15 1 14,bt 16 .lss 10 15,I 5 16]) .ret))
def Sn:C:=(.region [az 4 1 1,I 5 0,az 6 1 2,cf 7 (.build [.int .i64 0,.str []] [(0,1,(.t 5)),(1,1,(.t 6))]),ds (.mput (.a [false,true]) (.t 4) (.t 7) (.c (.bool true)))])
def Sp:C:=(aa [bu 5 false] (.seq (.drawn true 15 [az 6 1 2,I 7 0,cl 8 2 6 7,bf 9 2 8,az 10 1 2,I 11 1,cl 12 2 10 11,bf 13 2 12,b8 14 161 9 13,I 5 14]) .ret))
def anZ:b2 aS St [.tmp 2] 1 Tryz.f87=true:=bi
def an0:b2 aS Su [.tmp 2] 1 Tryz.f88=true:=bi
def Fp:b2 aS A0 [.tmp 8,.tmp 9] 4 Tryz.f118=true:=bi
def Pj:b2 aS GN [.tmp 8,.tmp 9] 4 Tryz.f120=true:=bi
def Pk:b2 aS GO [.tmp 4] 2 Tryz.f161=true:=bi
def Pn:b2 aS GR [.tmp 4] 2 Tryz.f177=true:=bi
def anW:b2 aS Sq [.tmp 5] 3 Tryz.f183=true:=bi
def anU:b2 aS Sn [] 3 Tryz.f184=true:=bi
def anV:b2 aS Sp [.tmp 5] 3 Tryz.f185=true:=bi
def nC(x:bJ):Prop:=(0<=x.v/\x.v<=100000)/\(x.k=2\/x.k=3)
def oQ(x y:bJ):Prop:=x.v<y.v
def IE{l:List bJ}:jN l↔∀i,i<l.length->jd nC oQ l i:=by rw[RP (p:=nC) (r:=oQ) (fun a b c J U=>by unfold oQ at*;omega)];exact⟨fun h=>⟨h.at',h.asc⟩,fun h=>⟨h.1,h.2⟩⟩
def k0(x:bn):Prop:=(0<=x.v/\x.v<=100000)/\kt x.s=true
def lx(x y:bn):Prop:=gf x y<0
def IZ{l:List bn}:iT l↔∀i,i<l.length->jd k0 lx l i:=by rw[RP (p:=k0) (r:=lx) (fun a b c J U=>by unfold lx at*;exact mU.ltr J (Int.le_of_lt U))];exact⟨fun h=>⟨h.at',h.asc⟩,fun h=>⟨h.1,h.2⟩⟩
open Classical in
def ac0(l:List bJ):bT au 87 [b5 (l.map bJ.e)] (.bool (decide (jN l))):=by
 generalize br:decide (jN l)=R;refine bF a6 Tryz.func87 anZ fun q=>?_;unfold St;have s:l.length<=68719476736:=by simp[eK,eU,eM,lim]at q;omega
 simp;refine e1 [0,5,6] (fun i (_:Unit)=>[(7,aj i)]) l.length (fun i _=> ∀j,j<i->jd nC oQ l j) () cb (fun k ad=>Ω) (fun _ f _=>?_) (fun i _ hi f _=>?_)
 ·have:R=true:=by rw[<-br,gn,IE];exact f
  rw[this];exact cn
 ·obtain⟨b,a⟩:∃b,l[i]? =some b:=⟨_,ck hi⟩;obtain⟨c,ay⟩:∃c,l[i-1]? =some c:=⟨_,ck Ω⟩;have m:∀h,(l[i]'h)=b:=fun h=>by rw[ck hi]at a;exact eZ a
  have o:¬jd nC oQ l i->R=false:=fun h=>by rw[<-br,iN];exact fun d=>h (IE.1 d i hi)
  have dx:jd nC oQ l i->∀j,j<i+1->jd nC oQ l j:=fun h j r=>by
   by_cases e:j=i
   ·rw[e];exact h
   ·exact f j Ω
  simp[hi,m,ay];((repeat' first|refine al ?_|simp[m,ay,hi]|((first|apply cq|apply cu|apply ct)<;>intro h<;>try simp at h))<;>(try exact c0));all_goals first
   |(have p:¬jd nC oQ l i:=by(intro d;have J:=d b a;have U:=J.2 c;have v:=J.1;unfold nC oQ at*;first|omega|(have w:=U Ω ay;omega)|(simp_all;done)|(simp_all;omega))
     rw[o p]
     simp[bZ,ba,be,a1]
     done)
   |(refine bX.rng () hi (dx fun b0 n=>?_) ?_
     ·rw[a]at n;cases n
      refine⟨?_,fun t u g=>?_⟩
      ·unfold nC;first|(simp_all;done)|(simp_all;omega)
      ·rw[ay]at g;cases g;unfold oQ;simp_all
     ·exact cb)
def Db(a b:bn):bT au 161 [a.e,b.e] (.bool (iL gf a b)):=by
 rw[<-Zt];have br:vj a b=(decide (a.v<b.v)||(a.v==b.v&&iu a.s b.s)):=rfl;rcases Int.lt_trichotomy a.v b.v with h|h|h
 ·have:vj a b=true:=by rw[br];simp[h]
  rw[this];refine bF a6 Tryz.func161 Pk fun c=>?_;unfold GO;exact cn
 ·have J:¬a.v<b.v:=Ω
  have U:(a.v==b.v)=true:=by simp[h]
  have:vj a b=iu a.s b.s:=by rw[br];simp[h]
  rw[this];refine bF a6 Tryz.func161 Pk fun c=>?_;unfold GO;exact cn
 ·have J:¬a.v<b.v:=Ω
  have U:¬a.v=b.v:=Ω
  have d:(a.v==b.v)=false:=by simp[U]
  have:vj a b=false:=by rw[br];simp[J,U]
  rw[this];refine bF a6 Tryz.func161 Pk fun c=>?_;unfold GO;exact cn
open Classical in
def ac2(l:List bn):bT au 88 [b5 (l.map bn.e)] (.bool (decide (iT l))):=by
 generalize br:decide (iT l)=R;refine bF a6 Tryz.func88 an0 fun v=>?_;unfold Su;have x:l.length<=68719476736:=by simp[eK,eU,eM,lim]at v;omega
 simp;refine e1 [0,5,6] (fun i (_:Unit)=>[(7,aj i)]) l.length (fun i _=> ∀j,j<i->jd k0 lx l j) () cb (fun k ad=>Ω) (fun _ o _=>?_) (fun i _ hi o _=>?_)
 ·have:R=true:=by rw[<-br,gn,IZ];exact o
  rw[this];exact cn
 ·obtain⟨b,d⟩:∃b,l[i]? =some b:=⟨_,ck hi⟩;obtain⟨c,ay⟩:∃c,l[i-1]? =some c:=⟨_,ck Ω⟩;have a:∀h,(l[i]'h)=b:=fun h=>by rw[ck hi]at d;exact eZ d
  have s:¬jd k0 lx l i->R=false:=fun h=>by rw[<-br,iN];exact fun t=>h (IZ.1 t i hi)
  have dx:jd k0 lx l i->∀j,j<i+1->jd k0 lx l j:=fun h j w=>by
   by_cases e:j=i
   ·rw[e];exact h
   ·exact o j Ω
  have g:∀p:Prop,(p->eb)->(jd k0 lx l i->p)->R=false:=fun p J U=>s fun h=>J (U h);have f:jd k0 lx l i->k0 b:=fun h=>(h b d).1;have u:jd k0 lx l i->0<i->iL gf c b=true:=fun h n=>by simpa[iL,lx]using(h b d).2 c n ay
  have m:k0 b->(0<i->iL gf c b=true)->jd k0 lx l i:=fun J U b0 r=>by rw[d]at r;cases r;exact⟨J,fun y n q=>by rw[ay]at q;cases q;simpa[iL,lx]using U n⟩
  unfold k0 at f m;by_cases g1:b.v<0
  ·rw[g _ (fun h=>Ω) (fun h=>(f h).1.1)];exact cn
  by_cases g2:100000<b.v
  ·rw[g _ (fun h=>Ω) (fun h=>(f h).1.2)];exact cn
  cases g3:kt b.s
  ·rw[g _ (fun h=>by rw[h]at g3;cases g3) (fun h=>(f h).2)];simp[hi,a,ay];(repeat' first|refine al ?_|refine aO (vu _) ?_|refine aP (vu _) ?_|simp[a,ay,hi,g1,g2,g3]);simp[bZ,ba,be,a1]
  by_cases g4:0<i
  ·cases g5:iL gf c b
   ·rw[g _ (fun h=>by rw[h]at g5;cases g5) (fun h=>u h g4)];simp[hi,a,ay];(repeat' first|refine al ?_|refine aO (vu _) ?_|refine aP (vu _) ?_|refine aO (Db _ _) ?_|refine aP (Db _ _) ?_|simp[a,ay,hi,g1,g2,g3,g4,g5]);simp[bZ,ba,be,a1]
   ·simp[hi,a,ay];(repeat' first|refine al ?_|refine aO (vu _) ?_|refine aP (vu _) ?_|refine aO (Db _ _) ?_|refine aP (Db _ _) ?_|simp[a,ay,hi,g1,g2,g3,g4,g5]);exact bX.rng () hi (dx (m ⟨⟨Ω,Ω⟩,g3⟩ fun _=>g5)) cb
  ·obtain rfl:i=0:=Ω
   simp[hi,a,ay];(repeat' first|refine al ?_|refine aO (vu _) ?_|refine aP (vu _) ?_|simp[a,ay,hi,g1,g2,g3,g4]);exact bX.rng () hi (dx (m ⟨⟨Ω,Ω⟩,g3⟩ fun h=>Ω)) cb
def asP(s:List cV):∀t:T,bT au 177 [t.e,.str s] (.bool (t.has s)):=by
 intro t;induction t with
 |pair a b d c=>
  refine bF a6 Tryz.func177 Pn fun g=>?_;unfold GR;simp;cases e:a.has s<;>cases f:b.has s<;>rw[e]at d<;>rw[f]at c;all_goals(repeat' first|refine al ?_|refine aO d ?_|refine aP d ?_|refine aO c ?_|refine aP c ?_|simp)
  all_goals simp[bZ,ba,be,a1]
  all_goals simp[T.has,e,f]
 |sym n=>
  refine bF a6 Tryz.func177 Pn fun g=>?_;unfold GR;simp;(repeat' first|refine al ?_|simp);all_goals simp[bZ,ba,be,a1]
  all_goals simp[T.has]
 |_=>
  refine bF a6 Tryz.func177 Pn fun g=>?_;unfold GR;simp;(repeat' first|refine al ?_|simp);all_goals simp[bZ,ba,be,a1]
  all_goals simp[T.has]
def TO:C:=(aa [cU 2 0] (aa [bM 4 20] (aa [I 8 4,bM 5 0,I 6 8] (.seq (.block 0 (.loop (.seq (aa [I 9 6,I 10 1,bt 11 .leq 9 10] (aW 11 .skip (.exit 0))) (.block 1 (aa [bf 12 2 2,I 13 5,I 14 6,dN 15 231 [.t 12,.t 13,.t 14]] (aa [I 16 6,I 5 16] (.region [I 17 6,I 18 4,bt 19 .add 17 18,I 6 19]))))))) (aa [bf 20 2 2,I 21 5,I 22 1,dN 23 231 [.t 20,.t 21,.t 22]] (.block 2 (.loop (.seq (aa [I 24 4,I 25 1,bt 26 .lss 24 25] (aW 26 .skip (.exit 2))) (.block 3 (aa [I 27 4,cf 28 (.bin .mul false (gV 2) (.t 27)),bM 5 0,I 6 28] (.seq (.block 4 (.loop (.seq (aa [I 29 6,I 30 1,bt 31 .leq 29 30] (aW 31 .skip (.exit 4))) (.block 5 (aa [bf 32 2 2,I 33 5,I 34 5,I 35 4,bt 36 .add 34 35,I 37 6,dN 38 232 [.t 32,.t 33,.t 36,.t 37]] (aa [I 39 6,I 5 39] (.region [I 40 6,I 41 4,cf 42 (.bin .mul false (gV 2) (.t 41)),bt 43 .add 40 42,I 6 43]))))))) (.seq (aa [I 44 5,I 45 4,bt 46 .add 44 45,I 7 46] (aa [I 47 7,I 48 1,bt 49 .lss 47 48] (aW 49 (.region [bf 50 2 2,I 51 5,I 52 7,I 53 1,dN 54 232 [.t 50,.t 51,.t 52,.t 53]]) .skip))) (.region [I 55 4,aV 56 .mul 55 2,I 4 56])))))))))))))
def LK:C:=(aa [cU 3 0] (aa [I 8 1,aV 9 .add 8 1,I 6 9] (.block 0 (.loop (.seq (aa [I 10 6,I 11 2,bt 12 .lss 10 11] (aW 12 .skip (.exit 0))) (.seq (.block 1 (aa [I 15 6,I 7 15] (.block 2 (.loop (.seq (aa [I 16 7,I 17 1,bt 18 .gtr 16 17,I 19 18,ax 19 true (aF 20 0 1 3),ax 19 true (az 21 1 20),cg 19 true 22 7,cg 19 true 23 7,ax 19 true (aV 24 .sub 23 1),ax 19 true (hI 25 21 [.t 22,.t 24]),ej 26 19 25] (aW 26 .skip (.exit 2))) (.seq (.block 3 (.region [aF 29 1 1 3,az 30 1 29,I 31 7,I 32 7,aV 33 .sub 32 1,hI 34 30 [.t 31,.t 33]])) (.region [I 27 7,aV 28 .sub 27 1,I 7 28]))))))) (.region [I 13 6,aV 14 .add 13 1,I 6 14])))))))
def GY:C:=(aa [I 164 16,I 165 22,bt 166 .lss 164 165,I 167 166,cg 167 true 168 22,cg 167 true 169 3,ax 167 true (bt 170 .lss 168 169),ej 171 167 170] (aW 171 (.region [bf 172 2 4,I 173 16,I 174 22,I 175 3,dN 176 232 [.t 172,.t 173,.t 174,.t 175]]) .skip))
def GZ:C:=(.seq (aa [I 151 1,I 152 18,bt 153 .lss 151 152,I 154 153,cg 154 true 155 18,cg 154 true 156 16,ax 154 true (bt 157 .lss 155 156),ej 158 154 157] (aW 158 (.region [bf 159 2 4,I 160 1,I 161 18,I 162 16,dN 163 232 [.t 159,.t 160,.t 161,.t 162]]) .skip)) GY)
def LO:C:=(.seq (aa [I 138 18,I 139 2,bt 140 .lss 138 139,I 141 140,cg 141 true 142 2,cg 141 true 143 22,ax 141 true (bt 144 .lss 142 143),ej 145 141 144] (aW 145 (.region [bf 146 2 4,I 147 18,I 148 2,I 149 22,dN 150 251 [.t 146,.t 147,.t 148,.t 149]]) .skip)) GZ)
def LP:C:=(aa [I 113 17,aV 114 .sub 113 1,I 20 114] (.seq (.block 8 (.loop (.seq (aa [I 115 18,I 116 19,bt 117 .lss 115 116] (aW 117 .skip (.exit 8))) (.block 9 (aa [I 118 18,I 119 19,bt 120 .add 118 119,cf 121 (.conv .u64 (.t 120)),cf 122 (.bin .shr false (.t 121) (.c (.int .u64 1))),cf 123 (.conv .i64 (.t 122)),I 21 123] (aa [aF 124 0 1 4,az 125 1 124,I 126 20,I 127 21,bt 128 .sub 126 127,I 129 21,hI 130 125 [.t 128,.t 129],cK 131 130] (aW 131 (.region [I 132 21,aV 133 .add 132 1,I 18 133]) (.region [I 134 21,I 19 134])))))))) (aa [I 135 17,I 136 18,bt 137 .sub 135 136,I 22 137] LO)))
def TQ:C:=(aa [cU 4 0] (.seq (aa [I 23 2,I 24 1,bt 25 .sub 23 24,aV 26 .eql 25 1] (aW 26 (aa [I 27 2,I 8 27] (aa [I 28 3,I 9 28] (.seq (.block 0 (.loop (.seq (aa [I 29 8,I 30 9,bt 31 .lss 29 30] (aW 31 .skip (.exit 0))) (.block 1 (aa [I 32 8,I 33 9,bt 34 .add 32 33,cf 35 (.conv .u64 (.t 34)),cf 36 (.bin .shr false (.t 35) (.c (.int .u64 1))),cf 37 (.conv .i64 (.t 36)),I 10 37] (aa [aF 38 0 1 4,az 39 1 38,I 40 10,I 41 1,hI 42 39 [.t 40,.t 41]] (aW 42 (.region [I 43 10,aV 44 .add 43 1,I 8 44]) (.region [I 45 10,I 9 45])))))))) (.seq (aa [I 46 1,I 11 46] (.block 2 (.loop (.seq (aa [I 47 11,I 48 8,aV 49 .sub 48 1,bt 50 .lss 47 49] (aW 50 .skip (.exit 2))) (.seq (.block 3 (.region [aF 53 1 1 4,az 54 1 53,I 55 11,I 56 11,aV 57 .add 56 1,hI 58 54 [.t 55,.t 57]])) (.region [I 51 11,aV 52 .add 51 1,I 11 52])))))) .ret)))) .skip)) (.seq (aa [I 59 3,I 60 2,bt 61 .sub 59 60,aV 62 .eql 61 1] (aW 62 (aa [I 63 1,I 12 63] (aa [I 64 2,I 13 64] (.seq (.block 4 (.loop (.seq (aa [I 65 12,I 66 13,bt 67 .lss 65 66] (aW 67 .skip (.exit 4))) (.block 5 (aa [I 68 12,I 69 13,bt 70 .add 68 69,cf 71 (.conv .u64 (.t 70)),cf 72 (.bin .shr false (.t 71) (.c (.int .u64 1))),cf 73 (.conv .i64 (.t 72)),I 14 73] (aa [aF 74 0 1 4,az 75 1 74,I 76 2,I 77 14,hI 78 75 [.t 76,.t 77],cK 79 78] (aW 79 (.region [I 80 14,aV 81 .add 80 1,I 12 81]) (.region [I 82 14,I 13 82])))))))) (.seq (aa [I 83 2,I 15 83] (.block 6 (.loop (.seq (aa [I 84 15,I 85 12,bt 86 .gtr 84 85] (aW 86 .skip (.exit 6))) (.seq (.block 7 (.region [aF 89 1 1 4,az 90 1 89,I 91 15,I 92 15,aV 93 .sub 92 1,hI 94 90 [.t 91,.t 93]])) (.region [I 87 15,aV 88 .sub 87 1,I 15 88])))))) .ret)))) .skip)) (aa [I 95 1,I 96 3,bt 97 .add 95 96,cf 98 (.conv .u64 (.t 97)),cf 99 (.bin .shr false (.t 98) (.c (.int .u64 1))),cf 100 (.conv .i64 (.t 99)),I 16 100] (aa [I 101 16,I 102 2,bt 103 .add 101 102,I 17 103] (aa [bM 18 0,bM 19 0] (.seq (aa [I 104 2,I 105 16,bt 106 .gtr 104 105] (aW 106 (aa [I 107 17,I 108 3,bt 109 .sub 107 108,I 18 109] (.region [I 110 16,I 19 110])) (aa [I 111 1,I 18 111] (.region [I 112 2,I 19 112])))) LP)))))))
def TM:C:=(aa [cU 4 0] (aa [I 10 2,I 11 1,bt 12 .sub 10 11,I 8 12] (aa [I 13 3,I 14 2,bt 15 .sub 13 14,I 9 15] (.seq (.block 0 (.loop (.seq (aa [I 16 8,I 17 9,bt 18 .neq 16 17] (aW 18 .skip (.exit 0))) (.block 1 (aa [I 19 8,I 20 9,bt 21 .gtr 19 20] (aW 21 (aa [bf 22 2 4,I 23 2,I 24 8,bt 25 .sub 23 24,I 26 2,I 27 9,dN 28 270 [.t 22,.t 25,.t 26,.t 27]] (.region [I 29 8,I 30 9,bt 31 .sub 29 30,I 8 31])) (aa [bf 32 2 4,I 33 2,I 34 8,bt 35 .sub 33 34,I 36 2,I 37 9,bt 38 .add 36 37,I 39 8,bt 40 .sub 38 39,I 41 8,dN 42 270 [.t 32,.t 35,.t 40,.t 41]] (.region [I 43 9,I 44 8,bt 45 .sub 43 44,I 9 45])))))))) (.region [bf 46 2 4,I 47 2,I 48 8,bt 49 .sub 47 48,I 50 2,I 51 8,dN 52 270 [.t 46,.t 49,.t 50,.t 51]])))))
def TP:C:=(aa [cU 4 0] (aa [bM 8 0] (.block 0 (.loop (.seq (aa [I 9 8,I 10 3,bt 11 .lss 9 10] (aW 11 .skip (.exit 0))) (.seq (.block 1 (.region [aF 14 1 1 4,az 15 1 14,I 16 1,I 17 8,bt 18 .add 16 17,I 19 2,I 20 8,bt 21 .add 19 20,hI 22 15 [.t 18,.t 21]])) (.region [I 12 8,aV 13 .add 12 1,I 8 13])))))))
def apg:b2 aS TO [] 2 Tryz.f199=true:=bi
def Z6:b2 aS LK [] 3 Tryz.f231=true:=bi
def api:b2 aS TQ [] 4 Tryz.f232=true:=bi
def ape:b2 aS TM [] 4 Tryz.f251=true:=bi
def aph:b2 aS TP [] 4 Tryz.f270=true:=bi
end
section
open Go Go.Pv
structure fS {α:Type} (S:List α->cT) (n:Nat) (g cr:Nat) (lc ch:List af) (lt:α->α->Bool):Prop where
 ok:∀l,ey (S l)
 same:∀l bh,l.length=n->bh.length=n->Same (S l) (S bh)
 klc:∀l,l.length=n->aH (aM (S l)) lc
 ksc:∀l,l.length=n->aH (aM (S l)) ch
 slc:b9 lc=lc
 ssc:b9 ch=ch
 le:n<=68719476736
 less:∀l,l.length=n->∀(i j:Nat) x y,l[i]? =some x->l[j]? =some y->bE au g (aj i::aj j::lc) (S l) fun r ak=>r= .bool (lt x y)/\ak=S l
 swap:∀l,l.length=n->2<=n->∀i j:Nat,i<n->j<n->bE au cr (aj i::aj j::ch) (S l) fun r ak=>r= .tuple []/\ak=S (ib l i j)
variable {α:Type} {S:List α->cT} {n g cr:Nat} {lc ch:List af} {lt:α->α->Bool}
def fE(g cr:Nat)(lc ch:List af):af:= .agg [.func g lc,.func cr ch]
def MO(H:fS S n g cr lc ch lt)(l:List α)(e:l.length=n)(a b c:Nat)(v:a+c<=b)(u:b+c<=n):
  bE au 270 [fE g cr lc ch,aj a,aj b,aj c] (S l) fun r o=>r= .tuple []/\∃h,o=S h/\hl a (b+c) l h/\∀k,h[k]? =l[uh a b c k]?:=by
 have j:=H.ok l;have d:∀l m,ae (.loc m) (S l).b=none:=fun l=>(H.ok l).obj.1;have hu:∀l m cs,cL (.loc m) cs (S l).b=(S l).b++[(.loc m,cs)]:=fun l m cs=>kO (d l m);have aq:∀m,aB.loc m∉cJ (S l):=kJ j.obj;have hle:=H.le;refine bE.mk mixed a6 Tryz.func270 aph Ψ j.obj fun t s=>?_;unfold TP;simp[fE,hu,aq,c7,d,H.slc,H.ssc];refine fT (fun i (lk:List α)=>⟨[(1,aj a),(2,aj b),(3,aj c),(4,.ptr (.loc 0) 0),(8,aj i)],[(.loc 0,[.func g lc,.func cr ch])]++(S lk).b,(S lk).e,1,cJ (S l)⟩) c (fun i lk=>lk.length=n/\hl a (b+c) l lk/\∀k,lk[k]? =l[uh a b i k]?) l
  (gq.obL j (Same.refl _) dl (by simp[c7,d,aA,aH,Cs (H.klc l e),Cs (H.ksc l e)]) aX aX) ⟨e,.refl _,fun k=>by simp[uh];split<;>(try split)<;>(try rfl)<;>(exfalso;omega)⟩ ?_ ?_
 ·rintro lk ⟨J,U,f⟩ _;simp;refine c6.at (S lk) (.inr rfl) (H.ok lk) (H.same _ _ e J) aX aX ?_;simp[dc,ba,be,a1];exact⟨lk,rfl,U,f⟩
 ·rintro i lk hi ⟨J,U,f⟩ _;have p:((a:Int)+i)=(a+i:Nat):=Ω
  have q:((b:Int)+i)=(b+i:Nat):=Ω
  simp[hi,c7,d,H.ssc];(repeat' first|refine al ?_|simp);rw[p,q];refine CallDo.ob (H.swap lk J Ω (a+i) (b+i) Ω Ω) (H.ok lk) aX aX (by simp[H.ksc lk J]) ?_;rintro r o ⟨rfl,rfl⟩;refine⟨H.same _ _ J (by simp[J]),?_⟩;simp[hH,jy,cH,d];(repeat' first|refine al ?_|simp);refine bX.rng (ib lk (a+i) (b+i)) hi ⟨by simp[J],.step U Ω Ω Ω Ω Ω Ω,fun k=>?_⟩ (gq.obL (L:=[(.loc 0,[.func g lc,.func cr ch])]) (H.ok _) (H.same _ _ e (by simp[J])) dl (by simp[c7,d,aA,aH,Cs (H.klc (ib lk (a+i) (b+i)) (by simp[J])),Cs (H.ksc (ib lk (a+i) (b+i)) (by simp[J]))]) aX aX);rw[Cg _ _ _ _ Ω Ω,f,f,f];have:uh a b (i+1) k=if k=a+i then uh a b i (b+i)else if k=b+i then uh a b i (a+i)else uh a b i k:=by
   simp only[uh];repeat' split
   all_goals omega
  rw[this];split
  ·rfl
  ·split<;>rfl
section
variable (H:fS S n g cr lc ch lt)
include H
theorem fS.loc{l:List α}(m:Nat):ae (.loc m) (S l).b=none:=(H.ok l).obj.1 m
theorem fS.weak{l lk:List α}(b:l.length=n)(ad:lk.length=n){st:bo}{t':List (Nat×af)}(d:∀x∈t',Pv.get x.1 st.t=x.2/\aA (nG (S lk) 1) x.2)(a:ae (.loc 0) st.b=some [.func g lc,.func cr ch])
  (c:∀k cs,ae k (S lk).b=some cs->ae k st.b=some cs) (he:∀k o,ae k (S lk).e=some o->ae k st.e=some o):
  gq (cJ (S l)) st ⟨t',(.loc 0,[.func g lc,.func cr ch])::(S lk).b,(S lk).e,1,cJ (S l)⟩:=
 gq.obL (L:=[(.loc 0,[.func g lc,.func cr ch])]) (H.ok _) (H.same _ _ b ad) d (by simp[a,aA,aH,Cs (H.klc lk ad),Cs (H.ksc lk ad)]) c he
theorem fS.weakC{l lk:List α}(b:l.length=n)(ad:lk.length=n){t t':List (Nat×af)}{q:Nat}{o:List aB}(c:∀x∈t',Pv.get x.1 t=x.2/\aA (nG (S lk) 1) x.2):
  gq (cJ (S l)) ⟨t,(.loc 0,[.func g lc,.func cr ch])::(S lk).b,(S lk).e,q,o⟩ ⟨t',(.loc 0,[.func g lc,.func cr ch])::(S lk).b,(S lk).e,1,cJ (S l)⟩:=
 H.weak b ad c gt (fun k cs a=>by
  cases k with
  |loc m=>rw[H.loc m]at a;cases a
  |obj m=>simpa[ae]using a) (fun _ _ a=>a)
theorem fS.call{lk:List α}(J:lk.length=n){f:Nat}{args:List af}{R:af->List α->Prop}(i:bE au f args (S lk) fun r c=> ∃a,c=S a/\R r a)(br:∀r a,R r a->a.length=n)(ad:aH (aM (S lk)) args){t:List (Nat×af)}{aY:List af}{o:List aB}{d:Option Nat}{K:bo->Prop}
  (h:∀r a,R r a->K ⟨e9 d r t,(.loc 0,aY)::(S a).b,(S a).e,1,o++cJ (S a)⟩):CallDo au f args ⟨t,(.loc 0,aY)::(S lk).b,(S lk).e,1,o⟩ d K:=by
 refine CallDo.ob i (H.ok lk) (fun k cs b=>?_) (fun _ _ b=>b) ad ?_
 ·cases k with
  |loc m=>rw[H.loc m]at b;cases b
  |obj m=>simpa[ae]using b
 ·rintro r c ⟨a,rfl,e⟩;refine⟨H.same _ _ J (br _ _ e),?_⟩;have g:cH (S lk).b ((.loc 0,aY)::(S lk).b)=[(.loc 0,aY)]:=by have:=jy (S lk).b [(aB.loc 0,aY)] (S lk).b;rw[hH]at this;simpa[cH,H.loc]using this
  have j:cH (S lk).e (S lk).e=[]:=hH _;have:=h _ _ e;simp only[g,j];exact this
theorem fS.doSwap{lk:List α}(J:lk.length=n)(i j:Nat)(hi:i<n)(c:j<n)(U:2<=n){t:List (Nat×af)}{aY:List af}{o:List aB}{d:Option Nat}{K:bo->Prop}
  (h:K ⟨e9 d (.tuple []) t,(.loc 0,aY)::(S (ib lk i j)).b,(S (ib lk i j)).e,1,o++cJ (S (ib lk i j))⟩):CallDo au cr (aj i::aj j::ch) ⟨t,(.loc 0,aY)::(S lk).b,(S lk).e,1,o⟩ d K:=
 H.call J (R:=fun r a=>r= .tuple []/\a=ib lk i j) ((H.swap lk J U i j hi c).mono fun r g ⟨b,f⟩=>⟨_,f,b,rfl⟩) (fun r a ⟨_,e⟩=>by rw[e];simp[J]) (by simp[aA,aH,H.ksc lk J]) (by rintro r a ⟨rfl,rfl⟩;exact h)
theorem fS.doLess{lk:List α}(J:lk.length=n)(i j:Nat){x y:α}(hi:lk[i]? =some x)(c:lk[j]? =some y){t:List (Nat×af)}{aY:List af}{o:List aB}{d:Option Nat}{K:bo->Prop}
  (h:K ⟨e9 d (.bool (lt x y)) t,(.loc 0,aY)::(S lk).b,(S lk).e,1,o++cJ (S lk)⟩):CallDo au g (aj i::aj j::lc) ⟨t,(.loc 0,aY)::(S lk).b,(S lk).e,1,o⟩ d K:=
 H.call J (R:=fun r a=>r= .bool (lt x y)/\a=lk) ((H.less lk J i j x y hi c).mono fun r k ⟨b,f⟩=>⟨_,f,b,rfl⟩) (fun r a ⟨_,e⟩=>by rw[e];exact J) (by simp[aA,aH,H.klc lk J]) (by rintro r a ⟨rfl,rfl⟩;exact h)
theorem fS.doFn{lk:List α}(J:lk.length=n){f:Nat}{args:List af}{R:List α->Prop}(i:bE au f args (S lk) fun r b=>r= .tuple []/\∃a,b=S a/\R a)(br:∀a,R a->a.length=n)(ad:aH (aM (S lk)) args){t:List (Nat×af)}{aY:List af}{o:List aB}{d:Option Nat}{K:bo->Prop}
  (h:∀a,R a->K ⟨e9 d (.tuple []) t,(.loc 0,aY)::(S a).b,(S a).e,1,o++cJ (S a)⟩):CallDo au f args ⟨t,(.loc 0,aY)::(S lk).b,(S lk).e,1,o⟩ d K:=
 H.call J (R:=fun r a=>r= .tuple []/\R a) (i.mono fun r b ⟨e,a,j,c⟩=>⟨a,j,e,c⟩) (fun r a h=>br a h.2) ad (by rintro r a ⟨rfl,g⟩;exact h a g)
theorem fS.kdata{lk:List α}(J:lk.length=n):aA (aM (S lk)) (fE g cr lc ch):=by simp[fE,aA,aH,H.klc lk J,H.ksc lk J]
theorem fS.ret{l lk:List α}(c:l.length=n)(J:lk.length=n){Q:af->cT->Prop}{e:Exit}(he:e= .ret\/e= .normal){t:List (Nat×af)}{aY:List af}{q:Nat}{o:List aB}(b:Q (.tuple []) (S lk)):c6 [] (S l) Q e ⟨t,(.loc 0,aY)::(S lk).b,(S lk).e,q,o⟩:=by
 refine c6.at (S lk) he (H.ok lk) (H.same _ _ c J) (fun k cs a=>?_) (fun _ _ a=>a) ?_
 ·cases k with
  |loc m=>rw[H.loc m]at a;cases a
  |obj m=>simpa[ae]using a
 ·simp[dc,ba,a1,aA,aH,b]
end
def jl(H:fS S n g cr lc ch lt):b3 (fE g cr lc ch)=fE g cr lc ch:=by simp[fE,b3,b9,H.slc,H.ssc]
def je:af.agg [.func g lc,.func cr ch]=fE g cr lc ch:=rfl
def ajM(H:fS S n g cr lc ch lt)(l:List α)(f:l.length=n)(a m b:Nat)(G:a<m)(A:m<b)(E:b<=n):
  bE au 251 [fE g cr lc ch,aj a,aj m,aj b] (S l) fun r y=>r= .tuple []/\∃c,y=S c/\hl a b l c/\∀k,c[k]? =l[iV a m b k]?:=by
 have u:=H.ok l;have q:∀l m,ae (.loc m) (S l).b=none:=fun l=>(H.ok l).obj.1;have hu:∀l m cs,cL (.loc m) cs (S l).b=(S l).b++[(.loc m,cs)]:=fun l m cs=>kO (q l m);have aq:∀m,aB.loc m∉cJ (S l):=kJ u.obj;have hle:=H.le;refine bE.mk mixed a6 Tryz.func251 ape Ψ u.obj fun F B=>?_;unfold TM;simp[fE,hu,aq,c7,q];(repeat' first|refine al ?_|simp[hu,aq,c7,q]);refine pe (fun(x:(Nat×Nat)×List α)=>⟨[(2,aj m),(4,.ptr (.loc 0) 0),(8,aj x.1.1),(9,aj x.1.2)],(.loc 0,[.func g lc,.func cr ch])::(S x.2).b,(S x.2).e,1,cJ (S l)⟩) (fun x=>x.1.1+x.1.2)
  (fun x=>x.2.length=n/\0<x.1.1/\0<x.1.2/\a+x.1.1<=m/\m+x.1.2<=b/\hl a b l x.2/\∀k,l[iV a m b k]? =x.2[iV (m-x.1.1) m (m+x.1.2) k]?) ((m-a,b-m),l)
  (H.weak f f mW (by simp[c7,q]) aX aX) ⟨f,by simp;omega,by simp;omega,by simp;omega,by simp;omega,.refl _,fun k=>by simp[show m-(m-a)=a by omega,show m+(b-m)=b by omega]⟩ ?_
 rintro⟨⟨i,j⟩,lk⟩ ⟨J,hi,v,t,w,U,s⟩ _;simp only at J hi v t w U s;simp[ae];((repeat' first|refine al ?_|simp[ae]|((first|apply cq|apply cu|apply ct)<;>intro h<;>try simp at h))<;>(try exact c0))
 ·have p:((m:Int)-i)=(m-i:Nat):=Ω
  simp only[jl H,H.slc,H.ssc,p,je];refine H.doFn J (MO H lk J (m-i) m j Ω Ω) (fun c h=>by rw[h.1.length];exact J) (by simp[aH,aA,H.kdata J]) ?_;rintro c ⟨d,o⟩;have e:c.length=n:=by rw[d.length];exact J
  simp;((repeat' first|refine al ?_|simp|((first|apply cq|apply cu|apply ct)<;>intro h<;>try simp at h))<;>(try exact c0));refine bX.whl ((i-j,j),c) d6 ⟨e,by simp;omega,v,by simp;omega,w,U.trans (d.mono Ω Ω),fun k=>?_⟩ (H.weakC f e mW);rw[s,o];congr 1;simp only[iV,uh];repeat' split
  all_goals omega
 ·have p:((m:Int)-i)=(m-i:Nat):=Ω
  have z:((m:Int)+j-i)=(m+j-i:Nat):=Ω
  simp only[jl H,H.slc,H.ssc,p,z,je];refine H.doFn J (MO H lk J (m-i) (m+j-i) i Ω Ω) (fun c h=>by rw[h.1.length];exact J) (by simp[aH,aA,H.kdata J]) ?_;rintro c ⟨d,o⟩;have e:c.length=n:=by rw[d.length];exact J
  simp;(repeat' first|refine al ?_|simp);refine bX.whl ((i,j-i),c) d6 ⟨e,hi,by simp;omega,t,by simp;omega,U.trans (d.mono Ω Ω),fun k=>?_⟩ (H.weakC f e mW);rw[s,o];congr 1;simp only[iV,uh];repeat' split
  all_goals omega
 ·have p:((m:Int)-i)=(m-i:Nat):=Ω
  simp only[jl H,H.slc,H.ssc,p,je];refine H.doFn J (MO H lk J (m-i) m i Ω Ω) (fun c h=>by rw[h.1.length];exact J) (by simp[aH,aA,H.kdata J]) ?_;rintro c ⟨d,o⟩;have e:c.length=n:=by rw[d.length];exact J
  simp;refine H.ret f e (.inr rfl) ⟨rfl,c,rfl,U.trans (d.mono Ω Ω),fun k=>?_⟩;rw[s,o];congr 1;simp only[iV,uh];repeat' split
  all_goals omega
end
section
open Go Go.Pv
variable {α:Type} {S:List α->cT} {n g cr:Nat} {lc ch:List af} {lt:α->α->Bool}
def vL(lt:α->α->Bool)(a b j:Nat)(l:List α):Prop:= ∀p q x y,a<=p->p<q->q<b->q≠j->l[p]? =some x->l[q]? =some y->lt y x=false
def vL.swap(n:sa lt){a b j:Nat}{l:List α}(h:vL lt a b (j+1) l)(s:a<=j)(t:j+1<b)(r:j+1<l.length){x y:α}(g:l[j+1]? =some x)(d:l[j]? =some y)(m:lt x y=true):vL lt a b j (ib l (j+1) j):=by
 intro p q u v i k f o hu c;rw[Cg _ _ _ _ r Ω]at hu c;rw[if_neg (by omega:¬(q=j))]at c;split at c
 ·rename_i e;subst e;rw[d]at c;cases c;split at hu
  ·omega
  ·split at hu
   ·rw[g]at hu;cases hu;exact n.asym _ _ m
   ·exact h p j u y i Ω Ω Ω hu d
 ·split at hu
  ·rename_i e;subst e;rw[d]at hu;cases hu;exact h j q y v s Ω f Ω d c
  ·split at hu
   ·rename_i e;subst e;rw[g]at hu;cases hu;exact h (p+1) q x v Ω Ω f Ω g c
   ·exact h p q u v i k f Ω hu c
def vL.done(k:sa lt){a b j:Nat}{l:List α}(h:vL lt a b (j+1) l)(r:a<=j)(s:j+1<b){x y:α}(n:l[j+1]? =some x)(g:l[j]? =some y)(d:lt x y=false):ga lt a b l:=by
 intro p q u v f i m hu c;by_cases e:q=j+1
 ·subst e;rw[n]at c;cases c;by_cases o:p=j
  ·subst o;rw[g]at hu;cases hu;exact d
  ·exact k.ntr _ _ _ (h p j u y f Ω Ω Ω hu g) d
 ·exact h p q u v f i m e hu c
def vL.first{a b:Nat}{l:List α}(h:vL lt a b a l):ga lt a b l:=fun p q u v d c e hu f=>h p q u v d c e Ω hu f
def ga.but{a b:Nat}{l:List α}(h:ga lt a b l):vL lt a (b+1) b l:=fun p q u v d c f g hu e=>h p q u v d c Ω hu e
def Wc(H:fS S n g cr lc ch lt)(B:sa lt)(l:List α)(d:l.length=n)(a b:Nat)(Q:a<=b)(W:b<=n):
  bE au 231 [fE g cr lc ch,aj a,aj b] (S l) fun r O=>r= .tuple []/\∃t,O=S t/\hl a b l t/\ga lt a b t:=by
 have E:=H.ok l;have s:∀l m,ae (.loc m) (S l).b=none:=fun l=>(H.ok l).obj.1;have hu:∀l m cs,cL (.loc m) cs (S l).b=(S l).b++[(.loc m,cs)]:=fun l m cs=>kO (s l m);have aq:∀m,aB.loc m∉cJ (S l):=kJ E.obj;have hle:=H.le;refine bE.mk mixed a6 Tryz.func231 Z6 Ψ E.obj fun X R=>?_;unfold LK;simp[fE,hu,aq,c7,s];(repeat' first|refine al ?_|simp[hu,aq,c7,s]);refine pe (fun(x:Nat×List α)=>⟨[(1,aj a),(2,aj b),(3,.ptr (.loc 0) 0),(6,aj x.1)],(.loc 0,[.func g lc,.func cr ch])::(S x.2).b,(S x.2).e,1,cJ (S l)⟩) (fun x=>b+1-x.1)
  (fun x=>x.2.length=n/\a<x.1/\x.1<=b+1/\(x.1<=b\/x.1=a+1)/\hl a b l x.2/\ga lt a x.1 x.2) (a+1,l)
  (H.weak d d dl (by simp[c7,s]) aX aX) ⟨d,Ψ,by simp;omega,.inr rfl,.refl _,fun i j x y J U e=>by simp at e;omega⟩ ?_
 rintro⟨i,lk⟩ ⟨J,G,P,F,U,e⟩ _;simp only at J G P F U e;simp;((repeat' first|refine al ?_|simp|((first|apply cq|apply cu|apply ct)<;>intro h<;>try simp at h))<;>(try exact c0))
 ·refine pe (fun(x:Nat×List α)=>⟨[(1,aj a),(2,aj b),(3,.ptr (.loc 0) 0),(6,aj i),(7,aj x.1)],(.loc 0,[.func g lc,.func cr ch])::(S x.2).b,(S x.2).e,1,cJ (S l)⟩) (fun x=>x.1)
   (fun x=>x.2.length=n/\a<=x.1/\x.1<=i/\hl a b l x.2/\vL lt a (i+1) x.1 x.2) (i,lk)
   (H.weakC d J dl) ⟨J,by simp;omega,Ψ,U,ga.but e⟩ ?_
  rintro⟨j,f⟩ ⟨c,u,v,k,o⟩ _;simp only at c u v k o;simp[ae];((repeat' first|refine al ?_|simp[ae]|((first|apply cq|apply cu|apply ct)<;>intro h<;>try simp at h))<;>(try exact c0))
  ·obtain⟨dg,rfl⟩:∃dg,j=dg+1:=⟨j-1,Ω⟩;obtain⟨x,w⟩:∃x,f[dg+1]? =some x:=⟨_,ck Ω⟩;obtain⟨y,z⟩:∃y,f[dg]? =some y:=⟨_,ck Ω⟩;have N:(((dg+1:Nat):Int)-1)=(dg:Nat):=Ω
   rw[H.slc,N];refine H.doLess c (dg+1) dg w z ?_;simp;cases A:lt x y with
   |true=>
    simp[ae];(repeat' first|refine al ?_|simp[ae]);have L:((dg:Int)+1)=(dg+1:Nat):=Ω
    rw[H.ssc,L];refine H.doSwap c (dg+1) dg Ω Ω Ω ?_;simp;(repeat' first|refine al ?_|simp);refine bX.whl (dg,ib f (dg+1) dg) Ψ ⟨by simp[c],by simp;omega,by simp;omega,.step k Ω Ω Ω Ω Ω Ω,o.swap B Ω Ω Ω w z A⟩ (H.weakC d (by simp[c]) dl)
   |false=>simp;((repeat' first|refine al ?_|simp|((first|apply cq|apply cu|apply ct)<;>intro h<;>try simp at h))<;>(try exact c0));refine bX.whl (i+1,f) d6 ⟨c,by simp;omega,by simp;omega,by simp;omega,k,o.done B Ω Ω w z A⟩ (H.weakC d c dl)
  ·obtain rfl:j=a:=Ω
   refine bX.whl (i+1,f) d6 ⟨c,by simp;omega,by simp;omega,by simp;omega,k,o.first⟩ (H.weakC d c dl)
 ·refine H.ret d J (.inr rfl) ⟨rfl,lk,rfl,U,fun p q x y M K V=>e p q x y M K Ω⟩
end
section
open Go Go.Pv
variable {α:Type} [Inhabited α] {S:List α->cT} {n g cr:Nat} {lc ch:List af} {lt:α->α->Bool}
def AU{d:Array α}{i:Nat}(h:i<d.size):d.toList[i]? =some d[i]!:=by simp[getElem!_pos,h]
def IY(d:Array α){i j:Nat}(hi:i<d.size)(a:j<d.size):ib d.toList i j=(Sort.swp d i j).toList:=by simp[ib,Sort.swp,AU hi,AU a]
section
variable (H:fS S n g cr lc ch lt)
include H
theorem fS.swapA{d:Array α}(J:d.size=n)(U:2<=n)(i j:Nat)(hi:i<n)(b:j<n){t:List (Nat×af)}{aY:List af}{o:List aB}{a:Option Nat}{K:bo->Prop}
  (h:∀o,K ⟨e9 a (.tuple []) t,(.loc 0,aY)::(S (Sort.swp d i j).toList).b,(S (Sort.swp d i j).toList).e,1,o⟩):CallDo au cr (.int .i64 i:: .int .i64 j::ch) ⟨t,(.loc 0,aY)::(S d.toList).b,(S d.toList).e,1,o⟩ a K:=by
 refine H.doSwap (by simpa using J) i j hi b U ?_;rw[IY d Ω Ω];exact h _
theorem fS.lessA{d:Array α}(J:d.size=n)(i j:Nat)(hi:i<n)(b:j<n){t:List (Nat×af)}{aY:List af}{o:List aB}{a:Option Nat}{K:bo->Prop}
  (h:∀o,K ⟨e9 a (.bool (lt d[i]! d[j]!)) t,(.loc 0,aY)::(S d.toList).b,(S d.toList).e,1,o⟩):CallDo au g (.int .i64 i:: .int .i64 j::lc) ⟨t,(.loc 0,aY)::(S d.toList).b,(S d.toList).e,1,o⟩ a K:=
 H.doLess (by simpa using J) i j (AU Ω) (AU Ω) (h _)
theorem fS.fnA{d d2:Array α}(J:d.size=n)(U:d2.size=n){f:Nat}{args:List af}{r:af}(j:bE au f args (S d.toList) fun a g=>a=r/\g=S d2.toList)(ad:aH (aM (S d.toList)) args){t:List (Nat×af)}{aY:List af}{o:List aB}{c:Option Nat}{K:bo->Prop}
  (h:∀o,K ⟨e9 c r t,(.loc 0,aY)::(S d2.toList).b,(S d2.toList).e,1,o⟩):CallDo au f args ⟨t,(.loc 0,aY)::(S d.toList).b,(S d.toList).e,1,o⟩ c K:=
 H.call (by simpa using J) (R:=fun a b=>a=r/\b=d2.toList) (j.mono fun r g ⟨i,k⟩=>⟨_,k,i,rfl⟩) (fun r b ⟨_,e⟩=>by rw[e];simpa using U) ad (by rintro a b ⟨rfl,rfl⟩;exact h _)
end
section
variable (H:fS S n g cr lc ch lt)
include H
theorem fS.loopA{β:Type}{d:List α}(m:d.length=n){t:List (Nat×af)}{b:List (aB×List af)}{e:List (aB×dT)}{q:Nat}{o:List aB}(h:List Nat)(cs:β->List (Nat×af))(A:β->Array α)(μ:β->Nat)(f:β->Prop)(a0:β)(j:(A a0).size=n)(l:f a0)
  (i:ae (.loc 0) b=some [.func g lc,.func cr ch]) (s:∀k cs,ae k (S (A a0).toList).b=some cs->ae k b=some cs) (he:∀k o,ae k (S (A a0).toList).e=some o->ae k e=some o)
  (u:∀x∈wF t h++cs a0,Pv.get x.1 t=x.2/\aA (nG (S (A a0).toList) 1) x.2) {c:C} {Q:Exit->bo->Prop}
  (p:∀a,f a->de au (cJ (S d)) c (bX (cJ (S d)) (Dl (fun a=>⟨wF t h++cs a,(.loc 0,[.func g lc,.func cr ch])::(S (A a).toList).b,(S (A a).toList).e,1,cJ (S d)⟩) μ f) (μ a) Q) ⟨wF t h++cs a,(.loc 0,[.func g lc,.func cr ch])::(S (A a).toList).b,(S (A a).toList).e,1,cJ (S d)⟩):
  de au (cJ (S d)) (.loop c) Q ⟨t,b,e,q,o⟩:=
 pe (fun a=>⟨wF t h++cs a,(.loc 0,[.func g lc,.func cr ch])::(S (A a).toList).b,(S (A a).toList).e,1,cJ (S d)⟩) μ f a0 (H.weak m (by simpa using j) u i s he) l fun a r _=>p a r
theorem fS.callA0{lk:List α}(J:lk.length=n){f:Nat}{args:List af}{R:af->List α->Prop}(i:bE au f args (S lk) fun r c=> ∃a,c=S a/\R r a)(br:∀r a,R r a->a.length=n)(ad:aH (aM (S lk)) args){t:List (Nat×af)}{aY:List af}{o:List aB}{d:Option Nat}{K:bo->Prop}
  (h:∀r a,R r a->∀o,K ⟨e9 d r t,(.loc 0,aY)::(S a).b,(S a).e,1,o⟩):CallDo au f args ⟨t,(S lk).b++[(.loc 0,aY)],(S lk).e,1,o⟩ d K:=by
 refine CallDo.ob i (H.ok lk) (fun k cs b=>by rw[c7,b]) (fun _ _ b=>b) ad ?_;rintro r c ⟨a,rfl,e⟩;refine⟨H.same _ _ J (br _ _ e),?_⟩;have g:cH (S lk).b ((S lk).b++[(.loc 0,aY)])=[(.loc 0,aY)]:=by rw[jy,hH];simp[cH,H.loc]
 have j:cH (S lk).e (S lk).e=[]:=hH _;have:=h _ _ e (o++cJ (S a));simp only[g,j];exact this
theorem fS.swapA0{d:Array α}(J:d.size=n)(U:2<=n)(i j:Nat)(hi:i<n)(f:j<n){t:List (Nat×af)}{aY:List af}{o:List aB}{b:Option Nat}{K:bo->Prop}
  (h:∀o,K ⟨e9 b (.tuple []) t,(.loc 0,aY)::(S (Sort.swp d i j).toList).b,(S (Sort.swp d i j).toList).e,1,o⟩):CallDo au cr (.int .i64 i:: .int .i64 j::ch) ⟨t,(S d.toList).b++[(.loc 0,aY)],(S d.toList).e,1,o⟩ b K:=by
 refine H.callA0 (by simpa using J) (R:=fun r a=>r= .tuple []/\a=(Sort.swp d i j).toList) ((H.swap d.toList (by simpa using J) U i j hi f).mono fun r k ⟨c,g⟩=>⟨_,g,c,IY d Ω Ω⟩) (fun r a ⟨_,e⟩=>by rw[e];simp[Sort.swp,J]) (by simp[aA,aH,H.ksc d.toList (by simpa using J)]) ?_;rintro r a ⟨rfl,rfl⟩ o;exact h o
theorem fS.retA{l:List α}{d:Array α}(b:l.length=n)(J:d.size=n){Q:af->cT->Prop}{e:Exit}(he:e= .ret\/e= .normal){t:List (Nat×af)}{aY:List af}{q:Nat}{o:List aB}(a:Q (.tuple []) (S d.toList)):c6 [] (S l) Q e ⟨t,(.loc 0,aY)::(S d.toList).b,(S d.toList).e,q,o⟩:=H.ret b (by simpa using J) he a
theorem fS.retR{b:List bU}{l:List α}{d:Array α}(c:l.length=n)(J:d.size=n){Q:af->cT->Prop}{e:Exit}(he:e= .ret\/e= .normal){t:List (Nat×af)}{aY:List af}{q:Nat}{o:List aB}(h:dc ⟨t,(.loc 0,aY)::(S d.toList).b,(S d.toList).e,q,o⟩ b fun r=>aA (aM (S d.toList)) r/\Q r (S d.toList)):c6 b (S l) Q e ⟨t,(.loc 0,aY)::(S d.toList).b,(S d.toList).e,q,o⟩:=by
 refine c6.at (S d.toList) he (H.ok _) (H.same _ _ c (by simpa using J)) (fun k cs a=>?_) (fun _ _ a=>a) h;cases k with
 |loc m=>rw[H.loc m]at a;cases a
 |obj m=>simpa[ae]using a
end
def hQ(d:Array α)(i j:Nat):(Sort.swp d i j).size=d.size:=by simp[Sort.swp]
end
section
open Go Go.Pv
def Tx:C:=(aa [bM 2 0] (.seq (.cond (.c (.bool false)) (aa [I 3 0,cf 4 (.conv .u32 (.t 3)),cQ 5 236 4,I 2 5] .ret) .skip) (aa [I 6 0,cQ 7 237 6,I 2 7] .ret)))
def LL:C:=(aa [bf 91 2 4,I 92 1,I 93 2,I 94 11,dN 95 244 [.t 91,.t 92,.t 93,.t 94],I 90 95,cS 96 0 90,cS 97 1 90,I 14 96,I 15 97] (aa [I 98 15,I 9 98] (aa [I 99 14,I 100 1,bt 101 .sub 99 100,I 102 2,I 103 14,bt 104 .sub 102 103,I 16 101,I 17 104] (aa [I 105 10,aV 106 .quo 105 8,I 18 106] (aa [I 107 16,I 108 17,bt 109 .lss 107 108] (aW 109 (aa [I 110 16,I 111 18,bt 112 .geq 110 111,I 8 112] (aa [bf 113 2 4,I 114 1,I 115 14,I 116 3,dN 117 214 [.t 113,.t 114,.t 115,.t 116]] (.region [I 118 14,aV 119 .add 118 1,I 1 119]))) (aa [I 120 17,I 121 18,bt 122 .geq 120 121,I 8 122] (aa [bf 123 2 4,I 124 14,aV 125 .add 124 1,I 126 2,I 127 3,dN 128 214 [.t 123,.t 125,.t 126,.t 127]] (.region [I 129 14,I 2 129])))))))))
def DG:C:=(.seq (aa [I 73 1,aV 74 .gtr 73 0,I 75 74,ax 75 true (aF 76 0 1 4),ax 75 true (az 77 1 76),cg 75 true 78 1,ax 75 true (aV 79 .sub 78 1),cg 75 true 80 11,ax 75 true (hI 81 77 [.t 79,.t 80]),ax 75 true (cK 82 81),ej 83 75 82] (aW 83 (aa [bf 84 2 4,I 85 1,I 86 2,I 87 11,dN 88 243 [.t 84,.t 85,.t 86,.t 87],I 13 88] (aa [I 89 13,I 1 89] (.exit 1))) .skip)) LL)
def LM:C:=(.seq (aa [I 61 8,I 62 61,cg 62 true 63 9,ej 64 62 63,I 65 64,cg 65 true 66 12,ax 65 true (aV 67 .eql 66 1),ej 68 65 67] (aW 68 (aa [bf 69 2 4,I 70 1,I 71 2,dN 72 242 [.t 69,.t 70,.t 71]] (aW 72 .ret .skip)) .skip)) DG)
def LN:C:=(aa [bf 43 2 4,I 44 1,I 45 2,dN 46 240 [.t 43,.t 44,.t 45],I 42 46,cS 47 0 42,cS 48 1 42,I 11 47,I 12 48] (.seq (aa [I 49 12,aV 50 .eql 49 2] (aW 50 (aa [bf 51 2 4,I 52 1,I 53 2,dN 54 241 [.t 51,.t 52,.t 53]] (aa [I 55 2,aV 56 .sub 55 1,I 57 11,I 58 1,bt 59 .sub 57 58,bt 60 .sub 56 59,I 11 60] (.region [bM 12 1]))) .skip)) LM))
def TK:C:=(aa [cU 4 0] (aa [bu 8 true] (aa [bu 9 true] (.block 0 (.loop (.block 1 (aa [I 19 2,I 20 1,bt 21 .sub 19 20,I 10 21] (.seq (aa [I 22 10,aV 23 .leq 22 12] (aW 23 (aa [bf 24 2 4,I 25 1,I 26 2,dN 27 231 [.t 24,.t 25,.t 26]] .ret) .skip)) (.seq (aa [I 28 3,aV 29 .eql 28 0] (aW 29 (aa [bf 30 2 4,I 31 1,I 32 2,dN 33 238 [.t 30,.t 31,.t 32]] .ret) .skip)) (.seq (aa [I 34 8,cK 35 34] (aW 35 (aa [bf 36 2 4,I 37 1,I 38 2,dN 39 239 [.t 36,.t 37,.t 38]] (.region [I 40 3,aV 41 .sub 40 1,I 3 41])) .skip)) LN))))))))))
def Ty:C:=(aa [bM 2 0] (.seq (aa [I 3 0,cf 4 (.bin .geq false (.t 3) (.c (.int .u64 4294967296)))] (aW 4 (aa [I 5 0,cf 6 (.bin .shr false (.t 5) (.c (.int .u64 32))),I 0 6] (.region [bM 2 32])) .skip)) (.seq (aa [I 7 0,cf 8 (.bin .geq false (.t 7) (.c (.int .u64 65536)))] (aW 8 (aa [I 9 0,cf 10 (.bin .shr false (.t 9) (.c (.int .u64 16))),I 0 10] (.region [I 11 2,aV 12 .add 11 16,I 2 12])) .skip)) (.seq (aa [I 13 0,cf 14 (.bin .geq false (.t 13) (.c (.int .u64 256)))] (aW 14 (aa [I 15 0,cf 16 (.bin .shr false (.t 15) (.c (.int .u64 8))),I 0 16] (.region [I 17 2,aV 18 .add 17 8,I 2 18])) .skip)) (aa [I 19 2,I 20 0,cf 21 (.conv .u8 (.t 20)),cf 22 (.sidx (.c (.str QZ)) (.t 21)),cf 23 (.conv .i64 (.t 22)),bt 24 .add 19 23,I 2 24] .ret)))))
def TC:C:=(aa [cU 3 0] (aa [I 11 1,I 6 11] (aa [bM 7 0] (aa [I 12 2,I 13 1,bt 14 .sub 12 13,I 8 14] (.seq (aa [I 15 8,aV 16 .sub 15 1,aV 17 .quo 16 2,I 9 17] (.block 0 (.loop (.seq (aa [I 18 9,aV 19 .geq 18 0] (aW 19 .skip (.exit 0))) (.seq (.block 1 (.region [bf 22 2 3,I 23 9,I 24 8,I 25 6,dN 26 252 [.t 22,.t 23,.t 24,.t 25]])) (.region [I 20 9,aV 21 .sub 20 1,I 9 21])))))) (aa [I 27 8,aV 28 .sub 27 1,I 10 28] (.block 2 (.loop (.seq (aa [I 29 10,aV 30 .geq 29 0] (aW 30 .skip (.exit 2))) (.seq (.block 3 (aa [aF 33 1 1 3,az 34 1 33,I 35 6,I 36 6,I 37 10,bt 38 .add 36 37,hI 39 34 [.t 35,.t 38]] (.region [bf 40 2 3,I 41 7,I 42 10,I 43 6,dN 44 252 [.t 40,.t 41,.t 42,.t 43]]))) (.region [I 31 10,aV 32 .sub 31 1,I 10 32])))))))))))
def TA:C:=(aa [cU 3 0] (aa [I 11 2,I 12 1,bt 13 .sub 11 12,I 6 13] (aa [I 14 6,aV 15 .geq 14 8] (aW 15 (aa [I 16 6,cf 17 (.conv .u64 (.t 16)),ds (.alloc 7 (some 902) (.int .u64 0)),bV 1 7 17] (aa [I 18 6,cQ 19 253 18,I 8 19] (aa [I 20 1,I 21 6,aV 22 .quo 21 4,aV 23 .mul 22 2,bt 24 .add 20 23,aV 25 .sub 24 1,I 9 25] (.block 0 (.loop (.seq (aa [I 26 9,I 27 1,I 28 6,aV 29 .quo 28 4,aV 30 .mul 29 2,bt 31 .add 27 30,aV 32 .add 31 1,bt 33 .leq 26 32] (aW 33 .skip (.exit 0))) (.seq (.block 1 (aa [cQ 36 254 7,I 37 8,cf 38 (.bin .sub true (.t 37) (.c (.int .u64 1))),bt 39 .and 36 38,cf 40 (.conv .i64 (.t 39)),I 10 40] (.seq (aa [I 41 10,I 42 6,bt 43 .geq 41 42] (aW 43 (.region [I 44 10,I 45 6,bt 46 .sub 44 45,I 10 46]) .skip)) (.region [aF 47 1 1 3,az 48 1 47,I 49 9,I 50 1,I 51 10,bt 52 .add 50 51,hI 53 48 [.t 49,.t 52]])))) (.region [I 34 9,aV 35 .add 34 1,I 9 35])))))))) .skip))))
def TB:C:=(aa [cU 3 0,bM 6 0,bM 7 0] (aa [I 13 2,I 14 1,bt 15 .sub 13 14,I 8 15] (aa [ds (.alloc 9 (some 901) (.int .i64 0))] (aa [I 16 1,I 17 8,aV 18 .quo 17 4,aV 19 .mul 18 1,bt 20 .add 16 19,I 10 20] (aa [I 21 1,I 22 8,aV 23 .quo 22 4,aV 24 .mul 23 2,bt 25 .add 21 24,I 11 25] (aa [I 26 1,I 27 8,aV 28 .quo 27 4,aV 29 .mul 28 3,bt 30 .add 26 29,I 12 30] (.seq (aa [I 31 8,aV 32 .geq 31 8] (aW 32 (.seq (aa [I 33 8,aV 34 .geq 33 50] (aW 34 (aa [bf 35 2 3,I 36 10,dN 37 255 [.t 35,.t 36,.t 9],I 10 37] (aa [bf 38 2 3,I 39 11,dN 40 255 [.t 38,.t 39,.t 9],I 11 40] (.region [bf 41 2 3,I 42 12,dN 43 255 [.t 41,.t 42,.t 9],I 12 43]))) .skip)) (.region [bf 44 2 3,I 45 10,I 46 11,I 47 12,dN 48 256 [.t 44,.t 45,.t 46,.t 47,.t 9],I 11 48])) .skip)) (aa [az 49 1 9] (.block 0 (aa [aV 52 .eql 49 0,I 51 52] (aW 51 (aa [I 53 11,I 6 53,bM 7 1] .ret) (aa [aV 55 .eql 49 12,I 54 55] (aW 54 (aa [I 56 11,I 6 56,bM 7 2] .ret) (aa [I 50 11,I 6 50,bM 7 0] .ret))))))))))))))
def TL:C:=(aa [cU 3 0] (aa [I 8 1,I 6 8] (aa [I 9 2,aV 10 .sub 9 1,I 7 10] (.block 0 (.loop (.seq (aa [I 11 6,I 12 7,bt 13 .lss 11 12] (aW 13 .skip (.exit 0))) (.block 1 (aa [aF 14 1 1 3,az 15 1 14,I 16 6,I 17 7,hI 18 15 [.t 16,.t 17]] (aa [I 19 6,aV 20 .add 19 1,I 6 20] (.region [I 21 7,aV 22 .sub 21 1,I 7 22]))))))))))
def TH:C:=(aa [cU 3 0,bu 6 false] (aa [I 11 1,aV 12 .add 11 1,I 7 12] (.seq (aa [bM 8 0] (.block 0 (.loop (.seq (aa [I 13 8,aV 14 .lss 13 5] (aW 14 .skip (.exit 0))) (.seq (.block 1 (.seq (.block 2 (.loop (.seq (aa [I 17 7,I 18 2,bt 19 .lss 17 18,I 20 19,ax 20 true (aF 21 0 1 3),ax 20 true (az 22 1 21),cg 20 true 23 7,cg 20 true 24 7,ax 20 true (aV 25 .sub 24 1),ax 20 true (hI 26 22 [.t 23,.t 25]),ax 20 true (cK 27 26),ej 28 20 27] (aW 28 .skip (.exit 2))) (.block 3 (.region [I 29 7,aV 30 .add 29 1,I 7 30]))))) (.seq (aa [I 31 7,I 32 2,bt 33 .eql 31 32] (aW 33 (aa [bu 6 true] .ret) .skip)) (.seq (aa [I 34 2,I 35 1,bt 36 .sub 34 35,aV 37 .lss 36 50] (aW 37 (aa [bu 6 false] .ret) .skip)) (aa [aF 38 1 1 3,az 39 1 38,I 40 7,I 41 7,aV 42 .sub 41 1,hI 43 39 [.t 40,.t 42]] (.seq (aa [I 44 7,I 45 1,bt 46 .sub 44 45,aV 47 .geq 46 2] (aW 47 (aa [I 48 7,aV 49 .sub 48 1,I 9 49] (.block 4 (.loop (.seq (aa [I 50 9,aV 51 .geq 50 1] (aW 51 .skip (.exit 4))) (.seq (.block 5 (.seq (aa [aF 54 0 1 3,az 55 1 54,I 56 9,I 57 9,aV 58 .sub 57 1,hI 59 55 [.t 56,.t 58],cK 60 59] (aW 60 (.exit 4) .skip)) (.region [aF 61 1 1 3,az 62 1 61,I 63 9,I 64 9,aV 65 .sub 64 1,hI 66 62 [.t 63,.t 65]]))) (.region [I 52 9,aV 53 .sub 52 1,I 9 53])))))) .skip)) (aa [I 67 2,I 68 7,bt 69 .sub 67 68,aV 70 .geq 69 2] (aW 70 (aa [I 71 7,aV 72 .add 71 1,I 10 72] (.block 6 (.loop (.seq (aa [I 73 10,I 74 2,bt 75 .lss 73 74] (aW 75 .skip (.exit 6))) (.seq (.block 7 (.seq (aa [aF 78 0 1 3,az 79 1 78,I 80 10,I 81 10,aV 82 .sub 81 1,hI 83 79 [.t 80,.t 82],cK 84 83] (aW 84 (.exit 6) .skip)) (.region [aF 85 1 1 3,az 86 1 85,I 87 10,I 88 10,aV 89 .sub 88 1,hI 90 86 [.t 87,.t 89]]))) (.region [I 76 10,aV 77 .add 76 1,I 10 77])))))) .skip)))))))) (.region [I 15 8,aV 16 .add 15 1,I 8 16])))))) (aa [bu 6 false] .ret))))
def TI:C:=(aa [cU 4 0,bM 8 0] (aa [aF 11 1 1 4,az 12 1 11,I 13 1,I 14 3,hI 15 12 [.t 13,.t 14]] (aa [I 16 1,aV 17 .add 16 1,I 18 2,aV 19 .sub 18 1,I 9 17,I 10 19] (.seq (.block 0 (.loop (.block 1 (.seq (.block 2 (.loop (.seq (aa [I 20 9,I 21 10,bt 22 .leq 20 21,I 23 22,ax 23 true (aF 24 0 1 4),ax 23 true (az 25 1 24),cg 23 true 26 1,cg 23 true 27 9,ax 23 true (hI 28 25 [.t 26,.t 27]),ax 23 true (cK 29 28),ej 30 23 29] (aW 30 .skip (.exit 2))) (.block 3 (.region [I 31 9,aV 32 .add 31 1,I 9 32]))))) (.seq (.block 4 (.loop (.seq (aa [I 33 9,I 34 10,bt 35 .leq 33 34,I 36 35,ax 36 true (aF 37 0 1 4),ax 36 true (az 38 1 37),cg 36 true 39 1,cg 36 true 40 10,ax 36 true (hI 41 38 [.t 39,.t 40]),ej 42 36 41] (aW 42 .skip (.exit 4))) (.block 5 (.region [I 43 10,aV 44 .sub 43 1,I 10 44]))))) (.seq (aa [I 45 9,I 46 10,bt 47 .gtr 45 46] (aW 47 (.exit 0) .skip)) (aa [aF 48 1 1 4,az 49 1 48,I 50 9,I 51 10,hI 52 49 [.t 50,.t 51]] (aa [I 53 9,aV 54 .add 53 1,I 9 54] (.region [I 55 10,aV 56 .sub 55 1,I 10 56]))))))))) (aa [I 57 9,I 8 57] .ret)))))
def TJ:C:=(aa [cU 4 0,bM 8 0,bu 9 false] (aa [aF 12 1 1 4,az 13 1 12,I 14 1,I 15 3,hI 16 13 [.t 14,.t 15]] (aa [I 17 1,aV 18 .add 17 1,I 19 2,aV 20 .sub 19 1,I 10 18,I 11 20] (.seq (.block 0 (.loop (.seq (aa [I 21 10,I 22 11,bt 23 .leq 21 22,I 24 23,ax 24 true (aF 25 0 1 4),ax 24 true (az 26 1 25),cg 24 true 27 10,cg 24 true 28 1,ax 24 true (hI 29 26 [.t 27,.t 28]),ej 30 24 29] (aW 30 .skip (.exit 0))) (.block 1 (.region [I 31 10,aV 32 .add 31 1,I 10 32]))))) (.seq (.block 2 (.loop (.seq (aa [I 33 10,I 34 11,bt 35 .leq 33 34,I 36 35,ax 36 true (aF 37 0 1 4),ax 36 true (az 38 1 37),cg 36 true 39 11,cg 36 true 40 1,ax 36 true (hI 41 38 [.t 39,.t 40]),ax 36 true (cK 42 41),ej 43 36 42] (aW 43 .skip (.exit 2))) (.block 3 (.region [I 44 11,aV 45 .sub 44 1,I 11 45]))))) (.seq (aa [I 46 10,I 47 11,bt 48 .gtr 46 47] (aW 48 (aa [aF 49 1 1 4,az 50 1 49,I 51 11,I 52 1,hI 53 50 [.t 51,.t 52]] (aa [I 54 11,I 8 54,bu 9 true] .ret)) .skip)) (aa [aF 55 1 1 4,az 56 1 55,I 57 10,I 58 11,hI 59 56 [.t 57,.t 58]] (aa [I 60 10,aV 61 .add 60 1,I 10 61] (aa [I 62 11,aV 63 .sub 62 1,I 11 63] (.seq (.block 4 (.loop (.block 5 (.seq (.block 6 (.loop (.seq (aa [I 64 10,I 65 11,bt 66 .leq 64 65,I 67 66,ax 67 true (aF 68 0 1 4),ax 67 true (az 69 1 68),cg 67 true 70 10,cg 67 true 71 1,ax 67 true (hI 72 69 [.t 70,.t 71]),ej 73 67 72] (aW 73 .skip (.exit 6))) (.block 7 (.region [I 74 10,aV 75 .add 74 1,I 10 75]))))) (.seq (.block 8 (.loop (.seq (aa [I 76 10,I 77 11,bt 78 .leq 76 77,I 79 78,ax 79 true (aF 80 0 1 4),ax 79 true (az 81 1 80),cg 79 true 82 11,cg 79 true 83 1,ax 79 true (hI 84 81 [.t 82,.t 83]),ax 79 true (cK 85 84),ej 86 79 85] (aW 86 .skip (.exit 8))) (.block 9 (.region [I 87 11,aV 88 .sub 87 1,I 11 88]))))) (.seq (aa [I 89 10,I 90 11,bt 91 .gtr 89 90] (aW 91 (.exit 4) .skip)) (aa [aF 92 1 1 4,az 93 1 92,I 94 10,I 95 11,hI 96 93 [.t 94,.t 95]] (aa [I 97 10,aV 98 .add 97 1,I 10 98] (.region [I 99 11,aV 100 .sub 99 1,I 11 100]))))))))) (aa [aF 101 1 1 4,az 102 1 101,I 103 11,I 104 1,hI 105 102 [.t 103,.t 104]] (aa [I 106 11,I 8 106,bu 9 false] .ret))))))))))))
def TN:C:=(aa [cU 4 0] (aa [I 10 1,I 8 10] (.block 0 (.loop (.block 1 (aa [I 11 8,cf 12 (.bin .mul false (gV 2) (.t 11)),aV 13 .add 12 1,I 9 13] (.seq (aa [I 14 9,I 15 2,bt 16 .geq 14 15] (aW 16 (.exit 0) .skip)) (.seq (aa [I 17 9,aV 18 .add 17 1,I 19 2,bt 20 .lss 18 19,I 21 20,ax 21 true (aF 22 0 1 4),ax 21 true (az 23 1 22),cg 21 true 24 3,cg 21 true 25 9,ax 21 true (bt 26 .add 24 25),cg 21 true 27 3,cg 21 true 28 9,ax 21 true (bt 29 .add 27 28),ax 21 true (aV 30 .add 29 1),ax 21 true (hI 31 23 [.t 26,.t 30]),ej 32 21 31] (aW 32 (.region [I 33 9,aV 34 .add 33 1,I 9 34]) .skip)) (.seq (aa [aF 35 0 1 4,az 36 1 35,I 37 3,I 38 8,bt 39 .add 37 38,I 40 3,I 41 9,bt 42 .add 40 41,hI 43 36 [.t 39,.t 42],cK 44 43] (aW 44 .ret .skip)) (aa [aF 45 1 1 4,az 46 1 45,I 47 3,I 48 8,bt 49 .add 47 48,I 50 3,I 51 9,bt 52 .add 50 51,hI 53 46 [.t 49,.t 52]] (.region [I 54 9,I 8 54])))))))))))
def TF:C:=(aa [cf 2 (.mov (.c (.int .u64 0)))] (aa [I 4 0,cf 5 (.conv .u64 (.t 4)),cQ 6 213 5,cf 7 (.conv .u64 (.t 6)),I 3 7] (aa [I 8 3,cf 9 (.bin .shl false (.c (.int .u64 1)) (.t 8)),I 2 9] .ret)))
def TR:C:=(aa [cf 2 (.mov (.c (.int .u64 0)))] (.seq (.drawn true 33 [I 3 0,gy 4 3,az 5 1 4,I 6 0,gy 7 6,az 8 1 7,cf 9 (.bin .shl false (.t 8) (.c (.int .u64 13))),bt 10 .xor 5 9,gy 11 3,bV 1 11 10]) (.seq (.drawn true 33 [I 12 0,gy 13 12,az 14 1 13,I 15 0,gy 16 15,az 17 1 16,cf 18 (.bin .shr false (.t 17) (.c (.int .u64 7))),bt 19 .xor 14 18,gy 20 12,bV 1 20 19]) (.seq (.drawn true 33 [I 21 0,gy 22 21,az 23 1 22,I 24 0,gy 25 24,az 26 1 25,cf 27 (.bin .shl false (.t 26) (.c (.int .u64 17))),bt 28 .xor 23 27,gy 29 21,bV 1 29 28]) (aa [I 30 0,gy 31 30,az 32 1 31,I 2 32] .ret)))))
def TD:C:=(aa [cU 3 0,bM 6 0] (aa [bf 7 2 3,I 8 1,aV 9 .sub 8 1,I 10 1,I 11 1,aV 12 .add 11 1,I 13 2,dN 14 256 [.t 7,.t 9,.t 10,.t 12,.t 13],I 6 14] .ret))
def TE:C:=(aa [cU 5 0,bM 10 0] (aa [bf 12 2 5,I 13 1,I 14 2,I 15 4,dN 16 271 [.t 12,.t 13,.t 14,.t 15],I 11 16,cS 17 0 11,cS 18 1 11,I 1 17,I 2 18] (aa [bf 20 2 5,I 21 2,I 22 3,I 23 4,dN 24 271 [.t 20,.t 21,.t 22,.t 23],I 19 24,cS 25 0 19,cS 26 1 19,I 2 25,I 3 26] (aa [bf 28 2 5,I 29 1,I 30 2,I 31 4,dN 32 271 [.t 28,.t 29,.t 30,.t 31],I 27 32,cS 33 0 27,cS 34 1 27,I 1 33,I 2 34] (aa [I 35 2,I 10 35] .ret)))))
def TG:C:=(aa [cU 4 0,bM 8 0,bM 9 0] (.seq (aa [aF 10 0 1 4,az 11 1 10,I 12 2,I 13 1,hI 14 11 [.t 12,.t 13]] (aW 14 (aa [I 15 3,gy 16 15,az 17 1 16,aV 18 .add 17 1,gy 19 15,bV 1 19 18] (aa [I 20 2,I 21 1,I 8 20,I 9 21] .ret)) .skip)) (aa [I 22 1,I 23 2,I 8 22,I 9 23] .ret)))
def aoZ:b2 aS Tx [.tmp 2] 1 Tryz.f213=true:=bi
def apc:b2 aS TK [] 4 Tryz.f214=true:=bi
def ao0:b2 aS Ty [.tmp 2] 1 Tryz.f237=true:=bi
def ao4:b2 aS TC [] 3 Tryz.f238=true:=bi
def ao2:b2 aS TA [] 3 Tryz.f239=true:=bi
def ao3:b2 aS TB [.tmp 6,.tmp 7] 3 Tryz.f240=true:=bi
def apd:b2 aS TL [] 3 Tryz.f241=true:=bi
def ao9:b2 aS TH [.tmp 6] 3 Tryz.f242=true:=bi
def apa:b2 aS TI [.tmp 8] 4 Tryz.f243=true:=bi
def apb:b2 aS TJ [.tmp 8,.tmp 9] 4 Tryz.f244=true:=bi
def apf:b2 aS TN [] 4 Tryz.f252=true:=bi
def ao7:b2 aS TF [.tmp 2] 1 Tryz.f253=true:=bi
def apj:b2 aS TR [.tmp 2] 1 Tryz.f254=true:=bi
def ao5:b2 aS TD [.tmp 6] 3 Tryz.f255=true:=bi
def ao6:b2 aS TE [.tmp 10] 5 Tryz.f256=true:=bi
def ao8:b2 aS TG [.tmp 8,.tmp 9] 4 Tryz.f271=true:=bi
end
section
open Go Go.Pv
variable {α:Type} [Inhabited α] {S:List α->cT} {n g cr:Nat} {lc ch:List af} {lt:α->α->Bool}
def Wk(H:fS S n g cr lc ch lt)(d:Array α)(q:d.size=n)(lo hi first:Nat)(J:first+hi<=n)(U:2<=n)(w:lo<=n):
  bE au 252 [fE g cr lc ch,aj lo,aj hi,aj first] (S d.toList) fun r y=>r= .tuple []/\∃k,y=S k.toList/\k=Sort.siftDown lt hi first lo d/\k.size=n:=by
 have t:=H.ok d.toList;have e:d.toList.length=n:=by simpa using q
 have p:∀l m,ae (.loc m) (S l).b=none:=fun l=>(H.ok l).obj.1;have hu:∀l m cs,cL (.loc m) cs (S l).b=(S l).b++[(.loc m,cs)]:=fun l m cs=>kO (p l m);have aq:∀m,aB.loc m∉cJ (S d.toList):=kJ t.obj;have hle:=H.le;refine bE.mk mixed a6 Tryz.func252 apf Ψ t.obj fun B A=>?_;unfold TN;simp[fE,hu,aq,c7,p];refine H.loopA e [2,3,4] (fun(x:Nat×Array α)=>[(8,aj x.1)]) (·.2) (fun x=>hi-x.1) (fun x=>x.2.size=n/\x.1<=n/\Sort.siftDown lt hi first x.1 x.2=Sort.siftDown lt hi first lo d) (lo,d) q ⟨q,w,rfl⟩ (by simp[c7,p]) aX aX dl ?_;rintro⟨root,c⟩ ⟨a,v,b⟩;simp only at a v b;have j:((first:Int)+(2*root+1))=(first+(2*root+1):Nat):=Ω
 have z:(((first+(2*root+1):Nat):Int)+1)=(first+(2*root+1)+1:Nat):=Ω
 have i:((first:Int)+root)=(first+root:Nat):=Ω
 have s:((first:Int)+(2*root+1+1))=(first+(2*root+2):Nat):=Ω
 simp[ae,H.slc,H.ssc];(with_reducible repeat' first|((first|apply cq|apply cu|apply ct)<;>intro h<;>try simp at h)|refine al ?_|simp[ae,H.slc,H.ssc])
 ·rw[Sort.siftDown,dif_pos Ω]at b;exact H.retA e a (.inr rfl) ⟨rfl,c,rfl,b,a⟩
 ·rw[Sort.siftDown,dif_neg Ω]at b;rw[j,z];refine H.lessA a _ _ Ω Ω fun o=>?_;have ay:decide (2*root+1+1<hi)=true:=by simp;omega
  cases u:lt c[first+(2*root+1)]! c[first+(2*root+1)+1]! with
  |true=>
   rw[if_pos (by rw[ay,u];rfl)]at b;simp;(repeat' first|refine al ?_|simp[ae,H.slc,H.ssc]);rw[i,s];refine H.lessA a _ _ Ω Ω fun o=>?_;cases f:lt c[first+root]! c[first+(2*root+2)]! with
   |true=>rw[if_neg (by simp[f]),dif_pos Ω]at b;simp;(repeat' first|refine al ?_|simp[ae,H.slc,H.ssc]);rw[i,s];refine H.swapA a U _ _ Ω Ω fun o=>?_;simp;(repeat' first|refine al ?_|simp);refine bX.whl (2*root+2,Sort.swp c (first+root) (first+(2*root+2))) d6 ⟨by rw[hQ,a],by simp;omega,b⟩ (H.weakC e (by simp[hQ,a]) mW)
   |false=>rw[if_pos (by simp[f])]at b;simp;(repeat' first|refine al ?_|simp);all_goals exact H.retA e a (.inl rfl) ⟨rfl,c,rfl,b,a⟩
  |false=>
   rw[if_neg (by simp[u])]at b;simp;(repeat' first|refine al ?_|simp[ae,H.slc,H.ssc]);rw[i,j];refine H.lessA a _ _ Ω Ω fun o=>?_;cases f:lt c[first+root]! c[first+(2*root+1)]! with
   |true=>rw[if_neg (by simp[f])]at b;simp;(repeat' first|refine al ?_|simp[ae,H.slc,H.ssc]);rw[i,j];refine H.swapA a U _ _ Ω Ω fun o=>?_;simp;(repeat' first|refine al ?_|simp);refine bX.whl (2*root+1,Sort.swp c (first+root) (first+(2*root+1))) d6 ⟨by rw[hQ,a],by simp;omega,b⟩ (H.weakC e (by simp[hQ,a]) dl)
   |false=>rw[if_pos (by simp[f])]at b;simp;(repeat' first|refine al ?_|simp);all_goals exact H.retA e a (.inl rfl) ⟨rfl,c,rfl,b,a⟩
 ·rw[Sort.siftDown,dif_neg Ω]at b;have ay:decide (2*root+1+1<hi)=false:=by simp;omega
  rw[if_neg (by rw[ay];simp)]at b;rw[i,j];refine H.lessA a _ _ Ω Ω fun o=>?_;cases f:lt c[first+root]! c[first+(2*root+1)]! with
  |true=>rw[if_neg (by simp[f])]at b;simp;(repeat' first|refine al ?_|simp[ae,H.slc,H.ssc]);rw[i,j];refine H.swapA a U _ _ Ω Ω fun o=>?_;simp;(repeat' first|refine al ?_|simp);refine bX.whl (2*root+1,Sort.swp c (first+root) (first+(2*root+1))) d6 ⟨by rw[hQ,a],by simp;omega,b⟩ (H.weakC e (by simp[hQ,a]) dl)
  |false=>rw[if_pos (by simp[f])]at b;simp;(repeat' first|refine al ?_|simp);all_goals exact H.retA e a (.inl rfl) ⟨rfl,c,rfl,b,a⟩
def ajL(H:fS S n g cr lc ch lt)(d:Array α)(q:d.size=n)(a b:Nat)(A:a<b)(E:b<=n)(U:2<=n):
  bE au 241 [fE g cr lc ch,aj a,aj b] (S d.toList) fun r y=>r= .tuple []/\∃k,y=S k.toList/\k=Sort.reverseRange d a b/\k.size=n:=by
 have t:=H.ok d.toList;have p:d.toList.length=n:=by simpa using q
 have f:∀l m,ae (.loc m) (S l).b=none:=fun l=>(H.ok l).obj.1;have hu:∀l m cs,cL (.loc m) cs (S l).b=(S l).b++[(.loc m,cs)]:=fun l m cs=>kO (f l m);have aq:∀m,aB.loc m∉cJ (S d.toList):=kJ t.obj;have hle:=H.le;refine bE.mk mixed a6 Tryz.func241 apd Ψ t.obj fun F B=>?_;unfold TL;simp[fE,hu,aq,c7,f];have u:((b:Int)-1)=(b-1:Nat):=Ω
 (repeat' first|refine al ?_|simp[hu,aq,c7,f]);rw[u];refine H.loopA p [3] (fun(x:(Nat×Nat)×Array α)=>[(6,aj x.1.1),(7,aj x.1.2)]) (·.2) (fun x=>x.1.2+1-x.1.1) (fun x=>x.2.size=n/\x.1.2<n/\Sort.reverseLoop x.1.1 x.1.2 x.2=Sort.reverseRange d a b) ((a,b-1),d) q ⟨q,by simp;omega,rfl⟩ (by simp[c7,f]) aX aX dl ?_;rintro⟨⟨i,j⟩,s⟩ ⟨e,v,c⟩;simp only at e v c;rw[Sort.reverseLoop]at c;simp[ae,H.slc,H.ssc];(with_reducible repeat' first|((first|apply cq|apply cu|apply ct)<;>intro h<;>try simp at h)|refine al ?_|simp[ae,H.slc,H.ssc])
 ·rw[if_pos Ω]at c;refine H.swapA e U _ _ Ω Ω fun o=>?_;have w:((i:Int)+1)=(i+1:Nat):=Ω
  have z:((j:Int)-1)=(j-1:Nat):=Ω
  simp;((repeat' first|refine al ?_|simp|((first|apply cq|apply cu|apply ct)<;>intro h<;>try simp at h))<;>(try exact c0));rw[w,z];refine bX.whl ((i+1,j-1),Sort.swp s i j) d6 ⟨by rw[hQ,e],by simp;omega,c⟩ (H.weakC p (by simp[hQ,e]) dl)
 ·rw[if_neg Ω]at c;exact H.retA p e (.inr rfl) ⟨rfl,s,rfl,c,e⟩
def aji(H:fS S n g cr lc ch lt)(d:Array α)(J:d.size=n)(a b:Nat)(O:a<=b)(X:b<=n)(U:2<=n):
  bE au 238 [fE g cr lc ch,aj a,aj b] (S d.toList) fun r E=>r= .tuple []/\∃c,E=S c.toList/\c=Sort.heapSort lt d a b/\c.size=n:=by
 have M:=H.ok d.toList;have y:d.toList.length=n:=by simpa using J
 have z:∀l m,ae (.loc m) (S l).b=none:=fun l=>(H.ok l).obj.1;have hu:∀l m cs,cL (.loc m) cs (S l).b=(S l).b++[(.loc m,cs)]:=fun l m cs=>kO (z l m);have aq:∀m,aB.loc m∉cJ (S d.toList):=kJ M.obj;have hle:=H.le;refine bE.mk mixed a6 Tryz.func238 ao4 Ψ M.obj fun Y W=>?_;unfold TC;simp[fE,hu,aq,c7,z];(repeat' first|refine al ?_|simp[hu,aq,c7,z]);have P:vB.wrap (((b:Int)-a-1).tdiv 2)=(((b-a-1)/2+1:Nat):Int)-1:=by
  have e:((b:Int)-a-1).tdiv 2=(((b-a-1)/2+1:Nat):Int)-1:=by
   rcases Nat.eq_or_lt_of_le O with h|h
   ·subst h;simp
   ·rw[show((b:Int)-a-1)=((b-a-1:Nat):Int) by omega,Int.tdiv_eq_ediv_of_nonneg Ω];omega
  rw[e,pJ _ Ω]
 rw[P];refine H.loopA y [3,6,7,8] (fun(x:Nat×Array α)=>[(9,aj ((x.1:Int)-1))]) (·.2) (fun x=>x.1) (fun x=>x.2.size=n/\x.1<=n/\Sort.heapBuild lt (b-a) a x.1 x.2=Sort.heapBuild lt (b-a) a ((b-a-1)/2+1) d) ((b-a-1)/2+1,d) J ⟨J,by simp;omega,rfl⟩ (by simp[c7,z]) aX aX dl ?_;rintro⟨k,i⟩ ⟨s,Q,w⟩;simp only at s Q w;have F:((b:Int)-a)=(b-a:Nat):=Ω
 simp[ae,H.slc,H.ssc];(with_reducible repeat' first|((first|apply cq|apply cu|apply ct)<;>intro h<;>try simp at h)|refine al ?_|simp[ae,H.slc,H.ssc])
 ·obtain⟨k,rfl⟩:∃bs,k=bs+1:=⟨k-1,Ω⟩;have L:(((k+1:Nat):Int)-1)=(k:Nat):=Ω
  rw[Sort.heapBuild]at w;simp only[jl H,H.slc,H.ssc,je,L,F];refine H.doFn (lk:=i.toList) (by simpa using s) (R:=fun j=> ∃c,j=c.toList/\c=Sort.siftDown lt (b-a) a k i/\c.size=n) ((Wk H i s k (b-a) a Ω U Ω).mono fun r E ⟨p,c,f,B,A⟩=>⟨p,c.toList,f,c,rfl,B,A⟩) (by rintro j ⟨c,rfl,_,q⟩;simpa using q) (by simp[aH,aA,H.kdata (lk:=i.toList) (by simpa using s)]) ?_;rintro j ⟨c,rfl,p,f⟩;simp;((repeat' first|refine al ?_|simp|((first|apply cq|apply cu|apply ct)<;>intro h<;>try simp at h))<;>(try exact c0));refine bX.whl (k,c) Ψ ⟨f,by simp;omega,by rw[<-w,p]⟩ (H.weakC y (by simpa using f) dl)
 ·obtain rfl:k=0:=Ω
  rw[Sort.heapBuild]at w;have V:i.size=n:=s;refine H.loopA y [3,6,7] (fun(x:Nat×Array α)=>[(10,aj ((x.1:Int)-1))]) (·.2) (fun x=>x.1) (fun x=>x.2.size=n/\x.1<=b-a/\Sort.heapPop lt a x.1 x.2=Sort.heapPop lt a (b-a) i) (b-a,i) s ⟨s,Ψ,rfl⟩ gt aX aX mW ?_;rintro⟨k,t⟩ ⟨u,N,v⟩;simp only at u N v;simp[ae,H.slc,H.ssc];(with_reducible repeat' first|((first|apply cq|apply cu|apply ct)<;>intro h<;>try simp at h)|refine al ?_|simp[ae,H.slc,H.ssc])
  ·obtain⟨k,rfl⟩:∃bs,k=bs+1:=⟨k-1,Ω⟩;have L:(((k+1:Nat):Int)-1)=(k:Nat):=Ω
   have G:((a:Int)+k)=(a+k:Nat):=Ω
   rw[Sort.heapPop]at v;simp only[L,G];refine H.swapA u U _ _ Ω Ω fun o=>?_;have K:(Sort.swp t a (a+k)).size=n:=by rw[hQ,u]
   simp;simp only[jl H,H.slc,H.ssc,je];refine H.doFn (lk:=(Sort.swp t a (a+k)).toList) (by simpa using K) (R:=fun j=> ∃c,j=c.toList/\c=Sort.siftDown lt k a 0 (Sort.swp t a (a+k))/\c.size=n) ((Wk H (Sort.swp t a (a+k)) K 0 k a Ω U Ω).mono fun r E ⟨p,c,f,B,A⟩=>⟨p,c.toList,f,c,rfl,B,A⟩) (by rintro j ⟨c,rfl,_,q⟩;simpa using q) (by simp[aH,aA,H.kdata (lk:=(Sort.swp t a (a+k)).toList) (by simpa using K)]) ?_;rintro j ⟨c,rfl,p,f⟩;simp;((repeat' first|refine al ?_|simp|((first|apply cq|apply cu|apply ct)<;>intro h<;>try simp at h))<;>(try exact c0));refine bX.whl (k,c) Ψ ⟨f,by simp;omega,by rw[<-v,p]⟩ (H.weakC y (by simpa using f) dl)
  ·obtain rfl:k=0:=Ω
   rw[Sort.heapPop]at v;refine H.retA y u (.inr rfl) ⟨rfl,t,rfl,?_,u⟩;rw[Sort.heapSort,<-w,<-v]
def ajs(H:fS S n g cr lc ch lt)(d:Array α)(y:d.size=n)(a b:Nat)(L:a<=b)(N:b<=n):
  bE au 231 [fE g cr lc ch,aj a,aj b] (S d.toList) fun r K=>r= .tuple []/\∃u,K=S u.toList/\u=Sort.insertionSort lt d a b/\u.size=n:=by
 have z:=H.ok d.toList;have p:d.toList.length=n:=by simpa using y
 have s:∀l m,ae (.loc m) (S l).b=none:=fun l=>(H.ok l).obj.1;have hu:∀l m cs,cL (.loc m) cs (S l).b=(S l).b++[(.loc m,cs)]:=fun l m cs=>kO (s l m);have aq:∀m,aB.loc m∉cJ (S d.toList):=kJ z.obj;have hle:=H.le;refine bE.mk mixed a6 Tryz.func231 Z6 Ψ z.obj fun O M=>?_;unfold LK;simp[fE,hu,aq,c7,s];have G:((a:Int)+1)=(a+1:Nat):=Ω
 (repeat' first|refine al ?_|simp[hu,aq,c7,s]);rw[G];refine H.loopA p [1,2,3] (fun(x:Nat×Array α)=>[(6,aj x.1)]) (·.2) (fun x=>b+1-x.1) (fun x=>x.2.size=n/\x.1<=b+1/\Sort.insOuter lt a b x.1 x.2=Sort.insertionSort lt d a b) (a+1,d) y ⟨y,by simp;omega,rfl⟩ (by simp[c7,s]) aX aX dl ?_;rintro⟨i,v⟩ ⟨q,J,k⟩;simp only at q J k;rw[Sort.insOuter]at k;simp;(with_reducible repeat' first|((first|apply cq|apply cu|apply ct)<;>intro h<;>try simp at h)|refine al ?_|simp)
 ·rw[if_pos Ω]at k;refine H.loopA p [1,2,3,6] (fun(x:Nat×Array α)=>[(7,aj x.1)]) (·.2) (fun x=>x.1) (fun x=>x.2.size=n/\x.1<=i/\Sort.insInner lt a x.1 x.2=Sort.insInner lt a i v) (i,v) q ⟨q,Ψ,rfl⟩ gt aX aX dl ?_;rintro⟨j,f⟩ ⟨c,E,e⟩;simp only at c E e;simp[ae,H.slc,H.ssc];(with_reducible repeat' first|((first|apply cq|apply cu|apply ct)<;>intro h<;>try simp at h)|refine al ?_|simp[ae,H.slc,H.ssc])
  ·obtain⟨j,rfl⟩:∃dg,j=dg+1:=⟨j-1,Ω⟩;have F:(((j+1:Nat):Int)-1)=(j:Nat):=Ω
   have t:((i:Int)+1)=(i+1:Nat):=Ω
   have w:((j:Int)+1)=(j+1:Nat):=Ω
   rw[Sort.insInner]at e;have ay:decide (j+1>a)=true:=by simp;omega
   rw[F];refine H.lessA c _ _ Ω Ω fun o=>?_;cases A:lt f[j+1]! f[j]! with
   |true=>rw[if_pos (by rw[ay,A];rfl)]at e;simp;(repeat' first|refine al ?_|simp[ae,H.slc,H.ssc]);rw[w];refine H.swapA c Ω _ _ Ω Ω fun o=>?_;simp;(repeat' first|refine al ?_|simp);refine bX.whl (j,Sort.swp f (j+1) j) Ψ ⟨by rw[hQ,c],by simp;omega,e⟩ (H.weakC p (by simp[hQ,c]) dl)
   |false=>rw[if_neg (by simp[A])]at e;simp;((repeat' first|refine al ?_|simp|((first|apply cq|apply cu|apply ct)<;>intro h<;>try simp at h))<;>(try exact c0));rw[t];refine bX.whl (i+1,f) d6 ⟨c,by simp;omega,by rw[<-k,<-e]⟩ (H.weakC p (by simpa using c) dl)
  ·have t:((i:Int)+1)=(i+1:Nat):=Ω
   have B:Sort.insInner lt a j f=f:=by
    cases j with
    |zero=>rfl
    |succ j=>rw[Sort.insInner,if_neg d6]
   rw[t];refine bX.whl (i+1,f) d6 ⟨c,by simp;omega,by rw[<-k,<-e,B]⟩ (H.weakC p (by simpa using c) dl)
 ·rw[if_neg Ω]at k;exact H.retA p q (.inr rfl) ⟨rfl,v,rfl,k,q⟩
end
end Go.Proofs.YtahlgcidhnjlbaaGreat
