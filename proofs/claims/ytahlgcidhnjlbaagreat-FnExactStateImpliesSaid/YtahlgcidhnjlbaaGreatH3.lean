/- made by mk2.py: the code of the functions, and the checks against the program's own form. -/
import Derived.Test.YtahlgcidhnjlbaaGreatProg
import Derived.Shelf.Sort.Plain
import Derived.Ground.NamesProg
import Derived.Sort.OwnSortedInts
import Derived.Lib.OwnBridge
import Derived.Sort.AssemblyPlain
import Derived.Sort.LotD5
import Derived.Test.YtahlgcidhnjlbaaGreatH2
set_option linter.all false
set_option maxHeartbeats 4000000
open Bool renaming and_eq_true→cE,eq_iff_iff→qu,false_eq_true→hb,or_eq_true→mT
open Go renaming Program→cF
open Go.IntKind renaming bits→og,signed→sy,u64→hr,wrap→sA
open Go.IntWalk renaming i64_in→o8
open Go.Op renaming bytesLess→hC
open Go.Proofs.Tryz renaming prog→al
open Go.Value renaming cells→pR
open List renaming all_eq_true→hs,cons_append→bX,drop→nM,drop_eq_getElem_cons→lv,getElem?_eq_getElem→cl,getElem?_eq_none→qw,getElem?_eq_some_iff→fV,getElem_of_mem→nN,length_append→pS,length_cons→pT,length_drop→sC,map_cons→gS,mem_append→ka,mem_cons→gf,mem_filter→mV,mem_map→iC,mem_of_getElem?→dZ,nil_append→b3,pairwise_cons→mW,pairwise_iff_getElem→pU,take_of_length_le→hD
open List.Nodup renaming length_le_of_subset→Oy
open List.Pairwise renaming filter→Y9,imp_of_mem→aoS,sublist→aua
open List.Perm renaming eq_of_pairwise→Oz,swap→aub
open List.cons renaming injEq→qv
open Nat renaming le_refl→eY,le_trans→kc
open Ne renaming symm→k8
open Option renaming bind_eq_some_iff→kd,getD_none→hO,getD_some→h5,map_eq_some_iff→gT,map_some→oi
open Option.some renaming inj→fq,injEq→dM
open Prod.mk renaming injEq→jF
open _root_ renaming False→eA,UInt8→dm,beq_iff_eq→dS,congrArg→ff,decide_eq_false→h6,decide_eq_false_iff_not→hR,decide_eq_true→gU,decide_eq_true_eq→fK
namespace Go.Pv
open Go
structure bJ where
 v:Int
 k:Int
 deriving DecidableEq,Inhabited
def bJ.e(b:bJ):ah:= .agg [.int .i64 b.v,.int .i64 b.k]
@[simp] theorem bJ.eta(b:bJ):bJ.mk b.v b.k=b:=rfl
@[simp] theorem OR(v k:Int):ah.agg [.int .i64 v,.int .i64 k]=(bJ.mk v k).e:=rfl
@[simp] theorem arp(S:aH→Prop)(b:bJ):aF S b.e=True:=by simp[bJ.e,-OR]
@[simp] theorem atQ(b:bJ):dr b.e=b.e:=by simp[bJ.e,-OR]
theorem UP(S:aH→Prop):∀l:List bJ,aJ S (l.map bJ.e)
 |[]=>by simp[aJ]
 |x::xs=>by simp[aJ,UP S xs]
@[simp] theorem aq5(S:aH→Prop)(l:List bJ):aJ S (l.map bJ.e)=True:=eq_true (UP S l)
@[simp] theorem NG:∀l:List bJ,cW (l.map bJ.e)=l.map bJ.e
 |[]=>rfl
 |x::xs=>by simp[cW,NG xs]
@[simp] theorem atr(b:bJ):ei b.e=true:=rfl
@[simp] theorem apy(b:bJ):cells b.e=[.int .i64 b.v,.int .i64 b.k]:=rfl
@[simp] theorem aqN(b:bJ):Pv.isAgg 2 b.e:=⟨_,rfl,rfl⟩
@[simp] theorem ap7(off:Nat)(e8:Bool)(sz:Nat)(b:bJ):rB off e8 sz b.e=if e8 then some (off+sz≤2,.agg (([.int .i64 b.v,.int .i64 b.k].drop off).take sz))else(([.int .i64 b.v,.int .i64 b.k]:List ah)[off]?).map fun p=>(True,p):=rfl
@[simp] theorem apX(off:Nat)(e8:Bool)(sz:Nat)(b:bJ):p2 off e8 sz (.eptr b.e)=if e8 then some (off+sz≤2,.eptr (.agg (([.int .i64 b.v,.int .i64 b.k].drop off).take sz)))else(([.int .i64 b.v,.int .i64 b.k]:List ah)[off]?).map fun p=>(ei p=true∧cells p=[p],.eptr p):=rfl
structure bj where
 v:Int
 s:List dm
 deriving DecidableEq,Inhabited
def bj.e(b:bj):ah:= .agg [.int .i64 b.v,.str b.s]
@[simp] theorem bj.eta(b:bj):bj.mk b.v b.s=b:=rfl
@[simp] theorem IF(v:Int)(s:List dm):ah.agg [.int .i64 v,.str s]=(bj.mk v s).e:=rfl
@[simp] theorem ahx(S:aH→Prop)(b:bj):aF S b.e=True:=by simp[bj.e,-IF]
@[simp] theorem atV(b:bj):dr b.e=b.e:=by simp[bj.e,-IF]
theorem Lu(S:aH→Prop):∀l:List bj,aJ S (l.map bj.e)
 |[]=>by simp[aJ]
 |x::xs=>by simp[aJ,Lu S xs]
@[simp] theorem UR(S:aH→Prop)(l:List bj):aJ S (l.map bj.e)=True:=eq_true (Lu S l)
@[simp] theorem NH:∀l:List bj,cW (l.map bj.e)=l.map bj.e
 |[]=>rfl
 |x::xs=>by simp[cW,NH xs]
@[simp] theorem atv(b:bj):ei b.e=true:=rfl
@[simp] theorem apC(b:bj):cells b.e=[.int .i64 b.v,.str b.s]:=rfl
@[simp] theorem aqP(b:bj):Pv.isAgg 2 b.e:=⟨_,rfl,rfl⟩
@[simp] theorem ap8(off:Nat)(e8:Bool)(sz:Nat)(b:bj):rB off e8 sz b.e=if e8 then some (off+sz≤2,.agg (([.int .i64 b.v,.str b.s].drop off).take sz))else(([.int .i64 b.v,.str b.s]:List ah)[off]?).map fun p=>(True,p):=rfl
@[simp] theorem apY(off:Nat)(e8:Bool)(sz:Nat)(b:bj):p2 off e8 sz (.eptr b.e)=if e8 then some (off+sz≤2,.eptr (.agg (([.int .i64 b.v,.str b.s].drop off).take sz)))else(([.int .i64 b.v,.str b.s]:List ah)[off]?).map fun p=>(ei p=true∧cells p=[p],.eptr p):=rfl
def fl(x y:bj):Int:=if eH x.v y.v=0 then kL x.s y.s else eH x.v y.v
theorem lT:jG fl:=by
 refine⟨fun x y=>?_,fun x y z J U=>?_,fun x y=>?_⟩
 ·unfold fl;have:=ko.neg x.v y.v;have:=Ds.neg x.s y.s;by_cases e:eH x.v y.v=0
  ·rw[if_pos e,if_pos (by omega)];omega
  ·rw[if_neg e,if_neg (by omega)];omega
 ·unfold fl at J U⊢;by_cases ak:eH x.v y.v=0
  ·rw[if_pos ak]at J;rw[(ko.zero _ _).1 ak];by_cases aC:eH y.v z.v=0
   ·rw[if_pos aC]at U⊢;exact Ds.tr _ _ _ J U
   ·rw[if_neg aC]at U⊢;exact U
  ·rw[if_neg ak]at J;have bE:eH x.v y.v<0:=by omega
   by_cases aC:eH y.v z.v=0
   ·rw[←(ko.zero _ _).1 aC,if_neg ak];exact J
   ·rw[if_neg aC]at U;have:=ko.ltr bE U;rw[if_neg (by omega)];omega
 ·unfold fl;by_cases e:eH x.v y.v=0
  ·rw[if_pos e,Ds.zero];have:=(ko.zero _ _).1 e;cases x;cases y;simp_all
  ·rw[if_neg e];exact⟨fun h=>absurd h e,fun h=>by rw[h]at e;exact absurd (ko.refl _) e⟩
def tn(x y:bj):Bool:=decide (x.v<y.v)||(x.v==y.v&&hC x.s y.s)
theorem ZZ(a:List dm):hC a a=false:=by
 cases h:hC a a with
 |false=>rfl
 |true=>rw[IM a a h]at h;cases h
theorem VD(x y:bj):tn x y=hQ fl x y:=by
 unfold tn hQ fl;rw[qu];simp only[mT,fK,cE,dS];by_cases e:x.v=y.v
 ·have:eH x.v y.v=0:=(ko.zero _ _).2 e;rw[if_pos this];simp only[e,Int.lt_irrefl,false_or,true_and,kL];by_cases aC:x.s=y.s
  ·rw[if_pos aC,aC,ZZ];simp
  ·rw[if_neg aC];split<;>simp_all
 ·have bD:¬eH x.v y.v=0:=fun h=>e ((ko.zero _ _).1 h);rw[if_neg bD];simp only[e,false_and,or_false];unfold eH;(repeat' split)<;>omega
def il{α:Type}(p:α→Prop)(r:α→α→Prop)(l:List α)(i:Nat):Prop:= ∀b,l[i]? =some b→p b∧∀c,0<i→l[i-1]? =some c→r c b
theorem ON{α:Type}{p:α→Prop}{r:α→α→Prop}(aL:∀a b c,r a b→r b c→r a c){l:List α}:(∀i,i<l.length→il p r l i)↔(∀b∈l,p b)∧l.Pairwise r:=by
 constructor
 ·intro h;refine⟨fun b ae=>?_,?_⟩
  ·obtain⟨i,hi,e⟩:=nN ae;exact(h i hi b (by rw[cl hi,e])).1
  ·rw[pU];have jQ:∀i (h:i+1<l.length),r l[i] l[i+1]:=fun i hi=>(h (i+1) hi l[i+1] (by simp[cl hi])).2 l[i] (by omega) (by simp[cl (show i<l.length by omega)]);have:∀(d i:Nat) (h:i+d+1<l.length),r l[i] l[i+d+1]:=by
    intro d;induction d with
    |zero=>intro i h;exact jQ i h
    |succ d bZ=>intro i h;exact aL _ _ _ (bZ i (by omega)) (jQ (i+d+1) (by omega))
   intro i j hi af l7;have:=this (j-i-1) i (by omega);simpa[show i+(j-i-1)+1=j from by omega]using this
 ·rintro⟨J,U⟩ i hi b ae;refine⟨J b (dZ ae),fun c bD ay=>?_⟩;obtain⟨g1,ak⟩:=fV.1 ay;obtain⟨g2,aC⟩:=fV.1 ae;have:=pU.1 U (i-1) i g1 g2 (by omega);rw[ak,aC]at this;exact this
def km{α:Type}(c:α→α→Int)(x:α):List α→List α
 |[]=>[x]
 |y::l=>if c y x<0 then y::km c x l else if c y x=0 then y::l else x::y::l
section
variable {α:Type} {c:α→α→Int}
theorem GM(ay:jG c){x z:α}:∀{l:List α},z∈km c x l↔z=x∨z∈l
 |[]=>by simp[km]
 |y::l=>by
  simp only[km];split
  ·simp only[gf,GM ay (l:=l)];constructor
   ·rintro(h|h|h)
    ·exact .inr (.inl h)
    ·exact .inl h
    ·exact .inr (.inr h)
   ·rintro(h|h|h)
    ·exact .inr (.inl h)
    ·exact .inl h
    ·exact .inr (.inr h)
  ·split
   ·rename_i h;obtain rfl:=(ay.zero _ _).1 h;simp
   ·simp
theorem Le(ay:jG c){x:α}:∀{l:List α},hS c l→hS c (km c x l)
 |[],_=>by simp[km,hS]
 |y::l,h=>by
  obtain⟨J,U⟩:=mW.1 h;simp only[km];split
  ·rename_i ar;refine mW.2 ⟨fun z bq=>?_,Le ay U⟩;rcases(GM ay).1 bq with rfl|bq
   ·exact ar
   ·exact J z bq
  ·split
   ·exact h
   ·rename_i ar a8;have hZ:c x y<0:=by have:=ay.neg x y;omega
    refine mW.2 ⟨fun z bq=>?_,h⟩;rcases gf.1 bq with rfl|bq
    ·exact hZ
    ·exact ay.ltr hZ (by have:=J z bq;omega)
theorem Lg(x:α):∀l:List α,(km c x l).length≤l.length+1
 |[]=>by simp[km]
 |y::l=>by
  have:=Lg x l;simp only[km];split
  ·simp;omega
  ·split<;>simp
theorem Lf(ay:jG c)(x:α):∀(l:List α) (k:Nat),(∀i y,i<k→l[i]? =some y→c y x<0)→(∀y,l[k]? =some y→0≤c y x)→k≤l.length→km c x l=if(match l[k]? with|some y=>decide (c y x=0)|none=>false)=true then l else l.take k++x::l.drop k
 |[],k,_,_,ad=>by simp at ad;subst ad;simp[km]
 |y::l,0,_,U,_=>by
  have:=U y rfl;by_cases e:c y x=0
  ·simp[km,e]
  ·have ar:¬c y x<0:=by omega
   simp[km,ar,e]
 |y::l,k+1,J,U,ad=>by
  have bD:=J 0 y (by omega) rfl;simp only[km,if_pos bD,List.take_succ_cons,List.drop_succ_cons,bX,List.getElem?_cons_succ];rw[Lf ay x l k (fun i d hi aR=>J (i+1) d (by omega) (by simpa using aR)) (fun d aR=>U d (by simpa using aR)) (by simpa using ad)];cases l[k]? with
  |none=>rfl
  |some z=>simp only[];split<;>rfl
end
structure jl (l:List bJ):Prop where
 at':∀x∈l,(0≤x.v∧x.v≤100000)∧(x.k=2∨x.k=3)
 asc:l.Pairwise fun x y=>x.v<y.v
def ll(l:List bJ)(v:Int):Option Int:=(l.find? fun x=>x.v==v).map (·.k)
def lP(x:bJ):List bJ→List bJ
 |[]=>[x]
 |y::l=>if y.v<x.v then y::lP x l else x::y::l
theorem GN{x z:bJ}:∀{l:List bJ},z∈lP x l↔z=x∨z∈l
 |[]=>by simp[lP]
 |y::l=>by
  simp only[lP];split
  ·simp only[gf,GN (l:=l)];constructor
   ·rintro(h|h|h)
    ·exact .inr (.inl h)
    ·exact .inl h
    ·exact .inr (.inr h)
   ·rintro(h|h|h)
    ·exact .inr (.inl h)
    ·exact .inl h
    ·exact .inr (.inr h)
  ·simp
theorem Lh(x:bJ):∀l:List bJ,(lP x l).Perm (x::l)
 |[]=>.refl _
 |y::l=>by
  simp only[lP];split
  ·exact((Lh x l).cons y).trans (aub _ _ _)
  ·exact .refl _
theorem Gh{x:bJ}:∀{l:List bJ},l.Pairwise (fun x y=>x.v<y.v)→(∀y∈l,y.v≠x.v)→(lP x l).Pairwise fun x y=>x.v<y.v
 |[],_,_=>by simp[lP]
 |y::l,h,au=>by
  obtain⟨J,U⟩:=mW.1 h;have aG:=au y (by simp);simp only[lP];split
  ·rename_i ar;refine mW.2 ⟨fun z bq=>?_,Gh U fun z bq=>au z (by simp[bq])⟩;rcases GN.1 bq with rfl|bq
   ·exact ar
   ·exact J z bq
  ·refine mW.2 ⟨fun z bq=>?_,h⟩;rcases gf.1 bq with rfl|bq
   ·omega
   ·have:=J z bq;omega
theorem Ui(x:bJ):∀(l:List bJ) (k:Nat),(∀i y,i<k→l[i]? =some y→y.v<x.v)→(∀y,l[k]? =some y→¬y.v<x.v)→k≤l.length→lP x l=l.take k++x::l.drop k
 |[],k,_,_,ad=>by simp at ad;subst ad;rfl
 |y::l,0,_,U,_=>by have:=U y rfl;simp[lP,this]
 |y::l,k+1,J,U,ad=>by have bD:=J 0 y (by omega) rfl;simp only[lP,if_pos bD,List.take_succ_cons,List.drop_succ_cons,bX];rw[Ui x l k (fun i d hi aR=>J (i+1) d (by omega) (by simpa using aR)) (fun d aR=>U d (by simpa using aR)) (by simpa using ad)]
theorem Uy{l a1:List bJ}(bQ:a1.Perm l)(aR:l.Pairwise fun x y=>x.v<y.v)(ag:a1.Pairwise fun x y=>decide (y.v<x.v)=false):a1=l:=by
 refine Oz (le:=fun x y:bJ=>x.v≤y.v) (fun x y ab aG J U=>?_) (ag.imp (by simp)) (aR.imp (by omega)) bQ;have iu:x∈l:=bQ.mem_iff.1 ab;have rZ:y∈l:=aG;obtain⟨i,hi,rfl⟩:=nN iu;obtain⟨j,af,rfl⟩:=nN rZ;have:=pU.1 aR;rcases Nat.lt_trichotomy i j with h|h|h
 ·have:=this i j hi af h;omega
 ·subst h;rfl
 ·have:=this j i af hi h;omega
theorem yd{l:List bJ}{v:Int}:ll l v=none↔∀x∈l,x.v≠v:=by simp[ll]
theorem UG{l:List bJ}{v k:Int}(h:ll l v=some k):(⟨v,k⟩:bJ)∈l:=by unfold ll at h;rw[gT]at h;obtain⟨x,J,rfl⟩:=h;have U:=List.find?_some J;simp at U;subst U;exact List.mem_of_find?_eq_some J
theorem Gv{l:List bJ}(br:l.Pairwise fun x y=>x.v<y.v){x:bJ}(h:x∈l):ll l x.v=some x.k:=by
 induction l with
 |nil=>simp at h
 |cons y l bZ=>
  obtain⟨J,U⟩:=mW.1 br;rcases gf.1 h with rfl|h
  ·simp[ll]
  ·have:=J x h;have e:=bZ U h;unfold ll at e⊢;rw[List.find?_cons_of_neg (by simp;omega)];exact e
def iV(l:List bJ)(t:T)(k:Int):Option (List bJ):=match t with
 | .var n=>match ll l n with
  |some bH=>if bH=k then some l else none
  |none=>some (lP ⟨n,k⟩ l)
 |t=>if t.kind=k then some l else none
theorem Ex{l a1:List bJ}{t:T}{k:Int}(h:jl l)(aL:t.ok=true)(ad:k=2∨k=3)(he:iV l t k=some a1):jl a1:=by
 unfold iV at he;split at he
 ·rename_i n;split at he
  ·split at he
   ·cases he;exact h
   ·cases he
  ·rename_i au;cases he;rw[yd]at au;refine⟨fun x ab=>?_,Gh h.asc au⟩;rcases GN.1 ab with rfl|ab
   ·exact⟨by simpa[T.ok]using aL,ad⟩
   ·exact h.at' x ab
 ·split at he
  ·cases he;exact h
  ·cases he
theorem nZ{l:List bJ}(h:jl l):l.length≤100001:=by
 have J:(l.map (·.v)).Nodup:=by rw[List.nodup_iff_pairwise_ne,List.pairwise_map];exact h.asc.imp fun h e=>by omega
 have:=UE J fun v aK=>by obtain⟨x,ab,rfl⟩:=iC.1 aK;exact(h.at' x ab).1
 simpa using this
def gk(s:List ao):List bJ→List bJ→Option (List bJ)
 |[],acc=>some acc
 |x::r,acc=>match iV acc (b7 s x.v) x.k with
  |some a=>gk s r a
  |none=>none
structure gA (l:List bj):Prop where
 at':∀x∈l,(0≤x.v∧x.v≤100000)∧iv x.s=true
 asc:hS fl l
def _root_.Go.Pv.T.has(s:List dm):T→Bool
 | .sym n=>n==s
 | .pair a b=>a.has s||b.has s
 |_=>false
def jK(l:List bj)(t:T)(s:List dm):Option (List bj):=if t.has s then none else some (asc fl (l++(nL t).map fun v=>⟨v,s⟩))
theorem Eb{t:T}{v:Int}:v∈nL t↔t.occ v=true:=by
 refine⟨fun h=>?_,yl⟩;induction t with
 |var n=>simp[nL]at h;simp[T.occ,h]
 |pair a b dW dX=>simp only[nL,ka]at h;simp only[T.occ,mT];exact h.imp dW dX
 |_=>simp[nL]at h
theorem Av{l a1:List bj}{t:T}{s:List dm}(h:jK l t s=some a1)(x:bj):x∈a1↔x∈l∨(x.s=s∧t.occ x.v=true):=by
 unfold jK at h;split at h
 ·cases h
 ·cases h;rw[Vn,ka,iC];refine or_congr_right ?_;constructor
  ·rintro⟨v,aK,rfl⟩;exact⟨rfl,Eb.1 aK⟩
  ·rintro⟨J,U⟩;exact⟨x.v,Eb.2 U,by rw[←J]⟩
theorem IC{l a1:List bj}{t:T}{s:List dm}(cP:t.has s=false)(br:hS fl a1)(hm:∀x,x∈a1↔x∈l∨(x.s=s∧t.occ x.v=true)):jK l t s=some a1:=by
 have h:jK l t s=some (asc fl (l++(nL t).map fun v=>⟨v,s⟩)):=by unfold jK;rw[cP];rfl
 rw[h];congr 1;exact(IG lT _).ext lT br fun x=>by rw[hm,←Av h]
theorem Ey{l a1:List bj}{t:T}{s:List dm}(h:gA l)(aL:t.ok=true)(ag:iv s=true)(he:jK l t s=some a1):gA a1:=by
 refine⟨fun x ab=>?_,?_⟩
 ·rcases(Av he x).1 ab with J|⟨J,U⟩
  ·exact h.at' x J
  ·exact⟨w7 aL U,by rw[J];exact ag⟩
 ·unfold jK at he;split at he
  ·cases he
  ·cases he;exact IG lT _
def gl(s:List ao):List bj→List bj→Option (List bj)
 |[],acc=>some acc
 |x::r,acc=>match jK acc (b7 s x.v) x.s with
  |some a=>gl s r a
  |none=>none
end Go.Pv
namespace Go.Proofs.YtahlgcidhnjlbaaGreat
open Go Go.Pv
def Pw:C:=(aa [cw 1 0,bd 2 false] (aa [aS 3 4 1,c8 4 131 [.t 3,(fI 5000)],aV 5 .gtr 4 0,I 2 5] .ret))
@[simp] def Wv:List bB:=[.tmp 2]
@[simp] def asu:List bB:=[.tmp 2]
def PW:C:=(aa [c4 (.box 2 (some 201) (.t 0)),cw 3 1,cO 4 dY,bd 5 false] (aa [aS 6 4 3,b9 7 (.mkf 138 [.t 2]),b8 8 137 6 7,cn 9 0 8,cn 10 1 8,bz 4 4 9,I 5 10] .ret))
@[simp] def WN:List bB:=[.cell 4 true 4,.tmp 5]
def QX:C:=(aa [cO 2 dY] (aa [I 3 0,ha 4 dY [(0,1,(fI 1)),(1,1,(.t 3))],bz 4 2 4] .ret))
@[simp] def alS:List bB:=[.cell 2 true 4]
def zg:C:=(aa [cw 1 0,cO 2 dY] (aa [aB 6 0 1 1,av 7 1 6,aB 8 1 1 1,av 9 1 8,aB 10 2 1 1,av 11 1 10,ha 12 dY [(0,1,(.t 7)),(1,1,(.t 9)),(2,1,(.t 11))],cO 3 dY,bz 4 3 12] (.seq (aa [aB 13 3 1 1,av 14 1 13,cg 15 14,bU 16 0] (fp 17 16 15 (.seq (.block 1 (aa [cp 18 4 14 16,aS 19 4 18,cO 5 dY,bz 4 5 19] (.drawn true 29 [aB 20 3 1 3,av 21 1 20,aS 22 4 5,cA 23 130 22,eb 24 4 30 [.t 23],gR 25 4 30 21 24,aB 26 3 1 3,bz 1 26 25]))) (.region [aV 27 .add 16 1,I 16 27])))) (aa [aS 28 4 3,bz 4 2 28] .ret))))
@[simp] def alR:List bB:=[.cell 2 true 4]
def PS:C:=(aa [cw 2 0,bU 4 0] (.seq (aa [I 7 1,aV 8 .lss 7 1] (aU 8 (aa [bU 4 (-1)] .ret) .skip)) (.seq (aa [aB 9 0 1 2,av 10 1 9,aV 11 .neq 10 4] (aU 11 (.seq (aa [aB 12 3 1 2,av 13 1 12,cg 14 13,aV 15 .neq 14 0] (aU 15 (aa [bU 4 (-1)] .ret) .skip)) (.seq (aa [aB 16 0 1 2,av 17 1 16] (.block 0 (aa [aV 19 .eql 17 0,I 18 19] (aU 18 (aa [aB 20 1 1 2,av 21 1 20,aV 22 .neq 21 0,I 23 22,aq 23 false (aB 24 2 1 2),aq 23 false (av 25 1 24),xa 23 false 26 (.bin .neq false (.t 25) (.c (.str []))),cU 27 23 26] (aU 27 (aa [bU 4 (-1)] .ret) .skip)) (aa [aV 29 .eql 17 1,I 28 29] (aU 28 (aa [aB 30 1 1 2,av 31 1 30,aV 32 .lss 31 0,I 33 32,aq 33 false (aB 34 1 1 2),aq 33 false (av 35 1 34),aq 33 false (aV 36 .gtr 35 100000),cU 37 33 36,I 38 37,aq 38 false (aB 39 2 1 2),aq 38 false (av 40 1 39),xa 38 false 41 (.bin .neq false (.t 40) (.c (.str []))),cU 42 38 41] (aU 42 (aa [bU 4 (-1)] .ret) .skip)) (aa [aV 44 .eql 17 2,I 43 44] (aU 43 (aa [aB 45 1 1 2,av 46 1 45,aV 47 .neq 46 0,I 48 47,aq 48 false (aB 49 2 1 2),aq 48 false (av 50 1 49),aq 48 false (cA 51 160 50),aq 48 false (cd 52 51),cU 53 48 52] (aU 53 (aa [bU 4 (-1)] .ret) .skip)) (aa [aV 55 .eql 17 3,I 54 55] (aU 54 (aa [aB 56 1 1 2,av 57 1 56,aV 58 .lss 57 (-1000000000),I 59 58,aq 59 false (aB 60 1 1 2),aq 59 false (av 61 1 60),aq 59 false (aV 62 .gtr 61 1000000000),cU 63 59 62,I 64 63,aq 64 false (aB 65 2 1 2),aq 64 false (av 66 1 65),xa 64 false 67 (.bin .neq false (.t 66) (.c (.str []))),cU 68 64 67] (aU 68 (aa [bU 4 (-1)] .ret) .skip)) (aa [bU 4 (-1)] .ret))))))))))) (aa [bU 4 1] .ret))) .skip)) (.seq (aa [aB 69 1 1 2,av 70 1 69,aV 71 .neq 70 0,I 72 71,aq 72 false (aB 73 2 1 2),aq 72 false (av 74 1 73),xa 72 false 75 (.bin .neq false (.t 74) (.c (.str []))),cU 76 72 75,I 77 76,aq 77 false (aB 78 3 1 2),aq 77 false (av 79 1 78),aq 77 false (cg 80 79),aq 77 false (aV 81 .neq 80 2),cU 82 77 81] (aU 82 (aa [bU 4 (-1)] .ret) .skip)) (aa [aB 83 3 1 2,av 84 1 83,jY 85 4 84 0,aS 86 4 85,I 87 1,aV 88 .sub 87 1,b8 89 131 86 88,I 5 89] (.seq (aa [I 90 5,aV 91 .lss 90 0] (aU 91 (aa [bU 4 (-1)] .ret) .skip)) (aa [aB 92 3 1 2,av 93 1 92,jY 94 4 93 1,aS 95 4 94,I 96 1,aV 97 .sub 96 1,I 98 5,bn 99 .sub 97 98,b8 100 131 95 99,I 6 100] (.seq (aa [I 101 6,aV 102 .lss 101 0] (aU 102 (aa [bU 4 (-1)] .ret) .skip)) (aa [I 103 5,b9 104 (.bin .add false (fI 1) (.t 103)),I 105 6,bn 106 .add 104 105,I 4 106] .ret)))))))))
@[simp] def Hj:List bB:=[.tmp 4]
def ER:C:=(aa [cw 2 0,cw 3 1,bU 4 0] (.seq (aa [aB 6 0 1 2,av 7 1 6,aB 8 0 1 3,av 9 1 8,bn 10 .neq 7 9] (aU 10 (aa [aB 11 0 1 2,av 12 1 11,aB 13 0 1 3,av 14 1 13,b8 15 190 12 14,I 4 15] .ret) .skip)) (.seq (aa [aB 16 1 1 2,av 17 1 16,aB 18 1 1 3,av 19 1 18,bn 20 .neq 17 19] (aU 20 (aa [aB 21 1 1 2,av 22 1 21,aB 23 1 1 3,av 24 1 23,b8 25 190 22 24,I 4 25] .ret) .skip)) (.seq (aa [aB 26 2 1 2,av 27 1 26,aB 28 2 1 3,av 29 1 28,bn 30 .neq 27 29] (aU 30 (.seq (aa [aB 31 2 1 2,av 32 1 31,aB 33 2 1 3,av 34 1 33,bn 35 .lss 32 34] (aU 35 (aa [bU 4 (-1)] .ret) .skip)) (aa [bU 4 1] .ret)) .skip)) (.seq (aa [aB 36 0 1 2,av 37 1 36,aV 38 .neq 37 4] (aU 38 (aa [bU 4 0] .ret) .skip)) (.seq (.seq (.drawn true 60 [aB 39 3 1 2,av 40 1 39,jY 41 4 40 0,aS 42 4 41,aB 43 3 1 3,av 44 1 43,jY 45 4 44 0,aS 46 4 45,b8 47 133 42 46,I 5 47]) (aa [I 48 5,aV 49 .neq 48 0] (aU 49 (aa [I 50 5,I 4 50] .ret) .skip))) (.seq (.drawn true 60 [aB 51 3 1 2,av 52 1 51,jY 53 4 52 1,aS 54 4 53,aB 55 3 1 3,av 56 1 55,jY 57 4 56 1,aS 58 4 57,b8 59 133 54 58,I 4 59]) .ret)))))))
@[simp] def Hk:List bB:=[.tmp 4]
def xp:C:=(aa [cw 2 0] (.seq (aa [aB 4 0 1 2,av 5 1 4,aV 6 .eql 5 1] (aU 6 (.region [I 7 1,aB 8 1 1 2,av 9 1 8,gM 10 7 [.t 9]]) .skip)) (aa [aB 11 0 1 2,av 12 1 11,aV 13 .eql 12 4] (aU 13 (aa [aB 14 3 1 2,av 15 1 14,jY 16 4 15 0,aS 17 4 16,I 18 1,b8 19 134 17 18] (.region [aB 20 3 1 2,av 21 1 20,jY 22 4 21 1,aS 23 4 22,I 24 1,b8 25 134 23 24])) .skip))))
@[simp] def yz:List bB:=[]
@[simp] def asv:List bB:=[]
def P1:C:=(aa [eu 2 1] (aa [c4 (.bslm 5 (some 306) 1 3 []),I 3 5] (.seq (aa [I 6 0,c4 (.range 7 none (.t 6))] (.block 0 (.loop (aa [⟨none,.next 8 (.t 7)⟩,cn 9 0 8] (.seq (aU 9 .skip (.exit 0)) (.block 1 (aa [b9 10 (.ment (.t 7)),cn 11 0 10,I 4 11] (.region [I 12 3,I 13 4,eb 14 1 3 [.t 13],c4 (.appm 15 none 1 3 (.t 12) (.t 14)),I 3 15])))))))) (aa [I 16 3,cA 17 191 16] (.seq (.pub 3 (.region [I 18 3,I 2 18])) .ret)))))
@[simp] def WQ:List bB:=[.tmp 2]
def PY:C:=(aa [cw 2 0,c4 (.box 3 (some 202) (.t 1)),cO 4 dY,bd 5 false] (aa [aS 7 4 2,b9 8 (.mkf 193 [.t 3]),b8 9 192 7 8,I 6 9] (.seq (aa [I 10 6,aV 11 .gtr 10 5000] (aU 11 (aa [ha 12 dY [],bz 4 4 12,bd 5 false] .ret) .skip)) (aa [aS 13 4 2,av 14 1 3,b8 15 194 13 14,bz 4 4 15,bd 5 true] .ret))))
@[simp] def ML:List bB:=[.cell 4 true 4,.tmp 5]
def PX:C:=(aa [cO 3 dY,bd 4 false] (.seq (aa [av 6 1 1,I 7 0,b8 8 139 6 7,I 5 8] (aa [I 9 5,aV 10 .geq 9 0] (aU 10 (aa [av 11 1 1,I 12 5,cp 13 5 11 12,gY 14 1 4 13,aS 15 4 14,bz 4 3 15,bd 4 true] .ret) .skip))) (aa [ha 16 dY [],bz 4 3 16,bd 4 false] .ret)))
@[simp] def MK:List bB:=[.cell 3 true 4,.tmp 4]
def PN:C:=(aa [c4 (.box 2 (some 101) (.t 0)),c4 (.box 3 (some 102) (.t 1)),bU 4 0] (aa [av 6 1 2,cg 7 6,b9 8 (.mkf 196 [.t 2,.t 3]),b8 9 195 7 8,I 5 9] (.seq (.seq (.drawn true 24 [I 10 5,av 11 1 2,cg 12 11,bn 13 .lss 10 12,I 14 13,aq 14 true (av 15 1 2),b6 14 true 16 5,aq 14 true (cp 17 5 15 16),aq 14 true (aB 18 0 1 17),aq 14 true (av 19 1 18),aq 14 true (av 20 1 3),aq 14 true (bn 21 .eql 19 20),dD 22 14 21]) (aU 22 (aa [I 23 5,I 4 23] .ret) .skip)) (aa [bU 4 (-1)] .ret))))
@[simp] def WI:List bB:=[.tmp 4]
def PL:C:=(aa [cw 2 0,cw 3 1,bd 4 false] (aa [aS 5 4 2,aS 6 4 3,b8 7 133 5 6,aV 8 .eql 7 0,I 4 8] .ret))
@[simp] def WG:List bB:=[.tmp 4]
def I0:C:=(aa [cw 1 0,cO 2 dY] (.seq (aa [aB 3 0 1 1,av 4 1 3,aV 5 .neq 4 4] (aU 5 (aa [aB 6 0 1 1,av 7 1 6,aB 8 1 1 1,av 9 1 8,aB 10 2 1 1,av 11 1 10,ha 12 dY [(0,1,(.t 7)),(1,1,(.t 9)),(2,1,(.t 11))],bz 4 2 12] .ret) .skip)) (.seq (.drawn true 25 [aB 13 3 1 1,av 14 1 13,jY 15 4 14 0,aS 16 4 15,cA 17 143 16,aB 18 3 1 1,av 19 1 18,jY 20 4 19 1,aS 21 4 20,cA 22 143 21,eb 23 4 30 [.t 17,.t 22],ha 24 dY [(0,1,(fI 4)),(3,1,(.t 23))],bz 4 2 24]) .ret)))
@[simp] def ak4:List bB:=[.cell 2 true 4]
def Py:C:=(aa [bd 2 false] (.seq (aa [I 5 0,cg 6 5,aV 7 .gtr 6 400] (aU 7 (aa [bd 2 false] .ret) .skip)) (.seq (aa [I 8 0,cg 9 8,bU 10 0] (fp 11 10 9 (.seq (.block 1 (aa [I 12 10,cp 13 5 8 10,aS 14 5 13,cO 4 iK,I 3 12,bz 5 4 14] (.seq (.drawn true 45 [aB 15 0 1 4,av 16 1 15,aV 17 .lss 16 0,I 18 17,aq 18 false (aB 19 0 1 4),aq 18 false (av 20 1 19),aq 18 false (aV 21 .gtr 20 100000),cU 22 18 21,I 23 22,b6 23 false 24 3,aq 23 false (aV 25 .gtr 24 0),b6 23 false 26 25,b6 26 true 27 0,b6 26 true 28 3,aq 26 true (aV 29 .sub 28 1),aq 26 true (cp 30 5 27 29),aq 26 true (aB 31 0 1 30),aq 26 true (av 32 1 31),aq 26 true (aB 33 0 1 4),aq 26 true (av 34 1 33),aq 26 true (bn 35 .geq 32 34),aq 23 false (dD 36 26 35),cU 37 23 36,I 38 37,aq 38 false (gY 39 1 4 4),aq 38 false (aS 40 4 39),aq 38 false (cA 41 64 40),aq 38 false (cd 42 41),cU 43 38 42]) (aU 43 (aa [bd 2 false] .ret) .skip)))) (.region [aV 44 .add 10 1,I 10 44])))) (aa [bd 2 true] .ret))))
@[simp] def He:List bB:=[.tmp 2]
def Pm:C:=(aa [bd 2 false] (.seq (aa [I 4 0,b9 5 (.slen (.t 4)),aV 6 .lss 5 1,I 7 6,b6 7 false 8 0,aq 7 false (b9 9 (.slen (.t 8))),aq 7 false (aV 10 .gtr 9 12),cU 11 7 10,I 12 11,b6 12 false 13 0,aq 12 false (b9 14 (.sidx (.t 13) (fI 0))),aq 12 false (b9 15 (.bin .lss false (.t 14) (.c (.int .u8 97)))),cU 16 12 15,I 17 16,b6 17 false 18 0,aq 17 false (b9 19 (.sidx (.t 18) (fI 0))),aq 17 false (b9 20 (.bin .gtr false (.t 19) (.c (.int .u8 122)))),cU 21 17 20] (aU 21 (aa [bd 2 false] .ret) .skip)) (.seq (aa [bU 3 1] (.block 0 (.loop (.seq (aa [I 22 3,I 23 0,b9 24 (.slen (.t 23)),bn 25 .lss 22 24] (aU 25 .skip (.exit 0))) (.seq (.block 1 (aa [I 28 0,I 29 3,b9 30 (.sidx (.t 28) (.t 29)),b9 31 (.bin .geq false (.t 30) (.c (.int .u8 97))),I 32 31,b6 32 true 33 0,b6 32 true 34 3,aq 32 true (b9 35 (.sidx (.t 33) (.t 34))),aq 32 true (b9 36 (.bin .leq false (.t 35) (.c (.int .u8 122)))),dD 37 32 36,I 38 37,b6 38 false 39 0,b6 38 false 40 3,aq 38 false (b9 41 (.sidx (.t 39) (.t 40))),aq 38 false (b9 42 (.bin .geq false (.t 41) (.c (.int .u8 48)))),b6 38 false 43 42,b6 43 true 44 0,b6 43 true 45 3,aq 43 true (b9 46 (.sidx (.t 44) (.t 45))),aq 43 true (b9 47 (.bin .leq false (.t 46) (.c (.int .u8 57)))),aq 38 false (dD 48 43 47),cU 49 38 48,I 50 49,b6 50 false 51 0,b6 50 false 52 3,aq 50 false (b9 53 (.sidx (.t 51) (.t 52))),aq 50 false (b9 54 (.bin .eql false (.t 53) (.c (.int .u8 45)))),cU 55 50 54,cd 56 55] (aU 56 (aa [bd 2 false] .ret) .skip))) (.region [I 26 3,aV 27 .add 26 1,I 3 27])))))) (aa [bd 2 true] .ret))))
@[simp] def Hc:List bB:=[.tmp 2]
def I2:C:=(aa [bd 2 false] (.seq (aa [I 5 0,cg 6 5,bU 7 0] (fp 8 7 6 (.seq (.block 1 (aa [cp 9 4 5 7,aS 10 4 9,cO 4 dY,bz 4 4 10] (aa [aS 11 4 4,cA 12 64 11,cd 13 12] (aU 13 (aa [bd 2 false] .ret) .skip)))) (.region [aV 14 .add 7 1,I 7 14])))) (aa [bd 2 true] .ret)))
@[simp] def ak7:List bB:=[.tmp 2]
def QU:C:=(aa [cw 2 0,cw 3 1,cO 4 dY] (aa [aS 5 4 2,aS 6 4 3,eb 7 4 30 [.t 5,.t 6],ha 8 dY [(0,1,(fI 4)),(3,1,(.t 7))],bz 4 4 8] .ret))
@[simp] def W2:List bB:=[.cell 4 true 4]
def PU:C:=(aa [bU 4 0] (.seq (aa [I 5 0,I 6 1,bn 7 .lss 5 6] (aU 7 (aa [bU 4 (-1)] .ret) .skip)) (.seq (aa [I 8 0,I 9 1,bn 10 .gtr 8 9] (aU 10 (aa [bU 4 1] .ret) .skip)) (aa [bU 4 0] .ret))))
@[simp] def WL:List bB:=[.tmp 4]
def vB:C:=(aa [cw 2 0,bU 4 0] (.seq (aa [aB 6 0 1 2,av 7 1 6] (.block 0 (aa [aV 9 .eql 7 1,I 8 9] (aU 8 (aa [I 10 1,aB 11 1 1 2,av 12 1 11,gM 13 10 [.t 12],b9 14 (.min2 (.t 13) (fI 5001)),I 4 14] .ret) (aa [aV 16 .eql 7 4,I 15 16] (aU 15 (aa [aB 17 3 1 2,av 18 1 17,jY 19 4 18 0,aS 20 4 19,I 21 1,b8 22 192 20 21,I 5 22] (.seq (aa [I 23 5,aV 24 .gtr 23 5000] (aU 24 (aa [I 25 5,I 4 25] .ret) .skip)) (aa [I 26 5,b9 27 (.bin .add false (fI 1) (.t 26)),aB 28 3 1 2,av 29 1 28,jY 30 4 29 1,aS 31 4 30,I 32 1,b8 33 192 31 32,bn 34 .add 27 33,b9 35 (.min2 (.t 34) (fI 5001)),I 4 35] .ret))) .skip)))))) (aa [bU 4 1] .ret)))
@[simp] def vb:List bB:=[.tmp 4]
def PZ:C:=(aa [bU 3 0] (.seq (aa [av 7 1 1,I 8 0,gM 9 7 [.t 8],I 6 9,cn 10 0 6,cn 11 1 6,cO 4 dY,bz 4 4 10,I 5 11] (aa [I 12 5] (aU 12 (aa [aS 13 4 4,c8 14 131 [.t 13,(fI 5000)],I 3 14] .ret) .skip))) (aa [bU 3 1] .ret)))
@[simp] def WO:List bB:=[.tmp 3]
def xq:C:=(aa [cw 2 0,cO 4 dY] (.seq (aa [aB 7 0 1 2,av 8 1 7] (.block 0 (aa [aV 10 .eql 8 1,I 9 10] (aU 9 (.seq (aa [I 12 1,aB 13 1 1 2,av 14 1 13,gM 15 12 [.t 14],I 11 15,cn 16 0 11,cn 17 1 11,cO 5 dY,bz 4 5 16,I 6 17] (aa [I 18 6] (aU 18 (aa [aS 19 4 5,cA 20 143 19,bz 4 4 20] .ret) .skip))) (aa [aS 21 4 2,bz 4 4 21] .ret)) (aa [aV 23 .eql 8 4,I 22 23] (aU 22 (.seq (.drawn false 38 [aB 24 3 1 2,av 25 1 24,jY 26 4 25 0,aS 27 4 26,I 28 1,b8 29 194 27 28,aB 30 3 1 2,av 31 1 30,jY 32 4 31 1,aS 33 4 32,I 34 1,b8 35 194 33 34,b8 36 221 29 35,bz 4 4 36]) .ret) .skip)))))) (aa [aS 37 4 2,bz 4 4 37] .ret)))
@[simp] def yA:List bB:=[.cell 4 true 4]
def Qp:C:=(aa [bU 4 0] (aa [I 8 0,bU 5 0,I 6 8] (.seq (.block 0 (.loop (.seq (aa [I 9 5,I 10 6,bn 11 .lss 9 10] (aU 11 .skip (.exit 0))) (.block 1 (aa [I 12 5,I 13 6,bn 14 .add 12 13,b9 15 (.conv .u64 (.t 14)),b9 16 (.bin .shr false (.t 15) (.c (.int .u64 1))),b9 17 (.conv .i64 (.t 16)),I 7 17] (aa [I 18 1,I 19 7,gM 20 18 [.t 19],cd 21 20] (aU 21 (.region [I 22 7,aV 23 .add 22 1,I 5 23]) (.region [I 24 7,I 6 24])))))))) (aa [I 25 5,I 4 25] .ret))))
@[simp] def WR:List bB:=[.tmp 4]
def PO:C:=(aa [bd 4 false] (.seq (.drawn true 12 [av 5 1 1,I 6 0,cp 7 5 5 6,aB 8 0 1 7,av 9 1 8,av 10 1 2,bn 11 .geq 9 10,I 4 11]) .ret))
@[simp] def WJ:List bB:=[.tmp 4]
def PV:C:=(aa [cw 2 0,cw 3 1,cO 4 dY] (aa [aS 5 4 2,aS 6 4 3,eb 7 4 30 [.t 5,.t 6],ha 8 dY [(0,1,(fI 4)),(3,1,(.t 7))],bz 4 4 8] .ret))
@[simp] def WM:List bB:=[.cell 4 true 4]
def bC:List (Nat×dI):=[
 (3,⟨1,8,.int .i64,.int .i64 0⟩),
 (9,⟨1,16,.str,.str []⟩),
 (27,⟨1,24,.slice 30,.slice 4 .nil []⟩),
 (30,⟨4,56,.struct [(0,3),(1,3),(2,9),(3,27)],.agg [.int .i64 0,.int .i64 0,.str [],.slice 4 .nil []]⟩),
 (46,⟨1,24,.slice 113,.slice 5 .nil []⟩),
 (76,⟨1,24,.slice 3,.slice 1 .nil []⟩),
 (113,⟨5,64,.struct [(0,3),(1,30)],.agg [.int .i64 0,.int .i64 0,.int .i64 0,.str [],.slice 4 .nil []]⟩),
 (136,⟨1,8,.map 3 4,.junk⟩),
 (141,⟨1,8,.other,.junk⟩),
 (192,⟨1,8,.int .u64,.int .u64 0⟩)]
theorem mixed:al.follows .mixedOrders=true:=by kernel_rfl
theorem bc{bC:List (Nat×dI)}(aL:fU al bC=true){f:FuncId}{fn:Func}(aI:al.funcs[f]? =some fn){c:C}{eN:List bB}{n:Nat}(eJ:bY bC c eN n fn=true){args:List ah}{r:ah}(he:ey args→c0 al [] c (bu eN r) ⟨jW 0 args,[],[],0,[]⟩)(aw:args.length≤n:=by simp)(aM:aF (fun _=>eA) r:=by simp[aF]):bt al f args r:=bt.mk mixed aL aI eJ aw aM he
theorem fQ:fU al bC=true:=by kernel_rfl
theorem aiR:bY bC Pw Wv 1 Tryz.f64=true:=by kernel_rfl
theorem aci:al.funcs[(64:Nat)]? =some Tryz.f64:=Tryz.func64
theorem ajg:bY bC PW WN 2 Tryz.f69=true:=by kernel_rfl
theorem acJ:al.funcs[(69:Nat)]? =some Tryz.f69:=Tryz.func69
theorem akh:bY bC QX alS 1 Tryz.f114=true:=by kernel_rfl
theorem adM:al.funcs[(114:Nat)]? =some Tryz.f114:=Tryz.func114
theorem Dm:bY bC zg alR 1 Tryz.f130=true:=by kernel_rfl
theorem BX:al.funcs[(130:Nat)]? =some Tryz.f130:=Tryz.func130
theorem ajc:bY bC PS Hj 2 Tryz.f131=true:=by kernel_rfl
theorem acF:al.funcs[(131:Nat)]? =some Tryz.f131:=Tryz.func131
theorem Mi:bY bC ER Hk 2 Tryz.f133=true:=by kernel_rfl
theorem JL:al.funcs[(133:Nat)]? =some Tryz.f133:=Tryz.func133
theorem AJ:bY bC xp yz 2 Tryz.f134=true:=by kernel_rfl
theorem zp:al.funcs[(134:Nat)]? =some Tryz.f134:=Tryz.func134
theorem ajl:bY bC P1 WQ 1 Tryz.f136=true:=by kernel_rfl
theorem acO:al.funcs[(136:Nat)]? =some Tryz.f136:=Tryz.func136
theorem aji:bY bC PY ML 2 Tryz.f137=true:=by kernel_rfl
theorem acL:al.funcs[(137:Nat)]? =some Tryz.f137:=Tryz.func137
theorem ajh:bY bC PX MK 2 Tryz.f138=true:=by kernel_rfl
theorem acK:al.funcs[(138:Nat)]? =some Tryz.f138:=Tryz.func138
theorem ai8:bY bC PN WI 2 Tryz.f139=true:=by kernel_rfl
theorem acB:al.funcs[(139:Nat)]? =some Tryz.f139:=Tryz.func139
theorem ai6:bY bC PL WG 2 Tryz.f142=true:=by kernel_rfl
theorem acz:al.funcs[(142:Nat)]? =some Tryz.f142:=Tryz.func142
theorem VV:bY bC I0 ak4 1 Tryz.f143=true:=by kernel_rfl
theorem R6:al.funcs[(143:Nat)]? =some Tryz.f143:=Tryz.func143
theorem aiT:bY bC Py He 1 Tryz.f158=true:=by kernel_rfl
theorem ack:al.funcs[(158:Nat)]? =some Tryz.f158:=Tryz.func158
theorem aiI:bY bC Pm Hc 1 Tryz.f160=true:=by kernel_rfl
theorem ab8:al.funcs[(160:Nat)]? =some Tryz.f160:=Tryz.func160
theorem VX:bY bC I2 ak7 1 Tryz.f172=true:=by kernel_rfl
theorem R8:al.funcs[(172:Nat)]? =some Tryz.f172:=Tryz.func172
theorem ake:bY bC QU W2 2 Tryz.f189=true:=by kernel_rfl
theorem adJ:al.funcs[(189:Nat)]? =some Tryz.f189:=Tryz.func189
theorem aje:bY bC PU WL 2 Tryz.f190=true:=by kernel_rfl
theorem acH:al.funcs[(190:Nat)]? =some Tryz.f190:=Tryz.func190
theorem yr:bY bC vB vb 2 Tryz.f192=true:=by kernel_rfl
theorem xw:al.funcs[(192:Nat)]? =some Tryz.f192:=Tryz.func192
theorem ajj:bY bC PZ WO 2 Tryz.f193=true:=by kernel_rfl
theorem acM:al.funcs[(193:Nat)]? =some Tryz.f193:=Tryz.func193
theorem AK:bY bC xq yA 2 Tryz.f194=true:=by kernel_rfl
theorem zq:al.funcs[(194:Nat)]? =some Tryz.f194:=Tryz.func194
theorem ajJ:bY bC Qp WR 2 Tryz.f195=true:=by kernel_rfl
theorem ade:al.funcs[(195:Nat)]? =some Tryz.f195:=Tryz.func195
theorem ai9:bY bC PO WJ 3 Tryz.f196=true:=by kernel_rfl
theorem acC:al.funcs[(196:Nat)]? =some Tryz.f196:=Tryz.func196
theorem ajf:bY bC PV WM 2 Tryz.f221=true:=by kernel_rfl
theorem acI:al.funcs[(221:Nat)]? =some Tryz.f221:=Tryz.func221
def ag8(s:List dm)(k:Nat)(st:bs):Prop:=∃i:Nat,1≤i∧i≤s.length∧k=s.length-i∧((s.drop 1).all mF=(s.drop i).all mF)∧st=⟨[(0,.str s),(3,.int .i64 i)],[],[],0,[]⟩
theorem tK(s:List dm):bt al 160 [.str s] (.bool (iv s)):=by
 refine bt.mk mixed fQ ab8 aiI (by simp) (by simp[aF]) fun ae=>?_;unfold Pm;simp;(with_reducible repeat' first|((first|refine bK (fun h=>?_) fun h=>?_|refine bM (fun h=>?_) fun h=>?_|refine bL (fun h=>?_) fun h=>?_)<;>try simp at h)|refine aj ?_|simp);case refine_1.refine_1.refine_1.refine_2=>
  have aga:iv s=(s.drop 1).all mF:=by simp[iv,low];omega
  rw[aga];refine pA (ag8 s) (s.length-1) _ ⟨by simp,by simp[gL],by simp[o1],by simp⟩ ⟨1,by omega,by omega,rfl,rfl,rfl⟩ ?_;rintro k st ⟨i,l6,hL,ad,lD,rfl⟩ kX cT;rw[lD];simp;refine bK (fun bE=>?_) (fun uF=>?_)
  ·simp at bE;have aR:s.drop i=s[i]?.getD 0::s.drop (i+1):=by rw[lv bE];simp[bE]
   simp;(with_reducible repeat' first|((first|refine bK (fun h=>?_) fun h=>?_|refine bM (fun h=>?_) fun h=>?_|refine bL (fun h=>?_) fun h=>?_)<;>try simp at h)|refine aj ?_|simp);all_goals first
    |(simp[bu,Hc,aY,aZ,aW,aR,mF,low];omega)
    |(simp only[El];refine⟨s.length-(i+1),_,by omega,⟨by simp,by simp[gL],by simp[o1],by simp⟩,i+1,by omega,by omega,rfl,?_,rfl⟩;rw[lD,aR];simp[mF,low];omega)
  ·simp at uF;have:s.drop i=[]:=by simp;omega
   simp[bu,Hc,aY,aZ,aW,this]
 all_goals simp[bu,Hc,aY,aZ,aW,iv,low]
 all_goals omega
theorem YL(m:Nat):∀(t:bI),t.sz≤m→∀(room:Int),0≤room∧room≤10000→bt al 131 [enc t,.int .i64 room] (.int .i64 (fA t room)):=by
 induction m with
 |zero=>intro t aL;cases t;simp[bI.sz]at aL
 |succ m bZ=>
 rintro⟨k,n,s,args⟩ aL room rW;refine bc fQ acF ajc fun aN=>?_;unfold PS;simp[bI.kind,bI.num,bI.name,bI.args];(with_reducible repeat' first|((first|refine bK (fun h=>?_) fun h=>?_|refine bM (fun h=>?_) fun h=>?_|refine bL (fun h=>?_) fun h=>?_)<;>try simp at h)|refine aj ?_|simp);all_goals try refine c9.val (by simp) (tK _) ?_
 all_goals try simp
 (with_reducible repeat' first|((first|refine bK (fun h=>?_) fun h=>?_|refine bM (fun h=>?_) fun h=>?_|refine bL (fun h=>?_) fun h=>?_)<;>try simp at h)|refine aj ?_|simp);all_goals try simp[bu,Hj,aY,aZ,aW]
 case succ.refine_2.refine_2.refine_1.refine_1.refine_2=>
  rename_i bD J U ar;match args,h with
  |[a,b],_=>
  simp[bI.sz,bI.szL]at aL;subst J U ar;simp;(with_reducible repeat' first|((first|refine bK (fun h=>?_) fun h=>?_|refine bM (fun h=>?_) fun h=>?_|refine bL (fun h=>?_) fun h=>?_)<;>try simp at h)|refine aj ?_|simp);refine c9.val (by simp) (bZ a (by omega) (room-1) (by omega)) ?_;simp;have br:=L6 a (room-1);have nm:=Dh a (room-1);(with_reducible repeat' first|((first|refine bK (fun h=>?_) fun h=>?_|refine bM (fun h=>?_) fun h=>?_|refine bL (fun h=>?_) fun h=>?_)<;>try simp at h)|refine aj ?_|simp)
  ·simp[bu,Hj,aY,aZ,aW];rw[L5];simp;omega
  ·refine c9.val (by simp) (bZ b (by omega) (room-1-fA a (room-1)) (by omega)) ?_;simp;have ae:=L6 b (room-1-fA a (room-1));have gb:=Dh b (room-1-fA a (room-1));(with_reducible repeat' first|((first|refine bK (fun h=>?_) fun h=>?_|refine bM (fun h=>?_) fun h=>?_|refine bL (fun h=>?_) fun h=>?_)<;>try simp at h)|refine aj ?_|simp);all_goals simp[bu,Hj,aY,aZ,aW]
   all_goals rw[L5];simp;omega
 all_goals rw[L5]
 all_goals simp_all[ln]
 all_goals first|omega|(split<;>simp at h⊢)
theorem H7(t:bI):bt al 64 [enc t] (.bool t.fits):=by refine bc fQ aci aiR fun aN=>?_;unfold Pw;simp;refine c9.val (by simp) (YL t.sz t (eY _) 5000 (by omega)) ?_;simp;simp[bu,Wv,aY,aZ,aW];simp[bI.fits]
theorem anv(t:T):bt al 64 [t.e] (.bool t.fit):=by have:=H7 t.tm;rwa[hU,bI.fits_T]at this
theorem If(a b:T):bt al 221 [a.e,b.e] (T.pair a b).e:=by refine bc fQ acI ajf fun aN=>?_;unfold PV;simp;(with_reducible repeat' first|((first|refine bK (fun h=>?_) fun h=>?_|refine bM (fun h=>?_) fun h=>?_|refine bL (fun h=>?_) fun h=>?_)<;>try simp at h)|refine aj ?_|simp);all_goals try simp[bu,WM,aY,aZ,aW]
theorem H9(a b:T):bt al 189 [a.e,b.e] (T.pair a b).e:=by refine bc fQ adJ ake fun aN=>?_;unfold QU;simp;(with_reducible repeat' first|((first|refine bK (fun h=>?_) fun h=>?_|refine bM (fun h=>?_) fun h=>?_|refine bL (fun h=>?_) fun h=>?_)<;>try simp at h)|refine aj ?_|simp);all_goals try simp[bu,W2,aY,aZ,aW]
theorem tL(t:T):bt al 143 [t.e] t.e:=by
 induction t with
 |pair a b dW dX=>refine bc fQ R6 VV fun aN=>?_;unfold I0;exact bO
 |_=>refine bc fQ R6 VV fun aN=>?_;unfold I0;exact bO
theorem oe(a b:Int):bt al 190 [.int .i64 a,.int .i64 b] (.int .i64 (eH a b)):=by
 refine bc fQ acH aje fun aN=>?_;unfold PU;simp;((with_reducible repeat' first|refine aj ?_|simp|((first|apply bK|apply bM|apply bL)<;>intro h<;>try simp at h))<;>(try exact cc));all_goals simp[bu,WL,aY,aZ,aW]
 all_goals simp[eH]
 all_goals omega
theorem Bm(a:T):∀b:T,bt al 133 [a.e,b.e] (.int .i64 (eD a b)):=by
 induction a with
 |pair bG a2 Gf Gg=>
  intro b;cases b with
  |pair b1 b2=>
   refine bc fQ JL Mi fun aN=>?_;unfold ER;simp;((with_reducible repeat' first|refine aj ?_|refine aD (Gf _) ?_|refine aE (Gf _) ?_|refine aD (Gg _) ?_|refine aE (Gg _) ?_|refine aD (oe _ _) ?_|refine aE (oe _ _) ?_|simp|((first|apply bK|apply bM|apply bL)<;>intro h<;>try simp at h))<;>(try exact cc));all_goals simp[bu,Hk,aY,aZ,aW]
   all_goals simp_all[eD]
  |_=>
   refine bc fQ JL Mi fun aN=>?_;unfold ER;simp;(with_reducible repeat' first|refine aj ?_|refine aD (oe _ _) ?_|refine aE (oe _ _) ?_|simp);all_goals simp[bu,Hk,aY,aZ,aW]
   all_goals simp_all[eD]
 |_=>
  intro b;cases b<;>
  (refine bc fQ JL Mi fun aN=>?_;unfold ER
   simp
   (with_reducible repeat' first|((first|apply bK|apply bM|apply bL)<;>intro h<;>try simp at h)|refine aj ?_|refine aD (oe _ _) ?_|refine aE (oe _ _) ?_|simp)
   all_goals simp[bu,Hk,aY,aZ,aW]
   all_goals simp_all[eD,kL])
theorem tM(a b:T):bt al 142 [a.e,b.e] (.bool (decide (a=b))):=by
 refine bc fQ acz ai6 fun aN=>?_;unfold PL;simp;(with_reducible repeat' first|refine aj ?_|refine aD (Bm _ _) ?_|refine aE (Bm _ _) ?_|simp);all_goals simp[bu,WG,aY,aZ,aW]
 have:=q6 a b;by_cases h:eD a b=0<;>simp_all
open Classical in
def ahc(l:List c3)(k:Nat)(st:bs):Prop:=∃i:Nat,i≤l.length∧k=l.length-i∧(∀j,j<i→AI l j)∧st=⟨[(0,.slice 5 .no (l.map c3.e)),(8,.slice 5 .no (l.map c3.e)),(9,.int .i64 l.length),(10,.int .i64 i)],[],[],0,[]⟩
open Classical in
theorem anw(l:List c3):bt al 158 [.slice 5 .no (l.map c3.e)] (.bool (decide (y7 l))):=by
 refine bc fQ ack aiT fun aN=>?_;unfold Py;simp;(with_reducible repeat' first|((first|apply bK|apply bM|apply bL)<;>intro h<;>try simp at h)|refine aj ?_|simp)
 ·simp[bu,He,aY,aZ,aW];intro cx;have:=cx.1;omega
 ·refine pA (ahc l) l.length _ ⟨by simp,by simp[gL],by simp[o1],by simp⟩ ⟨0,by omega,by omega,by simp,rfl⟩ ?_;rintro k st ⟨i,hi,ad,lD,rfl⟩ kX cT;simp;refine bK (fun bE=>?_) (fun uF=>?_)
  ·simp at bE;obtain⟨b,ae⟩:∃b,l[i]? =some b:=⟨_,cl bE⟩;obtain⟨c,ay⟩:∃c,l[i-1]? =some c:=⟨_,cl (by omega)⟩;clear kX cT;simp[ae,ay];((with_reducible repeat' first|refine aj ?_|refine aD (H7 _) ?_|refine aE (H7 _) ?_|simp[ay]|((first|apply bK|apply bM|apply bL)<;>intro h<;>try simp at h))<;>(try exact cc));all_goals first
    |(simp[bu,He,aY,aZ,aW];intro cx;have J:=cx.2 i bE b ae;have U:=J.2.1 c;have ar:=J.2.2;first|omega|(have:=U (by omega) ay;omega)|(rw[ar]at h;cases h)|simp_all)
    |(simp only[El];refine⟨l.length-(i+1),_,by omega,⟨by simp,by simp[gL],by simp[o1],by simp⟩,i+1,by omega,rfl,fun j af=>?_,rfl⟩
      by_cases e:j=i
      ·subst e;intro bP gb;rw[ae]at gb;cases gb;refine⟨by omega,fun ct bD hh=>?_,by assumption⟩;rw[ay]at hh;cases hh;omega
      ·exact lD j (by omega))
  ·simp at uF;simp[bu,He,aY,aZ,aW];exact⟨by omega,fun j af=>lD j (by omega)⟩
def mj(p:Nat→Bool)(i j:Nat):Nat:=if i<j then(if p ((i+j)/2)then mj p i ((i+j)/2)else mj p ((i+j)/2+1) j)else i
termination_by j-i
def ahb(s:cL)(n g:Nat)(dv:List ah)(p:Nat→Bool)(k:Nat)(st:bs):Prop:=∃i j:Nat,i≤j∧j≤n∧k=j-i∧mj p i j=mj p 0 n∧st=⟨[(1,.func g dv),(5,.int .i64 i),(6,.int .i64 j)],s.b,s.e,0,cV s⟩
theorem aeo(s:cL)(ag:ej s)(n g:Nat)(au:n≤1000000)(dv:List ah)(ay:aJ (inObs s) dv)(cY:cW dv=dv)(p:Nat→Bool)(aI:∀i:Nat,i<n→bV al g (.int .i64 i::dv) s fun r ai=>r= .bool (p i)∧ai=s):
  bV al 195 [.int .i64 n,.func g dv] s fun r ai=>r= .int .i64 (mj p 0 n)∧ai=s:=by
 refine bV.mk mixed fQ ade ajJ (by simp) ag.obj fun aN cT=>?_;unfold Qp;simp;refine pA (ahb s n g dv p) n _ (iU.ob ag (by simp[ay]) aT aT) ⟨0,n,by omega,by omega,rfl,rfl,rfl⟩ ?_;rintro k st ⟨i,j,l7,af,ad,KZ,rfl⟩ kX cT;clear kX cT;simp;refine bK (fun bE=>?_) (fun uF=>?_)
 ·simp at bE;have hw:hr.wrap ((i:Int)+j)=i+j:=by simp[sA,og,sy];omega
  obtain⟨m,hm⟩:∃m,m=(i+j)/2:=⟨_,rfl⟩;have aR:Int.fdiv ((i:Int)+j) 2=(m:Int):=by rw[Int.fdiv_eq_ediv_of_nonneg _ (by omega)];omega
  have oS:IntKind.i64.wrap (m:Int)=m:=by rw[o8];omega
  have Ko:hr.bits=64:=rfl;simp[hw,cY,Ko,aR,oS];refine⟨by unfold tb;omega,?_⟩;refine c9.ob (aI m (by omega)) ag aT aT (by simp[ay]) ?_;rintro r ai ⟨rfl,rfl⟩;refine⟨Same.refl _,?_⟩;simp[gZ];(with_reducible repeat' first|((first|apply bK|apply bM|apply bL)<;>intro h<;>try simp at h)|refine aj ?_|simp)
  ·simp only[El];refine⟨j-(m+1),_,by omega,iU.ob ag (by simp[ay]) aT aT,m+1,j,by omega,by omega,rfl,?_,rfl⟩;rw[←KZ];conv=>rhs;unfold mj
   simp[bE,←hm,h]
  ·simp only[El];refine⟨m-i,_,by omega,iU.ob ag (by simp[ay]) aT aT,i,m,by omega,by omega,rfl,?_,rfl⟩;rw[←KZ];conv=>rhs;unfold mj
   simp[bE,←hm,h]
 ·simp at uF;have:mj p 0 n=i:=by rw[←KZ];unfold mj;rw[if_neg (by omega)]
  rw[this];simp;refine cX.at s (.inl rfl) ag (Same.refl s) aT aT ?_;simp[c6,WR,aY,aZ,aW]
def ni(l:List ao)(v:Int):Int:=
 let i:=mj (fun i=>match l[i]? with|some b=>decide (v≤b.v)|none=>false) 0 l.length
 match l[i]? with|some b=>if b.v=v then i else-1|none=> -1
theorem aev(l:List ao)(v:Int)(i:Nat)(b:ao)(ae:l[i]? =some b):bV al 196 [.int .i64 i,.ptr (.obj 101) 0,.ptr (.obj 102) 0] ⟨[(.obj 101,[.slice 5 .no (l.map ao.e)]),(.obj 102,[.int .i64 v])],[]⟩ fun r ai=>r= .bool (decide (v≤b.v))∧ai=⟨[(.obj 101,[.slice 5 .no (l.map ao.e)]),(.obj 102,[.int .i64 v])],[]⟩:=by have ag:ej ⟨[(.obj 101,[.slice 5 .no (l.map ao.e)]),(.obj 102,[.int .i64 v])],[]⟩:=(ej.of ⟨by intro m;simp[Pv.look],by intro m;simp[Pv.look]⟩ (by simp[aJ,aF,inObs,Pv.look]) (by simp[aJ,aF,inObs,Pv.look]));have bE:i<l.length:=(fV.1 ae).1;refine bV.mk mixed fQ acC ai9 (by simp) ag.obj fun aN cT=>?_;unfold PO;simp[ae];(with_reducible repeat' first|refine aj ?_|simp);refine cX.at _ (.inl rfl) ag (Same.refl _) aT aT ?_;simp[c6,WJ,aY,aZ,aW]
theorem tN(l:List ao)(v:Int)(aw:l.length≤1000000):bt al 139 [.slice 5 .no (l.map ao.e),.int .i64 v] (.int .i64 (ni l v)):=by
 refine bc fQ acB ai8 fun aN=>?_;unfold PN;simp;have ag:ej ⟨[(.obj 101,[.slice 5 .no (l.map ao.e)]),(.obj 102,[.int .i64 v])],[]⟩:=(ej.of ⟨by intro m;simp[Pv.look],by intro m;simp[Pv.look]⟩ (by simp[aJ,aF,inObs,Pv.look]) (by simp[aJ,aF,inObs,Pv.look]));refine c9.ob (aeo ⟨[(.obj 101,[.slice 5 .no (l.map ao.e)]),(.obj 102,[.int .i64 v])],[]⟩ ag l.length 196 aw [.ptr (.obj 101) 0,.ptr (.obj 102) 0] (by simp[inObs]) (by simp) (fun i=>match l[i]? with|some b=>decide (v≤b.v)|none=>false) fun i hi=>?_) ag aT aT (by simp[inObs]) ?_
 ·obtain⟨b,ae⟩:∃b,l[i]? =some b:=⟨_,cl hi⟩;simp only[ae];exact aev l v i b ae
 rintro r ai ⟨rfl,rfl⟩;refine⟨Same.refl _,?_⟩;unfold ni;generalize mj _ 0 l.length=i;cases ae:l[i]? with
 |none=>
  have bE:¬i<l.length:=by simpa using ae
  simp[cz,bE];exact bO
 |some b=>
  have bE:i<l.length:=(fV.1 ae).1;simp[cz,ae,bE];((with_reducible repeat' first|refine aj ?_|simp[ae]|((first|apply bK|apply bM|apply bL)<;>intro h<;>try simp at h))<;>(try exact cc));all_goals simp[bu,WI,aY,aZ,aW]
  all_goals simp_all
def se(l:List ao)(v:Int):Option T:=if ni l v<0 then none else(l[(ni l v).toNat]?).map (·.t)
theorem Sq(l:List ao)(v:Int):ni l v<l.length∧ -1≤ni l v:=by
 unfold ni;simp only;split
 ·rename_i b ae;have:=(fV.1 ae).1;split<;>omega
 ·omega
theorem SG(l:List ao)(v:Int)(aw:l.length≤1000000)(o:Option T)(ax:o=se l v):bV al 138 [.int .i64 v,.ptr (.obj 201) 0] ⟨[(.obj 201,[.slice 5 .no (l.map ao.e)])],[]⟩ fun r ai=>r= .tuple [(o.getD .nil).e,.bool o.isSome]∧ai=⟨[(.obj 201,[.slice 5 .no (l.map ao.e)])],[]⟩:=by
 have ag:ej ⟨[(.obj 201,[.slice 5 .no (l.map ao.e)])],[]⟩:=(ej.of ⟨by intro m;simp[Pv.look],by intro m;simp[Pv.look]⟩ (by simp[aJ,aF,inObs,Pv.look]) (by simp[aJ,aF,inObs,Pv.look]));have bE:=(Sq l v).1;unfold se at ax;refine bV.mk mixed fQ acK ajh (by simp) ag.obj fun aN cT=>?_;unfold PX;simp;(with_reducible repeat' first|((first|apply bK|apply bM|apply bL)<;>intro h<;>try simp at h)|refine aj ?_|refine aD (tN l v aw) ?_|refine aE (tN l v aw) ?_|simp)
 ·obtain⟨b,ae⟩:∃b,l[(ni l v).toNat]? =some b:=⟨_,cl (by omega)⟩;have hX:o=some b.t:=by rw[ax,if_neg (by omega),ae];rfl
  simp[ae];(with_reducible repeat' first|((first|apply bK|apply bM|apply bL)<;>intro h<;>try simp at h)|refine aj ?_|simp[ae]);refine cX.at _ (.inl rfl) ag (Same.refl _) aT aT ?_;simp[c6,MK,aY,aZ,aW];simp[hX]
 ·have hX:o=none:=by rw[ax,if_pos h]
  refine cX.at _ (.inl rfl) ag (Same.refl _) aT aT ?_;simp[c6,MK,aY,aZ,aW];simp[hX]
theorem aeL(s:cL)(ag:ej s)(g:Nat)(dv:List ah)(ay:aJ (inObs s) dv)(cY:cW dv=dv)(f:Int→Int)(Cp:∀v,-1≤f v)(t:T)(aI:∀v,t.occ v=true→bV al g (.int .i64 v::dv) s fun r ai=>r= .int .i64 (f v)∧ai=s):
  bV al 192 [t.e,.func g dv] s fun r ai=>r= .int .i64 (lp f t)∧ai=s:=by
 have au:∀m,Pv.look (.loc m) s.b=none:=ag.obj.1;have hu:∀m cs,cB (.loc m) cs s.b=s.b++[(.loc m,cs)]:=fun m cs=>j9 (au m);have ax:∀m,aH.loc m∉cV s:=j4 ag.obj;induction t with
 |pair a b dW dX=>
  have aqC:=HT f Cp a;have aqF:=HT f Cp b;refine bV.mk mixed fQ xw yr (by simp) ag.obj fun aN cT=>?_;unfold vB;simp[hu,ax,cJ,au,cY];(with_reducible repeat' first|refine aj ?_|simp[hu,ax,cJ,au]);refine c9.ob (dW fun v aK=>aI v (by simp[T.occ,aK])) ag aT aT (by simp[ay]) ?_;rintro r ai ⟨rfl,rfl⟩;refine⟨Same.refl _,?_⟩;simp[gZ,iO,cz,au];(with_reducible repeat' first|((first|apply bK|apply bM|apply bL)<;>intro h<;>try simp at h)|refine aj ?_|simp[hu,ax,cJ,au])
  ·refine cX.at ai (.inl rfl) ag (Same.refl _) aT aT ?_;simp[c6,vb,aY,aZ,aW];simp[lp];omega
  ·rw[cY];refine c9.ob (dX fun v aK=>aI v (by simp[T.occ,aK])) ag aT aT (by simp[ay]) ?_;rintro r s2 ⟨rfl,rfl⟩;refine⟨Same.refl _,?_⟩;simp[gZ,iO,cz,au];(with_reducible repeat' first|((first|apply bK|apply bM|apply bL)<;>intro h<;>try simp at h)|refine aj ?_|simp[hu,ax,cJ,au]);refine cX.at s2 (.inl rfl) ag (Same.refl _) aT aT ?_;simp[c6,vb,aY,aZ,aW];simp[lp];omega
 |var n=>refine bV.mk mixed fQ xw yr (by simp) ag.obj fun aN cT=>?_;unfold vB;simp[hu,ax,cJ,au,cY];(with_reducible repeat' first|refine aj ?_|simp[hu,ax,cJ,au]);refine c9.ob (aI n (by simp[T.occ])) ag aT aT (by simp[ay]) ?_;rintro r ai ⟨rfl,rfl⟩;refine⟨Same.refl _,?_⟩;simp[gZ,iO,cz,au];refine cX.at ai (.inl rfl) ag (Same.refl _) aT aT ?_;simp[c6,vb,aY,aZ,aW];simp[lp]
 |_=>refine bV.mk mixed fQ xw yr (by simp) ag.obj fun aN cT=>?_;unfold vB;simp[hu,ax,cJ,au,cY];(with_reducible repeat' first|refine aj ?_|simp[hu,ax,cJ,au]);refine cX.at s (.inl rfl) ag (Same.refl _) aT aT ?_;simp[c6,vb,aY,aZ,aW];simp[lp]
theorem aey(s:cL)(ag:ej s)(g:Nat)(dv:List ah)(ay:aJ (inObs s) dv)(cY:cW dv=dv)(f:Int→Option T)(t:T)(aI:∀v,t.occ v=true→bV al g (.int .i64 v::dv) s fun r ai=>r= .tuple [((f v).getD .nil).e,.bool (f v).isSome]∧ai=s):
  bV al 194 [t.e,.func g dv] s fun r ai=>r=(t.sub f).e∧ai=s:=by
 have au:∀m,Pv.look (.loc m) s.b=none:=ag.obj.1;have cH:∀m,Pv.look (.loc m) s.e=none:=ag.obj.2;have hu:∀m cs,cB (.loc m) cs s.b=s.b++[(.loc m,cs)]:=fun m cs=>j9 (au m);have ax:∀m,aH.loc m∉cV s:=j4 ag.obj;have lO:∀m p r,cB (.loc m) p (s.b++r)=s.b++cB (.loc m) p r:=fun m p r=>Bi (au m);induction t with
 |pair a b dW dX=>refine bV.mk mixed fQ zq AK (by simp) ag.obj fun aN cT=>?_;unfold xq;simp[hu,ax,cJ,au,cH,cY,lO];(with_reducible repeat' first|refine aj ?_|simp[hu,ax,cJ,au,cH,lO]);refine ih.ob (dW fun v aK=>aI v (by simp[T.occ,aK])) ag ag (Same.refl _) aT aT (by simp[ay]) ?_;simp[gZ,iO,cz,au,cY];refine ih.ob (dX fun v aK=>aI v (by simp[T.occ,aK])) ag ag (Same.refl _) aT aT (by simp[ay]) ?_;simp[gZ,iO,cz,au,cY];(with_reducible repeat' first|refine aj ?_|refine aD (If _ _) ?_|refine aE (If _ _) ?_|simp);refine cX.at s (.inl rfl) ag (Same.refl _) aT aT ?_;simp[c6,yA,aY,aZ,aW,cJ,au];simp[T.sub]
 |var n=>
  refine bV.mk mixed fQ zq AK (by simp) ag.obj fun aN cT=>?_;unfold xq;simp[hu,ax,cJ,au,cY,lO];(with_reducible repeat' first|refine aj ?_|simp[hu,ax,cJ,au,lO]);refine c9.ob (aI n (by simp[T.occ])) ag aT aT (by simp[ay]) ?_;rintro r ai ⟨rfl,rfl⟩;refine⟨Same.refl _,?_⟩;simp[gZ,iO,cz,au,hu,ax,cJ];(with_reducible repeat' first|((first|apply bK|apply bM|apply bL)<;>intro h<;>try simp at h)|refine aj ?_|refine aD (tL _) ?_|refine aE (tL _) ?_|simp[hu,ax,cJ,au,lO]);all_goals refine cX.at ai (.inl rfl) ag (Same.refl _) aT aT ?_
  all_goals simp[c6,yA,aY,aZ,aW,cJ,au]
  all_goals cases qP:f n<;>simp_all[T.sub]
 |_=>refine bV.mk mixed fQ zq AK (by simp) ag.obj fun aN cT=>?_;unfold xq;simp[hu,ax,cJ,au,cY,lO];(with_reducible repeat' first|((first|apply bK|apply bM|apply bL)<;>intro h<;>try simp at h)|refine aj ?_|simp[hu,ax,cJ,au,lO]);refine cX.at s (.inl rfl) ag (Same.refl _) aT aT ?_;simp[c6,yA,aY,aZ,aW,cJ,au];simp[T.sub]
def oq(l:List ao):cL:=⟨[(.obj 201,[.slice 5 .no (l.map ao.e)])],[]⟩
def rl(l:List ao):cL:=⟨[(.obj 201,[.slice 5 .no (l.map ao.e)]),(.obj 202,[.func 138 [.ptr (.obj 201) 0]])],[]⟩
theorem Bw(l:List ao):ej (oq l):=by unfold oq;exact(ej.of ⟨by intro m;simp[Pv.look],by intro m;simp[Pv.look]⟩ (by simp[aJ,aF,inObs,Pv.look]) (by simp[aJ,aF,inObs,Pv.look]))
theorem Iq(l:List ao):ej (rl l):=by unfold rl;exact(ej.of ⟨by intro m;simp[Pv.look],by intro m;simp[Pv.look]⟩ (by simp[aJ,aF,inObs,Pv.look]) (by simp[aJ,aF,inObs,Pv.look]))
def uv(l:List ao)(v:Int):Int:=match se l v with|some x=>fA x.tm 5000|none=>1
theorem aeg(l:List ao)(v:Int): -1≤uv l v:=by
 unfold uv;split
 ·rename_i x _;rcases Dh x.tm 5000 with h|h<;>omega
 ·omega
theorem YM(t:T):bt al 131 [t.e,.int .i64 5000] (.int .i64 (fA t.tm 5000)):=by have:=YL t.tm.sz t.tm (eY _) 5000 (by omega);rwa[hU]at this
theorem aeI(l:List ao)(v:Int)(aw:l.length≤1000000):bV al 193 [.int .i64 v,.ptr (.obj 202) 0] (rl l) fun r ai=>r= .int .i64 (uv l v)∧ai=rl l:=by
 have ag:=Iq l;unfold rl at ag⊢;refine bV.mk mixed fQ acM ajj (by simp) ag.obj fun aN cT=>?_;unfold PZ;simp;refine c9.ob (SG l v aw _ rfl) (Bw l) aT aT (by simp[inObs]) ?_;rintro r ai ⟨rfl,rfl⟩;refine⟨Same.refl _,?_⟩;simp[cz];(with_reducible repeat' first|((first|apply bK|apply bM|apply bL)<;>intro h<;>try simp at h)|refine aj ?_|refine aD (YM _) ?_|refine aE (YM _) ?_|simp);all_goals refine cX.at _ (.inl rfl) ag (Same.refl _) aT aT ?_
 all_goals simp[c6,WO,aY,aZ,aW]
 all_goals unfold uv
 all_goals cases bQ:se l v<;>simp_all
def Dz(l:List ao)(t:T):T:=t.sub (se l)
def tz(l:List ao)(t:T):Bool:=decide (lp (uv l) t≤5000)
theorem aeH(l:List ao)(t:T)(aw:l.length≤1000000):bV al 137 [t.e,.func 138 [.ptr (.obj 201) 0]] (oq l) fun r ai=>r= .tuple [(if tz l t then Dz l t else .nil).e,.bool (tz l t)]∧ai=oq l:=by
 have ag:=Bw l;unfold oq at ag⊢;refine bV.mk mixed fQ acL aji (by simp) ag.obj fun aN cT=>?_;unfold PY;simp;refine c9.ob (aeL (rl l) (Iq l) 193 [.ptr (.obj 202) 0] (by simp[inObs,rl]) (by simp) (uv l) (aeg l) t fun v aK=>aeI l v aw) (Iq l) (by unfold rl;exact aT) (by unfold rl;exact aT) (by simp[inObs,rl]) ?_;rintro r ai ⟨rfl,rfl⟩;refine⟨Same.refl _,?_⟩;unfold rl;simp[cz];(with_reducible repeat' first|((first|apply bK|apply bM|apply bL)<;>intro h<;>try simp at h)|refine aj ?_|simp)
 ·refine cX.at _ (.inl rfl) ag (Same.refl _) aT aT ?_;simp[c6,ML,aY,aZ,aW];have:tz l t=false:=by simp[tz];omega
  simp[this]
 ·refine c9.ob (aey (oq l) (Bw l) 138 [.ptr (.obj 201) 0] (by simp[inObs,oq]) (by simp) (se l) t fun v aK=>SG l v aw _ rfl) (Bw l) (by unfold oq;exact aT) (by unfold oq;exact aT) (by simp[inObs,oq]) ?_;rintro r ai ⟨rfl,rfl⟩;refine⟨Same.refl _,?_⟩;unfold oq;simp[cz];refine cX.at _ (.inl rfl) ag (Same.refl _) aT aT ?_;simp[c6,ML,aY,aZ,aW];have:tz l t=true:=by simp[tz];omega
  simp[this,Dz]
theorem aoa(l:List ao)(t:T)(aw:l.length≤1000000):bt al 69 [.slice 5 .no (l.map ao.e),t.e] (.tuple [(if tz l t then Dz l t else .nil).e,.bool (tz l t)]):=by refine bc fQ acJ ajg fun aN=>?_;unfold PW;simp;refine c9.ob (aeH l t aw) (Bw l) (by unfold oq;exact aT) (by unfold oq;exact aT) (by simp[inObs,oq]) ?_;rintro r ai ⟨rfl,rfl⟩;refine⟨Same.refl _,?_⟩;unfold oq;simp[cz];simp[bu,WN,aY,aZ,aW]
theorem NB(p:Nat→Bool)(n:Nat)(hm:∀k bH,k≤bH→bH<n→p k=true→p bH=true):∀(m i j:Nat),j-i≤m→i≤j→j≤n→(∀k,k<i→p k=false)→(∀k,j≤k→k<n→p k=true)→
  (i≤mj p i j∧mj p i j≤j)∧(∀k,k<mj p i j→p k=false)∧(∀k,mj p i j≤k→k<n→p k=true)
 |m,i,j,aR,l7,af,J,U=>by
  rw[mj];split
  ·rename_i bE;obtain⟨m,rfl⟩:∃gz,m=gz+1:=⟨m-1,by omega⟩;split
   ·rename_i bQ;have:=NB p n hm m i ((i+j)/2) (by omega) (by omega) (by omega) J (fun k ad FV=>hm _ k ad FV bQ);exact⟨⟨this.1.1,by omega⟩,this.2⟩
   ·rename_i bQ;have:=NB p n hm m ((i+j)/2+1) j (by omega) (by omega) af (fun k ad=>by
     by_cases nW:p k=true
     ·exact absurd (hm k ((i+j)/2) (by omega) (by omega) nW) bQ
     ·simpa using nW) U
    exact⟨⟨by omega,this.1.2⟩,this.2⟩
  ·obtain rfl:i=j:=by omega
   exact⟨⟨eY _,eY _⟩,J,U⟩
theorem Mz{l:List ao}(ag:iP l)(v:Int):se l v=ds l v:=by
 have bE:∀(i j:Nat) (x y:ao),i<j→l[i]? =some x→l[j]? =some y→x.v<y.v:=by intro i j x y l7 ab aG;obtain⟨J,rfl⟩:=fV.1 ab;obtain⟨U,rfl⟩:=fV.1 aG;exact pU.1 ag i j J U l7
 obtain⟨p,bQ⟩:∃p:Nat→Bool,p=(fun i=>match l[i]? with|some b=>decide (v≤b.v)|none=>false):=⟨_,rfl⟩;have F2:∀i b,l[i]? =some b→p i=decide (v≤b.v):=fun i b ae=>by rw[bQ];simp[ae]
 have hm:∀k bH,k≤bH→bH<l.length→p k=true→p bH=true:=by
  intro k bH ad nW h;have ak:l[k]? =some l[k]:=cl (by omega);have aC:l[bH]? =some l[bH]:=cl nW;rw[F2 k _ ak]at h;rw[F2 bH _ aC];simp only[fK]at h⊢;rcases Nat.lt_or_eq_of_le ad with vZ|rfl
  ·have:=bE k bH _ _ vZ ak aC;omega
  ·exact h
 obtain⟨⟨_,hle⟩,hbef,haft⟩:=NB p l.length hm l.length 0 l.length (by omega) (by omega) (eY _) (fun k ad=>by omega) (fun k J U=>by omega);have Ky:ni l v=(match l[mj p 0 l.length]? with|some b=>if b.v=v then((mj p 0 l.length:Nat):Int)else-1|none=> -1):=by rw[bQ];rfl
 generalize mj p 0 l.length=r at hle hbef haft Ky;by_cases hex:∃(k:Nat) (b:ao),l[k]? =some b∧b.v=v
 ·obtain⟨k,b,ae,S8⟩:=hex;have iJ:k<l.length:=(fV.1 ae).1;have gy:r≤k:=by
   rcases Nat.lt_or_ge k r with h|h
   ·have:=hbef k h;rw[F2 k b ae]at this;simp at this;omega
   ·exact h
  have aM:l[r]? =some l[r]:=cl (by omega);have zZ:=haft r (eY _) (by omega);rw[F2 r _ aM]at zZ;simp only[fK]at zZ;have agu:r=k:=by
   rcases Nat.lt_or_eq_of_le gy with h|h
   ·have:=bE r k _ _ h aM ae;omega
   ·exact h
  subst agu;have KB:ni l v=r:=by rw[Ky,ae];simp[S8]
  have J:se l v=some b.t:=by unfold se;rw[KB,if_neg (by omega)];simp[ae]
  have U:l.find? (fun b=>b.v==v)=some b:=by
   rw[List.find?_eq_some_iff_getElem];refine⟨by simp[S8],r,iJ,?_,fun j af=>?_⟩
   ·rw[cl iJ]at ae;simpa using ae
   ·have:=bE j r l[j] b af (cl (by omega)) ae;simp;omega
  rw[J];simp[ds,U]
 ·have U:l.find? (fun b=>b.v==v)=none:=by rw[List.find?_eq_none];intro b ae;obtain⟨k,ad,rfl⟩:=List.mem_iff_getElem.1 ae;simp;intro e;exact hex ⟨k,l[k],cl ad,e⟩
  have KB:ni l v= -1:=by
   rw[Ky];split
   ·rename_i b ae;rw[if_neg (fun e=>hex ⟨r,b,ae,e⟩)]
   ·rfl
  unfold se;rw[KB];simp[ds,U]
theorem Sr{l:List ao}(ag:iP l)(v:Int):ni l v<0↔ds l v=none:=by
 rw[←Mz ag v];unfold se;have J:=Sq l v;by_cases h:ni l v<0
 ·simp[h]
 ·simp only[h,if_false,false_iff];intro e;rw[Option.map_eq_none_iff,List.getElem?_eq_none_iff]at e;omega
def zv(s:List ao):Prop:= ∀b∈s,b.t.fit=true
theorem aef{l:List ao}(ag:iP l)(h:zv l)(v:Int):uv l v=(b7 l v).size:=by
 unfold uv b7;rw[Mz ag];cases ae:ds l v with
 |none=>simp[T.size]
 |some x=>have:=h _ (kg ae);simp only[T.fit,cE,fK]at this;simp only[h5];rw[GV,if_pos ⟨this.1,by omega⟩]
theorem amw{l:List ao}(ag:iP l)(h:zv l)(t:T):lp (uv l) t=cut (t.ap (b7 l)).size:=by
 induction t with
 |var n=>simp only[lp,aef ag h,T.ap];rfl
 |pair a b dW dX=>have ae:=T.size_pos (b.ap (b7 l));simp only[lp,dW,dX,T.ap,T.size];unfold cut;(repeat' split)<;>omega
 |_=>simp[lp,T.ap,T.size,cut]
theorem akL{l:List ao}(ag:iP l)(h:zv l)(t:T):tz l t=decide ((t.ap (b7 l)).size≤5000):=by unfold tz;rw[amw ag h];unfold cut;split<;>simp<;>omega
theorem akM{l:List ao}(ag:iP l)(t:T):Dz l t=t.ap (b7 l):=by unfold Dz;rw[XU];exact ub fun v _=>by rw[Mz ag];rfl
theorem Ig(l:List ao)(t:T)(aw:l.length≤1000000)(ag:iP l)(h:zv l):bt al 69 [.slice 5 .no (l.map ao.e),t.e] (.tuple [(if(t.ap (b7 l)).size≤5000 then t.ap (b7 l)else .nil).e,.bool (decide ((t.ap (b7 l)).size≤5000))]):=by have:=aoa l t aw;rw[akL ag h,akM ag]at this;simpa using this
def C7(l:List (Int×T)):List ah:=jS (l.map fun x=>(x.1,x.2.e))
@[simp] theorem arL:C7 []=jS []:=rfl
@[simp] theorem asY(m:aH)(l:List (Int×T)):wS m (C7 l)=some (ck l.length [] m):=by simp[C7]
@[simp] theorem ash(l:List (Int×T)):h2 (C7 l)=false:=rfl
@[simp] theorem ar1(f:aH→Option (List ah))(m:aH)(l:List (Int×T))(hm:f m=some (C7 l)):u1 f (.gmap m)=some (True,.int .i64 l.length):=by have:=aio f m _ hm;simpa using this
def amk(x:Int×T):Bool:= !(decide (x.2= .var x.1))
end Go.Proofs.YtahlgcidhnjlbaaGreat
namespace Go.Proofs
open Go.Shelf
def Tryz.lays191_ren:Go.Shelf.Ren:=⟨fun|191=>191|189=>220|125=>213|257=>250|128=>236|129=>237|294=>261|295=>262|296=>263|297=>264|298=>265|299=>266|216=>267|300=>268|301=>269|328=>272|329=>273|330=>274|331=>275|332=>276|215=>277|343=>278|n=>n,fun|28=>76|0=>0|3=>3|46=>192|51=>206|53=>208|4=>4|183=>230|182=>229|131=>214|5=>5|9=>9|218=>238|222=>226|228=>241|229=>236|n=>n,fun|n=>n⟩
theorem Tryz.lays191:Go.Proofs.Lays.n191 al Tryz.lays191_ren:={
 mixed:=by kernel_rfl
 f125:=Tryz.func213.trans (ff some (by kernel_rfl))
 f128:=Tryz.func236.trans (ff some (by kernel_rfl))
 f129:=Tryz.func237.trans (ff some (by kernel_rfl))
 f189:=Tryz.func220.trans (ff some (by kernel_rfl))
 f191:=Tryz.func191.trans (ff some (by kernel_rfl))
 f215:=Tryz.func277.trans (ff some (by kernel_rfl))
 f216:=Tryz.func267.trans (ff some (by kernel_rfl))
 f257:=Tryz.func250.trans (ff some (by kernel_rfl))
 f294:=Tryz.func261.trans (ff some (by kernel_rfl))
 f295:=Tryz.func262.trans (ff some (by kernel_rfl))
 f296:=Tryz.func263.trans (ff some (by kernel_rfl))
 f297:=Tryz.func264.trans (ff some (by kernel_rfl))
 f298:=Tryz.func265.trans (ff some (by kernel_rfl))
 f299:=Tryz.func266.trans (ff some (by kernel_rfl))
 f300:=Tryz.func268.trans (ff some (by kernel_rfl))
 f301:=Tryz.func269.trans (ff some (by kernel_rfl))
 f328:=Tryz.func272.trans (ff some (by kernel_rfl))
 f329:=Tryz.func273.trans (ff some (by kernel_rfl))
 f330:=Tryz.func274.trans (ff some (by kernel_rfl))
 f331:=Tryz.func275.trans (ff some (by kernel_rfl))
 f332:=Tryz.func276.trans (ff some (by kernel_rfl))
 f343:=Tryz.func278.trans (ff some (by kernel_rfl))
 t0:=Tryz.underlying0
 a0:=Tryz.isAgg0
 z0:=Tryz.sizeOf0
 v0:=Tryz.zeroValue0
 t3:=Tryz.underlying3
 a3:=Tryz.isAgg3
 z3:=Tryz.sizeOf3
 v3:=Tryz.zeroValue3
 t4:=Tryz.underlying4
 a4:=Tryz.isAgg4
 z4:=Tryz.sizeOf4
 v4:=Tryz.zeroValue4
 t5:=Tryz.underlying5
 a5:=Tryz.isAgg5
 z5:=Tryz.sizeOf5
 v5:=Tryz.zeroValue5
 t9:=Tryz.underlying9
 a9:=Tryz.isAgg9
 z9:=Tryz.sizeOf9
 v9:=Tryz.zeroValue9
 t28:=Tryz.underlying76
 a28:=Tryz.isAgg76
 z28:=Tryz.sizeOf76
 v28:=Tryz.zeroValue76
 t46:=Tryz.underlying192
 a46:=Tryz.isAgg192
 z46:=Tryz.sizeOf192
 v46:=Tryz.zeroValue192
 t51:=Tryz.underlying206
 a51:=Tryz.isAgg206
 z51:=Tryz.sizeOf206
 v51:=Tryz.zeroValue206
 t53:=Tryz.underlying208
 a53:=Tryz.isAgg208
 z53:=Tryz.sizeOf208
 v53:=Tryz.zeroValue208
 t131:=Tryz.underlying214
 a131:=Tryz.isAgg214
 z131:=Tryz.sizeOf214
 v131:=Tryz.zeroValue214
 t182:=Tryz.underlying229
 a182:=Tryz.isAgg229
 z182:=Tryz.sizeOf229
 v182:=Tryz.zeroValue229
 t183:=Tryz.underlying230
 a183:=Tryz.isAgg230
 z183:=Tryz.sizeOf230
 v183:=Tryz.zeroValue230
 t218:=Tryz.underlying238
 a218:=Tryz.isAgg238
 z218:=Tryz.sizeOf238
 v218:=Tryz.zeroValue238
 t222:=Tryz.underlying226
 a222:=Tryz.isAgg226
 z222:=Tryz.sizeOf226
 v222:=Tryz.zeroValue226
 t228:=Tryz.underlying241
 a228:=Tryz.isAgg241
 z228:=Tryz.sizeOf241
 v228:=Tryz.zeroValue241
 t229:=Tryz.underlying236
 a229:=Tryz.isAgg236
 z229:=Tryz.sizeOf236
 v229:=Tryz.zeroValue236}
end Go.Proofs

namespace Go.Proofs.YtahlgcidhnjlbaaGreat
open Go Go.Pv
def eC(xs:List Int):List ah:=xs.map (ah.int .i64)
theorem Xl{w:World}{ν:bf}:∀{xs:List Int} {us:List Value},dH w ν 1 (eC xs) us→us=xs.map (Value.int .i64)
 |[],us,h=>by simpa[eC,dH]using h
 |x::xs,us,h=>by simp only[eC,gS,dH]at h;obtain⟨u,ch,rfl,⟨J,_,_⟩,U⟩:=h;simp only[ba]at J;subst J;rw[Xl U];rfl
theorem Uk(w:World)(ν:bf):∀xs:List Int,dH w ν 1 (eC xs) (xs.map (Value.int .i64))
 |[]=>by simp[eC,dH]
 |x::xs=>by simp only[eC,gS,dH];exact⟨.int .i64 x,_,rfl,⟨by simp[ba],rfl,by intro c ay;simp[pR]at ay;subst ay;rfl⟩,Uk w ν xs⟩
def mY(K:Nat)(xs:List Int):cL:=⟨[],[(.obj K,⟨xs.length,3,1,some (eC xs)⟩)]⟩
theorem th(S:aH→Prop)(xs:List Int):aJ S (eC xs):=by
 induction xs with
 |nil=>simp[eC,aJ]
 |cons x r bZ=>simp only[eC,gS,aJ,aF];exact⟨trivial,bZ⟩
theorem It(K:Nat)(xs:List Int):ej (mY K xs):=by unfold mY;refine ej.of ⟨by intro m;simp[Pv.look],by intro m;simp[Pv.look]⟩ (by simp) ?_;intro x ab ys aG;simp at ab;subst ab;simp at aG;subst aG;exact th _ xs
def q9(xs:List Int):List Int:=xs.mergeSort fun x y=>decide (x≤y)
theorem XJ(xs:List Int):(q9 xs).length=xs.length:=List.length_mergeSort xs
theorem aeQ(K:Nat)(xs:List Int)(aw:xs.length≤1000000):bV al 191 [.row 1 (.obj K) xs.length] (mY K xs) fun r ai=>r= .tuple []∧ai=mY K (q9 xs):=by
 refine bV.sem (It K xs).obj fun w ν be kE aM=>?_;refine .inl ⟨⟨Tryz.f191,Tryz.func191,by kernel_rfl,by kernel_rfl⟩,?_⟩;have rX:=aM.slot 0;simp only[jW,Pv.get,if_true]at rX;have kY:Pv.look (.obj K) (mY K xs).e=some ⟨xs.length,3,1,some (eC xs)⟩:=by simp[mY,Pv.look]
 obtain⟨v,us,a7,bF,b0,cZ⟩:=aM.good.own (.obj K) _ kY;obtain⟨df,n3,u9⟩:=cZ _ rfl;have qW:=Xl n3;subst qW;simp only[ba]at rX;obtain⟨⟨ao6,Z8,vP⟩,_,n',u,ak,aC,bk⟩:=rX;rw[a7]at ak;simp only[dM,jF]at ak;obtain⟨rfl,rfl⟩:=ak;have aK:=bk rfl;have agI:be= #[v]:=by
  have J:be.size=1:=by simpa using kE
  apply Array.ext (by simpa using J);intro i U ar;simp at ar;subst ar;rw[←aK];simp[Array.getD,J]
 have cH:v≠ .slice none 0 0:=by rw[←aK,vP];simp
 obtain⟨g,cap,rfl,_,qQ,oK,afF,Cr,Cd⟩:=Lib.holds_of_ownsRow bF cH;have ay:=Any.sort_Ints Tryz.lays191 g 0 cap xs w Cd qQ (by omega);subst agI;refine ay.mono ?_;rintro e w' ⟨rfl,n,os,rfl⟩;have p8:=XJ xs;have lK:=Lib.ownsRow_putRow (q:=n) (k:=xs.length) (ys:=q9 xs) bF p8 (eY _);rw[hD (by omega)]at lK;obtain⟨cQ,dy,_⟩:=aM.setRowM (w':=Sort.putRow (Value.int .i64) (Sort.ahead w n) g 0 (q9 xs).toArray) kY rfl a7 (bl:=g) rfl (v':= .slice (some ⟨g,0,none⟩) xs.length cap) rfl (xs':=eC (q9 xs)) (us:=(q9 xs).map (Value.int .i64)) (.inl ⟨by simp[eC,p8],rfl⟩) rfl rfl rfl
  (fun j af=>by simp[Sort.putRow,Sort.mapBlock,Sort.ahead,Array.getElem?_modify,k8 af]) (by simp[Sort.putRow,Sort.mapBlock,Sort.ahead]) (by simpa[eC,p8]using lK) (Uk _ _ _)
 have jd:=cQ.grown (w':=Sort.grow (Sort.putRow (Value.int .i64) (Sort.ahead w n) g 0 (q9 xs).toArray) os) ⟨rfl,rfl,rfl,by simp,fun k ad _=>Sort.heap_grow_old _ _ ad⟩;refine⟨_,_,_,_,.tuple [],mY K (q9 xs),rfl,jd,by simp[ba,cM],by simp[mY,mg],?_,?_,?_,(It K _).obj,by simp[aF,aJ],rfl,rfl⟩
 ·simp[mY,mg,inObs,Pv.look]
 ·intro k cs ad;simp[mY,Pv.look]at ad
 ·intro k o ad;have hm:=tj ad;simp[mY]at hm;obtain⟨rfl,rfl⟩:=hm;refine⟨by simp[mY,Pv.look,cB,eC,p8],.inr (by simp[ad]),fun ys aG=>?_⟩;simp at aG;subst aG;exact th _ _
def ox(l:List Int):List ah:=jS (l.map fun x=>(x,.bool true))
theorem mK(S:aH→Prop)(l:List Int):aJ S (ox l):=by
 have:∀l:List Int,aJ S (ku (l.map fun x=>(x,.bool true))):=by
  intro l;induction l with
  |nil=>simp[ku,aJ]
  |cons x r bZ=>simp[ku,aJ,bZ,aF]
 simp[ox,jS,aJ,this,aF]
def ID(v:Int)(l:List Int):List Int:=if v∈l then l else l++[v]
theorem OZ(k:Int):∀l:List Int,pg k (.bool true) (l.map fun x=>(x,ah.bool true))=if k∈l then some (l.map fun x=>(x,ah.bool true))else none
 |[]=>rfl
 |i::r=>by
  by_cases h:k=i
  ·simp[pg,h]
  ·by_cases U:k∈r<;>simp[pg,h,U,OZ k r]
@[simp] theorem ar2(k:Int)(l:List Int):oW .i (.int .i64 k) (.bool true) (ox l)=some (ox (ID k l)):=by
 simp only[ox,VE,EB,OZ,ID];split<;>rename_i h
 ·split at h
  ·simp at h;subst h;simp[*]
  ·cases h
 ·split at h
  ·cases h
  ·simp[*]
@[simp] theorem ao7:ox []=jS []:=rfl
@[simp] theorem asf(l:List Int):h2 (ox l)=false:=rfl
@[simp] theorem asX(m:aH)(l:List Int):wS m (ox l)=some (ck l.length [] m):=by simp[ox]
theorem ah1(f:aH→Option (List ah))(ft mk:aH)(n:Nat)(seen:List Nat)(b:Nat)(l:List Int)(x:Int)(hi:f ft=some (ck n (seen++[b]) mk))(hm:f mk=some (ox l))(au:n=l.length)(ab:l[b]? =some x):pK f (.ptr ft 0)=some (True,.tuple [.int .i64 x,.bool true]):=by rw[Vp f ft mk n seen b _ hi hm (by simpa using au)];simp[ab]
theorem abc{st:bs}{d:Nat}{K:bs→Prop}{ft mk:aH}{n:Nat}{seen:List Nat}{l:List Int}(hi:Pv.look ft st.b=some (ck n seen mk))(hm:Pv.look mk st.b=some (ox l))(au:n=l.length)
  (J:(∀b,b<l.length→b∈seen)→K {st with t:=Pv.put d (.tuple [.bool false]) st.t}) (U:∀b x,l[b]? =some x→b∉seen→K {st with t:=Pv.put d (.tuple [.bool true,.int .i64 x,.bool true]) st.t,b:=cB ft (ck n (seen++[b]) mk) st.b}):
  sN st d (.ptr ft 0) K:=by
 refine RR hi hm (by simpa using au) (fun h=>J fun b ae=>h b (by omega)) (fun b k v ae ag=>?_);simp only[List.getElem?_map,gT]at ae;obtain⟨x,ak,aC⟩:=ae;simp only[jF]at aC;obtain⟨rfl,rfl⟩:=aC;exact U b x ak ag
def _root_.Go.Pv.T.fold{α:Type}(f:Int→α→α):T→α→α
 | .var n,a=>f n a
 | .pair x y,a=>y.fold f (x.fold f a)
 |_,a=>a
theorem SB{α:Type}(S:α→cL)(dk:∀a,ej (S a))(fa:∀a b,Same (S a) (S b))(g:Nat)(dv:List ah)(ay:∀a,aJ (inObs (S a)) dv)(cY:cW dv=dv)(f:Int→α→α)(aI:∀v a,bV al g (.int .i64 v::dv) (S a) fun r ai=>r= .tuple []∧ai=S (f v a))(t:T):
  ∀a,bV al 134 [t.e,.func g dv] (S a) fun r ai=>r= .tuple []∧ai=S (t.fold f a):=by
 have au:∀a m,Pv.look (.loc m) (S a).b=none:=fun a=>(dk a).obj.1;have hu:∀a m cs,cB (.loc m) cs (S a).b=(S a).b++[(.loc m,cs)]:=fun a m cs=>j9 (au a m);have ax:∀a m,aH.loc m∉cV (S a):=fun a=>j4 (dk a).obj;induction t with
 |pair x y pI r3=>intro a;have ag:=dk a;refine bV.mk mixed fQ zp AJ (by simp) ag.obj fun aN cT=>?_;unfold xp;simp[hu,ax,cJ,au,cY];(with_reducible repeat' first|refine aj ?_|simp[hu,ax,cJ,au]);refine c9.ob (pI a) ag aT aT (by simp[ay]) ?_;rintro r ai ⟨rfl,rfl⟩;refine⟨fa _ _,?_⟩;simp[gZ,iO,cz,au];(with_reducible repeat' first|refine aj ?_|simp[hu,ax,cJ,au]);rw[cY];refine c9.ob (r3 (x.fold f a)) (dk (x.fold f a)) aT aT (by simp[ay]) ?_;rintro r ai ⟨rfl,rfl⟩;refine⟨fa _ _,?_⟩;simp[gZ,iO,cz,au];refine cX.at (S (y.fold f (x.fold f a))) (.inr rfl) (dk _) (fa _ _) aT aT ?_;simp[c6,yz,aY,aZ,aW];simp[T.fold]
 |var n=>intro a;have ag:=dk a;refine bV.mk mixed fQ zp AJ (by simp) ag.obj fun aN cT=>?_;unfold xp;simp[hu,ax,cJ,au,cY];(with_reducible repeat' first|refine aj ?_|simp[hu,ax,cJ,au]);refine c9.ob (aI n a) ag aT aT (by simp[ay]) ?_;rintro r ai ⟨rfl,rfl⟩;refine⟨fa _ _,?_⟩;simp[gZ,iO,cz,au,cJ];refine cX.at (S (f n a)) (.inr rfl) (dk _) (fa _ _) aT aT ?_;simp[c6,yz,aY,aZ,aW];simp[T.fold]
 |_=>intro a;have ag:=dk a;refine bV.mk mixed fQ zp AJ (by simp) ag.obj fun aN cT=>?_;unfold xp;simp[hu,ax,cJ,au,cY];(with_reducible repeat' first|refine aj ?_|simp[hu,ax,cJ,au]);refine cX.at (S a) (.inr rfl) ag (Same.refl _) aT aT ?_;simp[c6,yz,aY,aZ,aW];simp[T.fold]
def tV(l:List Int):cL:=⟨[(.obj 304,ox l)],[]⟩
theorem OJ(l:List Int):ej (tV l):=by unfold tV;exact ej.of ⟨by intro m;simp[Pv.look],by intro m;simp[Pv.look]⟩ (by simp[mK,aJ,aF,inObs,Pv.look]) (by simp)
def IU:C:=(aa [cw 1 0,bd 2 false] (.seq (.seq (.fz false 1 (.region [av 6 1 1,cA 7 158 6,cd 8 7])) (aU 8 (aa [bd 2 false] .ret) .skip)) (.seq (aa [av 9 1 1,cg 10 9,bU 11 0] (fp 12 11 10 (.seq (.block 1 (aa [cp 13 5 9 11,aS 14 5 13,cO 4 iK,bz 5 4 14] (aa [c4 (.alloc 5 (some 731) (.bool false)),c4 (.store 1 (.t 5) (.c (.bool true)))] (aa [gY 15 1 4 4,aS 16 4 15,b9 17 (.mkf 159 [.t 1,.t 5]),b8 18 134 16 17] (aa [av 19 1 5,cd 20 19,I 21 20,aq 21 false (gY 22 1 4 4),aq 21 false (aB 23 0 1 22),aq 21 false (av 24 1 23),aq 21 false (aV 25 .eql 24 1),b6 21 false 26 25,aq 26 true (gY 27 1 4 4),aq 26 true (aB 28 1 1 27),aq 26 true (av 29 1 28),aq 26 true (aB 30 0 1 4),aq 26 true (av 31 1 30),aq 26 true (bn 32 .geq 29 31),aq 21 false (dD 33 26 32),cU 34 21 33] (aU 34 (aa [bd 2 false] .ret) .skip)))))) (.region [aV 35 .add 11 1,I 11 35])))) (aa [bd 2 true] .ret))))
@[simp] def akY:List bB:=[.tmp 2]
def IW:C:=(aa [av 4 1 1,I 5 0,b8 6 139 4 5,aV 7 .geq 6 0] (aU 7 (.region [c4 (.store 1 (.t 2) (.c (.bool false)))]) .skip))
@[simp] def MH:List bB:=[]
def Pn:C:=(aa [eu 4 5,bd 5 false] (.seq (aa [I 8 0,cA 9 86 8,cd 10 9,I 11 10,b6 11 false 12 1,aq 11 false (cA 13 86 12),aq 11 false (cd 14 13),cU 15 11 14] (aU 15 (aa [eu 4 5,bd 5 false] .ret) .skip)) (aa [I 17 1,cA 18 205 17,I 16 18,cn 19 0 16,cn 20 1 16,I 6 19,I 7 20] (aa [I 21 0,I 22 6,I 23 7,c8 24 186 [.t 21,.t 22,.t 23],cn 25 0 24,cn 26 1 24,I 4 25,I 5 26] .ret))))
@[simp] def Ws:List bB:=[.tmp 4,.tmp 5]
def Ps:C:=(aa [eu 4 5] (.seq (aa [I 8 0,cA 9 86 8,cd 10 9,I 11 10,b6 11 false 12 1,aq 11 false (cA 13 86 12),aq 11 false (cd 14 13),cU 15 11 14] (aU 15 (aa [eu 4 5] .ret) .skip)) (aa [eb 16 5 113 [],I 5 16] (.seq (aa [I 17 1,cg 18 17,bU 19 0] (fp 20 19 18 (.seq (.block 1 (aa [cp 21 5 17 19,aS 22 5 21,cO 7 iK,bz 5 7 22] (aa [I 23 0,aB 24 0 1 7,av 25 1 24,b8 26 139 23 25,aV 27 .lss 26 0] (aU 27 (.drawn true 39 [I 28 5,aB 29 0 1 7,av 30 1 29,gY 31 1 4 7,aS 32 4 31,cA 33 143 32,ha 34 iK [(0,1,(.t 30)),(1,4,(.t 33))],eb 35 5 113 [.t 34],gR 36 5 113 28 35,I 5 36]) .skip)))) (.region [aV 37 .add 19 1,I 19 37])))) (aa [I 38 5,I 4 38] .ret)))))
@[simp] def akW:List bB:=[.tmp 4]
def PK:C:=(aa [eu 2 5] (aa [eb 6 5 113 [],I 3 6] (.seq (aa [I 7 0,cg 8 7,bU 9 0] (fp 10 9 8 (.seq (.block 1 (aa [cp 11 5 7 9,aS 12 5 11,cO 5 iK,bz 5 5 12] (.drawn true 24 [I 13 3,aB 14 0 1 5,av 15 1 14,gY 16 1 4 5,aS 17 4 16,cA 18 143 17,ha 19 iK [(0,1,(.t 15)),(1,4,(.t 18))],eb 20 5 113 [.t 19],gR 21 5 113 13 20,I 3 21]))) (.region [aV 22 .add 9 1,I 9 22])))) (aa [I 23 3,I 2 23] .ret))))
@[simp] def ak3:List bB:=[.tmp 2]
def I1:C:=(aa [bd 4 false] (.seq (aa [I 6 0,cg 7 6,I 8 1,cg 9 8,bn 10 .neq 7 9] (aU 10 (aa [bd 4 false] .ret) .skip)) (.seq (aa [I 11 0,cg 12 11,bU 13 0] (fp 14 13 12 (.seq (.block 1 (aa [I 15 13,I 5 15] (.seq (.drawn true 42 [I 16 0,I 17 5,cp 18 5 16 17,aB 19 0 1 18,av 20 1 19,I 21 1,I 22 5,cp 23 5 21 22,aB 24 0 1 23,av 25 1 24,bn 26 .neq 20 25,I 27 26,b6 27 false 28 0,b6 27 false 29 5,aq 27 false (cp 30 5 28 29),aq 27 false (gY 31 1 4 30),aq 27 false (aS 32 4 31),b6 27 false 33 1,b6 27 false 34 5,aq 27 false (cp 35 5 33 34),aq 27 false (gY 36 1 4 35),aq 27 false (aS 37 4 36),aq 27 false (b8 38 142 32 37),aq 27 false (cd 39 38),cU 40 27 39]) (aU 40 (aa [bd 4 false] .ret) .skip)))) (.region [aV 41 .add 13 1,I 13 41])))) (aa [bd 4 true] .ret))))
@[simp] def WE:List bB:=[.tmp 4]
def PM:C:=(aa [eu 2 4,eu 3 4] (aa [eb 8 4 30 [],I 4 8] (aa [eb 9 4 30 [],I 5 9] (.seq (aa [I 10 0,cg 11 10,bU 12 0] (fp 13 12 11 (.seq (.block 1 (aa [cp 14 5 10 12,aS 15 5 14,cO 7 iK,bz 5 7 15] (aa [I 16 4,aB 17 0 1 7,av 18 1 17,cA 19 116 18,eb 20 4 30 [.t 19],gR 21 4 30 16 20,I 4 21] (.region [I 22 5,gY 23 1 4 7,aS 24 4 23,eb 25 4 30 [.t 24],gR 26 4 30 22 25,I 5 26])))) (.region [aV 27 .add 12 1,I 12 27])))) (aa [I 28 4,I 29 5,I 2 28,I 3 29] .ret)))))
@[simp] def WH:List bB:=[.tmp 2,.tmp 3]
def PT:C:=(aa [bU 4 0] (.seq (aa [bU 5 0] (.block 0 (.loop (.seq (aa [I 8 5,I 9 0,cg 10 9,bn 11 .lss 8 10,I 12 11,b6 12 true 13 5,b6 12 true 14 1,aq 12 true (cg 15 14),aq 12 true (bn 16 .lss 13 15),dD 17 12 16] (aU 17 .skip (.exit 0))) (.seq (.block 1 (.seq (.seq (.drawn true 53 [I 20 0,I 21 5,cp 22 5 20 21,aB 23 0 1 22,av 24 1 23,I 25 1,I 26 5,cp 27 5 25 26,aB 28 0 1 27,av 29 1 28,b8 30 190 24 29,I 6 30]) (aa [I 31 6,aV 32 .neq 31 0] (aU 32 (aa [I 33 6,I 4 33] .ret) .skip))) (.seq (.drawn true 53 [I 34 0,I 35 5,cp 36 5 34 35,gY 37 1 4 36,aS 38 4 37,I 39 1,I 40 5,cp 41 5 39 40,gY 42 1 4 41,aS 43 4 42,b8 44 133 38 43,I 7 44]) (aa [I 45 7,aV 46 .neq 45 0] (aU 46 (aa [I 47 7,I 4 47] .ret) .skip))))) (.region [I 18 5,aV 19 .add 18 1,I 5 19])))))) (aa [I 48 0,cg 49 48,I 50 1,cg 51 50,b8 52 190 49 51,I 4 52] .ret)))
@[simp] def DA:List bB:=[.tmp 4]
def PQ:C:=(aa [bd 4 false] (.seq (aa [I 11 0,cg 12 11,bU 13 0] (fp 14 13 12 (.seq (.block 1 (aa [cp 15 5 11 13,aS 16 5 15,cO 6 iK,bz 5 6 16] (aa [I 18 1,aB 19 0 1 6,av 20 1 19,cA 21 116 20,b8 22 69 18 21,I 17 22,cn 23 0 17,cn 24 1 17,cO 7 dY,bz 4 7 23,I 8 24] (aa [I 26 1,gY 27 1 4 6,aS 28 4 27,b8 29 69 26 28,I 25 29,cn 30 0 25,cn 31 1 25,cO 9 dY,bz 4 9 30,I 10 31] (aa [I 32 8,cd 33 32,I 34 33,b6 34 false 35 10,aq 34 false (cd 36 35),cU 37 34 36,I 38 37,aq 38 false (aS 39 4 7),aq 38 false (aS 40 4 9),aq 38 false (b8 41 142 39 40),aq 38 false (cd 42 41),cU 43 38 42] (aU 43 (aa [bd 4 false] .ret) .skip)))))) (.region [aV 44 .add 13 1,I 13 44])))) (aa [bd 4 true] .ret)))
@[simp] def MJ:List bB:=[.tmp 4]
def tI:List (Nat×dI):=[
 (3,⟨1,8,.int .i64,.int .i64 0⟩),
 (4,⟨1,1,.bool,.bool false⟩),
 (27,⟨1,24,.slice 30,.slice 4 .nil []⟩),
 (30,⟨4,56,.struct [(0,3),(1,3),(2,9),(3,27)],.agg [.int .i64 0,.int .i64 0,.str [],.slice 4 .nil []]⟩),
 (46,⟨1,24,.slice 113,.slice 5 .nil []⟩),
 (113,⟨5,64,.struct [(0,3),(1,30)],.agg [.int .i64 0,.int .i64 0,.int .i64 0,.str [],.slice 4 .nil []]⟩)]
theorem rf:fU al tI=true:=by kernel_rfl
theorem VQ:bY tI IU akY 1 Tryz.f86=true:=by kernel_rfl
theorem RZ:al.funcs[(86:Nat)]? =some Tryz.f86:=Tryz.func86
theorem VR:bY tI IW MH 3 Tryz.f159=true:=by kernel_rfl
theorem R0:al.funcs[(159:Nat)]? =some Tryz.f159:=Tryz.func159
theorem aiJ:bY tI Pn Ws 2 Tryz.f165=true:=by kernel_rfl
theorem ab9:al.funcs[(165:Nat)]? =some Tryz.f165:=Tryz.func165
theorem aiO:bY tI Ps akW 2 Tryz.f166=true:=by kernel_rfl
theorem acf:al.funcs[(166:Nat)]? =some Tryz.f166:=Tryz.func166
theorem ai5:bY tI PK ak3 1 Tryz.f168=true:=by kernel_rfl
theorem acy:al.funcs[(168:Nat)]? =some Tryz.f168:=Tryz.func168
theorem VW:bY tI I1 WE 2 Tryz.f169=true:=by kernel_rfl
theorem R7:al.funcs[(169:Nat)]? =some Tryz.f169:=Tryz.func169
theorem ai7:bY tI PM WH 1 Tryz.f205=true:=by kernel_rfl
theorem acA:al.funcs[(205:Nat)]? =some Tryz.f205:=Tryz.func205
theorem ajd:bY tI PT DA 2 Tryz.f207=true:=by kernel_rfl
theorem acG:al.funcs[(207:Nat)]? =some Tryz.f207:=Tryz.func207
theorem aja:bY tI PQ MJ 2 Tryz.f208=true:=by kernel_rfl
theorem acD:al.funcs[(208:Nat)]? =some Tryz.f208:=Tryz.func208
def P2:C:=(aa [cO 2 dY] (aa [I 3 0,ha 4 dY [(0,1,(fI 1)),(1,1,(.t 3))],bz 4 2 4] .ret))
@[simp] def ak8:List bB:=[.cell 2 true 4]
def PR:C:=(aa [b9 0 (.mov (.c (.nilp)))] (aa [c4 (.mkmap 1 (some 702)),c4 (.mkmap 2 (some 703)),c4 (.mkmap 3 (some 704)),c4 (.mkmap 4 (some 705)),c4 (.mkmap 5 (some 706)),c4 (.mkmap 6 (some 707)),b9 7 (.build [.junk,.junk,.junk,.junk,.junk,.junk] [(0,1,(.t 1)),(1,1,(.t 2)),(2,1,(.t 3)),(3,1,(.t 4)),(4,1,(.t 5)),(5,1,(.t 6))]),cw 8 7,I 0 8] (.fz true 0 .ret)))
@[simp] def WK:List bB:=[.tmp 0]
def PG:C:=(aa [bU 4 0] (.seq (aa [I 8 0,fD 9 8,aB 10 0 1 9,av 11 1 10,I 12 1,b9 13 (.mget .i (.int .i64 0) true (.t 11) (.t 12)),I 7 13,cn 14 0 7,cn 15 1 7,I 5 14,I 6 15] (aa [I 16 6,cd 17 16] (aU 17 (.region [I 18 0,fD 19 18,aB 20 0 1 19,av 21 1 20,I 22 1,I 23 1,c4 (.mput .i (.t 21) (.t 22) (.t 23))]) .skip))) (.seq (.block 0 (.loop (.seq (aa [I 24 0,fD 25 24,aB 26 0 1 25,av 27 1 26,I 28 1,b9 29 (.mget .i (.int .i64 0) false (.t 27) (.t 28)),I 30 1,bn 31 .neq 29 30] (aU 31 .skip (.exit 0))) (.block 1 (.seq (.drawn true 55 [I 32 0,fD 33 32,aB 34 0 1 33,av 35 1 34,I 36 1,I 37 0,fD 38 37,aB 39 0 1 38,av 40 1 39,I 41 0,fD 42 41,aB 43 0 1 42,av 44 1 43,I 45 1,b9 46 (.mget .i (.int .i64 0) false (.t 44) (.t 45)),b9 47 (.mget .i (.int .i64 0) false (.t 40) (.t 46)),c4 (.mput .i (.t 35) (.t 36) (.t 47))]) (.region [I 48 0,fD 49 48,aB 50 0 1 49,av 51 1 50,I 52 1,b9 53 (.mget .i (.int .i64 0) false (.t 51) (.t 52)),I 1 53])))))) (aa [I 54 1,I 4 54] .ret))))
@[simp] def WA:List bB:=[.tmp 4]
def PC:C:=(aa [cw 2 0,cw 3 1] (.fz false 2 (.region [aS 4 4 3,b9 5 (.mkf 245 [.t 2]),b8 6 134 4 5])))
@[simp] def Wx:List bB:=[]
def vA:C:=(aa [cw 4 1,cw 5 2,bd 6 false] (.seq (.block 0 (aa [aB 12 0 1 4,av 13 1 12,aV 14 .eql 13 1,I 15 14,aq 15 true (aB 16 0 1 5),aq 15 true (av 17 1 16),aq 15 true (aV 18 .eql 17 1),dD 19 15 18,I 11 19] (aU 11 (aa [I 20 0,aB 21 1 1 4,av 22 1 21,b8 23 216 20 22,I 7 23] (aa [I 24 0,aB 25 1 1 5,av 26 1 25,b8 27 216 24 26,I 8 27] (.seq (aa [I 28 7,I 29 8,bn 30 .eql 28 29] (aU 30 (aa [bd 6 true] .ret) .skip)) (.seq (aa [I 31 8,I 32 7,bn 33 .lss 31 32] (aU 33 (.region [I 34 8,I 35 7,I 7 34,I 8 35]) .skip)) (aa [I 36 0,fD 37 36,aB 38 0 1 37,av 39 1 38,I 40 8,I 41 7,c4 (.mput .i (.t 39) (.t 40) (.t 41))] (.seq (aa [I 42 0,fD 43 42,aB 44 2 1 43,av 45 1 44,I 46 8,b9 47 (.mget .i (.bool false) false (.t 45) (.t 46)),cd 48 47] (aU 48 (aa [I 49 0,fD 50 49,aB 51 2 1 50,av 52 1 51,I 53 7,b9 54 (.mget .i (.bool false) false (.t 52) (.t 53)),cd 55 54,I 56 55,b6 56 false 57 0,b6 56 false 58 0,aq 56 false (fD 59 58),aq 56 false (aB 60 1 1 59),aq 56 false (av 61 1 60),b6 56 false 62 7,xa 56 false 63 (.mget .i (.agg dY) false (.t 61) (.t 62)),b6 56 false 64 7,ys 56 false (.mkmap 65 (some 715)),aq 56 false (c8 66 246 [.t 57,.t 63,.t 64,.t 65]),aq 56 false (cd 67 66),cU 68 56 67,I 6 68] .ret) .skip)) (aa [I 69 0,fD 70 69,aB 71 1 1 70,av 72 1 71,I 73 8,b9 74 (.mget .i (.agg dY) false (.t 72) (.t 73)),cO 9 dY,bz 4 9 74] (.seq (aa [I 75 0,fD 76 75,aB 77 2 1 76,av 78 1 77,I 79 7,b9 80 (.mget .i (.bool false) false (.t 78) (.t 79)),cd 81 80] (aU 81 (aa [I 82 0,I 83 7,aS 84 4 9,c8 85 247 [.t 82,.t 83,.t 84],I 6 85] .ret) .skip)) (.seq (.drawnW [715,716] 198 [I 86 0,aS 87 4 9,I 88 7,c4 (.mkmap 89 (some 715)),c8 90 246 [.t 86,.t 87,.t 88,.t 89],cd 91 90,I 92 91,b6 92 true 93 0,b6 92 true 94 0,aq 92 true (fD 95 94),aq 92 true (aB 96 1 1 95),aq 92 true (av 97 1 96),b6 92 true 98 7,xa 92 true 99 (.mgetB .i (.agg dY) false (.t 97) (.t 98)),b6 92 true 100 7,ys 92 true (.mkmap 101 (some 716)),aq 92 true (c8 102 246 [.t 93,.t 99,.t 100,.t 101]),aq 92 true (cd 103 102),dD 104 92 103,I 105 104,b6 105 true 106 0,b6 105 true 107 0,aq 105 true (fD 108 107),aq 105 true (aB 109 1 1 108),aq 105 true (av 110 1 109),b6 105 true 111 7,xa 105 true 112 (.mgetB .i (.agg dY) false (.t 110) (.t 111)),aq 105 true (aS 113 4 9),aq 105 true (c8 114 218 [.t 106,.t 112,.t 113]),dD 115 105 114,I 6 115]) .ret))))))))) (aa [aB 117 0 1 4,av 118 1 117,aV 119 .eql 118 1,I 116 119] (aU 116 (aa [I 120 0,aB 121 1 1 4,av 122 1 121,b8 123 216 120 122,I 10 123] (.seq (aa [I 124 0,fD 125 124,aB 126 2 1 125,av 127 1 126,I 128 10,b9 129 (.mget .i (.bool false) false (.t 127) (.t 128)),cd 130 129] (aU 130 (aa [I 131 0,I 132 10,aS 133 4 5,c8 134 247 [.t 131,.t 132,.t 133],I 6 134] .ret) .skip)) (.seq (.drawn false 198 [I 135 0,I 136 0,fD 137 136,aB 138 1 1 137,av 139 1 138,I 140 10,b9 141 (.mgetB .i (.agg dY) false (.t 139) (.t 140)),aS 142 4 5,c8 143 218 [.t 135,.t 141,.t 142],I 6 143]) .ret))) (aa [aB 145 0 1 5,av 146 1 145,aV 147 .eql 146 1,I 144 147] (aU 144 (aa [I 148 0,aS 149 4 5,aS 150 4 4,c8 151 218 [.t 148,.t 149,.t 150],I 6 151] .ret) (aa [aB 153 0 1 4,av 154 1 153,aB 155 0 1 5,av 156 1 155,bn 157 .neq 154 156,I 158 157,aq 158 false (aB 159 1 1 4),aq 158 false (av 160 1 159),aq 158 false (aB 161 1 1 5),aq 158 false (av 162 1 161),aq 158 false (bn 163 .neq 160 162),cU 164 158 163,I 165 164,aq 165 false (aB 166 2 1 4),aq 165 false (av 167 1 166),aq 165 false (aB 168 2 1 5),aq 165 false (av 169 1 168),aq 165 false (bn 170 .neq 167 169),cU 171 165 170,I 152 171] (aU 152 (aa [bd 6 false] .ret) (aa [aB 173 0 1 4,av 174 1 173,aV 175 .eql 174 4,I 172 175] (aU 172 (.seq (.drawn false 198 [I 176 0,aB 177 3 1 4,av 178 1 177,jY 179 4 178 0,aS 180 4 179,aB 181 3 1 5,av 182 1 181,jY 183 4 182 0,aS 184 4 183,c8 185 218 [.t 176,.t 180,.t 184],I 186 185,b6 186 true 187 0,aq 186 true (aB 188 3 1 4),aq 186 true (av 189 1 188),aq 186 true (jY 190 4 189 1),aq 186 true (aS 191 4 190),aq 186 true (aB 192 3 1 5),aq 186 true (av 193 1 192),aq 186 true (jY 194 4 193 1),aq 186 true (aS 195 4 194),aq 186 true (c8 196 218 [.t 187,.t 191,.t 195]),dD 197 186 196,I 6 197]) .ret) .skip))))))))))) (aa [bd 6 true] .ret)))
@[simp] def n4:List bB:=[.tmp 6]
def PD:C:=(.region [av 3 1 1,I 4 0,b8 5 216 3 4])
@[simp] def Wy:List bB:=[]
def PE:C:=(aa [cw 4 0,cw 5 1,cw 6 2,cw 7 3,bd 8 false] (aa [c4 (.alloc 9 (some 712) (.bool false)),c4 (.store 1 (.t 9) (.c (.bool false)))] (.seq (.fz false 7 (.fz false 6 (.fz false 4 (.region [aS 10 4 5,b9 11 (.mkf 257 [.t 4,.t 9,.t 6,.t 7]),b8 12 134 10 11])))) (aa [av 13 1 9,I 8 13] .ret))))
@[simp] def Wz:List bB:=[.tmp 8]
def PB:C:=(aa [cw 5 2,bd 6 false] (.seq (.drawn true 24 [I 7 0,fD 8 7,aB 9 1 1 8,av 10 1 9,I 11 1,aS 12 4 5,c4 (.mput .i (.t 10) (.t 11) (.t 12))]) (aa [I 13 0,fD 14 13,aB 15 2 1 14,av 16 1 15,I 17 1,c4 (.mput .i (.t 16) (.t 17) (.c (.bool true)))] (aa [I 18 0,aS 19 4 5,I 20 1,c4 (.mkmap 21 (some 715)),c8 22 246 [.t 18,.t 19,.t 20,.t 21],cd 23 22,I 6 23] .ret))))
@[simp] def Ww:List bB:=[.tmp 6]
def ze:C:=(aa [cw 2 0,bd 4 false] (.seq (.seq (.fz false 2 (.region [av 6 1 2,fD 7 6,aB 8 3 1 7,av 9 1 8,I 10 1,b9 11 (.mget .i (.int .i64 0) false (.t 9) (.t 10)),aV 12 .eql 11 2])) (aU 12 (aa [bd 4 true] .ret) .skip)) (.seq (aa [av 13 1 2,fD 14 13,aB 15 3 1 14,av 16 1 15,I 17 1,b9 18 (.mget .i (.int .i64 0) false (.t 16) (.t 17)),aV 19 .eql 18 1] (aU 19 (aa [bd 4 false] .ret) .skip)) (aa [av 20 1 2,fD 21 20,aB 22 3 1 21,av 23 1 22,I 24 1,c4 (.mput .i (.t 23) (.t 24) (fI 1))] (aa [av 25 1 2,fD 26 25,aB 27 4 1 26,av 28 1 27,I 29 1,c4 (.mput .i (.t 28) (.t 29) (fI 1))] (.seq (aa [av 30 1 2,fD 31 30,aB 32 2 1 31,av 33 1 32,I 34 1,b9 35 (.mget .i (.bool false) false (.t 33) (.t 34))] (aU 35 (aa [c4 (.alloc 5 (some 712) (.bool false)),c4 (.store 1 (.t 5) (.c (.bool true)))] (aa [av 36 1 2,fD 37 36,aB 38 1 1 37,av 39 1 38,I 40 1,b9 41 (.mget .i (.agg dY) false (.t 39) (.t 40)),b9 42 (.mkf 258 [.t 5,.t 2]),b8 43 134 41 42] (.seq (aa [av 44 1 5,cd 45 44] (aU 45 (aa [bd 4 false] .ret) .skip)) (.drawn false 64 [av 46 1 2,fD 47 46,aB 48 4 1 47,av 49 1 48,I 50 1,av 51 1 2,fD 52 51,aB 53 1 1 52,av 54 1 53,I 55 1,b9 56 (.mgetB .i (.agg dY) false (.t 54) (.t 55)),b9 57 (.mkf 259 [.t 2]),b8 58 192 56 57,c4 (.mput .i (.t 49) (.t 50) (.t 58))])))) .skip)) (aa [av 59 1 2,fD 60 59,aB 61 3 1 60,av 62 1 61,I 63 1,c4 (.mput .i (.t 62) (.t 63) (fI 2))] (aa [bd 4 true] .ret))))))))
@[simp] def AV:List bB:=[.tmp 4]
def EN:C:=(aa [cw 2 0,cO 4 dY] (.seq (.seq (.fz false 2 (.region [av 9 1 2,fD 10 9,aB 11 5 1 10,av 12 1 11,I 13 1,b9 14 (.mget .i (.agg dY) true (.t 12) (.t 13)),I 8 14,cn 15 0 8,cn 16 1 8,cO 5 dY,bz 4 5 15,I 6 16])) (aa [I 17 6] (aU 17 (aa [aS 18 4 5,bz 4 4 18] .ret) .skip))) (aa [I 19 1,cA 20 116 19,cO 7 dY,bz 4 7 20] (.seq (aa [av 21 1 2,fD 22 21,aB 23 2 1 22,av 24 1 23,I 25 1,b9 26 (.mget .i (.bool false) false (.t 24) (.t 25))] (aU 26 (.region [av 27 1 2,fD 28 27,aB 29 1 1 28,av 30 1 29,I 31 1,b9 32 (.mget .i (.agg dY) false (.t 30) (.t 31)),b9 33 (.mkf 260 [.t 2]),b8 34 194 32 33,bz 4 7 34]) .skip)) (.seq (.drawn true 42 [av 35 1 2,fD 36 35,aB 37 5 1 36,av 38 1 37,I 39 1,aS 40 4 7,c4 (.mput .i (.t 38) (.t 39) (.t 40))]) (aa [aS 41 4 7,bz 4 4 41] .ret))))))
@[simp] def Hg:List bB:=[.cell 4 true 4]
def PF:C:=(aa [av 7 1 1,I 8 0,b8 9 216 7 8,I 6 9] (.seq (aa [av 10 1 2,I 11 10,b6 11 false 12 6,aq 11 false (av 13 1 3),aq 11 false (bn 14 .eql 12 13),cU 15 11 14] (aU 15 (aa [c4 (.store 1 (.t 2) (.c (.bool true)))] .ret) .skip)) (aa [av 16 1 4,I 17 6,b9 18 (.mget .i (.bool false) false (.t 16) (.t 17)),cd 19 18,I 20 19,aq 20 true (av 21 1 1),aq 20 true (fD 22 21),aq 20 true (aB 23 2 1 22),aq 20 true (av 24 1 23),b6 20 true 25 6,aq 20 true (b9 26 (.mget .i (.bool false) false (.t 24) (.t 25))),dD 27 20 26] (aU 27 (aa [av 28 1 4,I 29 6,c4 (.mput .i (.t 28) (.t 29) (.c (.bool true)))] (.drawn false 40 [av 30 1 1,av 31 1 1,fD 32 31,aB 33 1 1 32,av 34 1 33,I 35 6,b9 36 (.mgetB .i (.agg dY) false (.t 34) (.t 35)),av 37 1 3,av 38 1 4,c8 39 246 [.t 30,.t 36,.t 37,.t 38],bz 1 2 39])) .skip))))
@[simp] def AU:List bB:=[]
def IY:C:=(.seq (.drawn false 13 [b9 4 (.loadB false 1 (.t 1)),I 5 4,aq 5 true (av 6 1 2),aq 5 true (av 7 1 2),b6 5 true 8 0,aq 5 true (b8 9 216 7 8),aq 5 true (b8 10 248 6 9),aq 5 true (cd 11 10),dD 12 5 11]) (aU 12 (.region [c4 (.store 1 (.t 1) (.c (.bool false)))]) .skip))
@[simp] def Hh:List bB:=[]
def PJ:C:=(aa [bU 3 0] (.seq (.drawn false 12 [av 4 1 1,fD 5 4,aB 6 4 1 5,av 7 1 6,av 8 1 1,I 9 0,b8 10 216 8 9,b9 11 (.mgetB .i (.int .i64 0) false (.t 7) (.t 10)),I 3 11]) .ret))
@[simp] def WC:List bB:=[.tmp 3]
def PI:C:=(aa [cO 3 dY,bd 4 false] (.seq (.drawn false 10 [av 5 1 1,av 6 1 1,I 7 0,b8 8 216 6 7,b8 9 249 5 8,bz 4 3 9,bd 4 true]) .ret))
@[simp] def WB:List bB:=[.cell 3 true 4,.tmp 4]
def o4:List (Nat×dI):=[
 (3,⟨1,8,.int .i64,.int .i64 0⟩),
 (4,⟨1,1,.bool,.bool false⟩),
 (9,⟨1,16,.str,.str []⟩),
 (27,⟨1,24,.slice 30,.slice 4 .nil []⟩),
 (30,⟨4,56,.struct [(0,3),(1,3),(2,9),(3,27)],.agg [.int .i64 0,.int .i64 0,.str [],.slice 4 .nil []]⟩),
 (136,⟨1,8,.map 3 4,.junk⟩),
 (194,⟨1,8,.other,.nilp⟩),
 (216,⟨1,8,.map 3 3,.junk⟩),
 (217,⟨1,8,.map 3 30,.junk⟩),
 (219,⟨6,48,.struct [(0,216),(1,217),(2,136),(3,216),(4,216),(5,217)],.agg [.junk,.junk,.junk,.junk,.junk,.junk]⟩)]
theorem jC:fU al o4=true:=by kernel_rfl
theorem ajm:bY o4 P2 ak8 1 Tryz.f116=true:=by kernel_rfl
theorem acP:al.funcs[(116:Nat)]? =some Tryz.f116:=Tryz.func116
theorem ajb:bY o4 PR WK 0 Tryz.f215=true:=by kernel_rfl
theorem acE:al.funcs[(215:Nat)]? =some Tryz.f215:=Tryz.func215
theorem ai1:bY o4 PG WA 2 Tryz.f216=true:=by kernel_rfl
theorem acu:al.funcs[(216:Nat)]? =some Tryz.f216:=Tryz.func216
theorem aiX:bY o4 PC Wx 2 Tryz.f217=true:=by kernel_rfl
theorem acp:al.funcs[(217:Nat)]? =some Tryz.f217:=Tryz.func217
theorem yq:bY o4 vA n4 3 Tryz.f218=true:=by kernel_rfl
theorem xv:al.funcs[(218:Nat)]? =some Tryz.f218:=Tryz.func218
theorem aiY:bY o4 PD Wy 2 Tryz.f245=true:=by kernel_rfl
theorem acq:al.funcs[(245:Nat)]? =some Tryz.f245:=Tryz.func245
theorem aiZ:bY o4 PE Wz 4 Tryz.f246=true:=by kernel_rfl
theorem acr:al.funcs[(246:Nat)]? =some Tryz.f246:=Tryz.func246
theorem aiW:bY o4 PB Ww 3 Tryz.f247=true:=by kernel_rfl
theorem aco:al.funcs[(247:Nat)]? =some Tryz.f247:=Tryz.func247
theorem Dk:bY o4 ze AV 2 Tryz.f248=true:=by kernel_rfl
theorem BV:al.funcs[(248:Nat)]? =some Tryz.f248:=Tryz.func248
theorem Mf:bY o4 EN Hg 2 Tryz.f249=true:=by kernel_rfl
theorem JI:al.funcs[(249:Nat)]? =some Tryz.f249:=Tryz.func249
theorem ai0:bY o4 PF AU 5 Tryz.f257=true:=by kernel_rfl
theorem acs:al.funcs[(257:Nat)]? =some Tryz.f257:=Tryz.func257
theorem VT:bY o4 IY Hh 3 Tryz.f258=true:=by kernel_rfl
theorem R4:al.funcs[(258:Nat)]? =some Tryz.f258:=Tryz.func258
theorem ai4:bY o4 PJ WC 2 Tryz.f259=true:=by kernel_rfl
theorem acx:al.funcs[(259:Nat)]? =some Tryz.f259:=Tryz.func259
theorem ai3:bY o4 PI WB 2 Tryz.f260=true:=by kernel_rfl
theorem acw:al.funcs[(260:Nat)]? =some Tryz.f260:=Tryz.func260
end Go.Proofs.YtahlgcidhnjlbaaGreat
namespace Go.Proofs.YtahlgcidhnjlbaaGreat
open Go Go.Pv
section
variable {α:Type} (S:α→cL) (dk:∀a,ej (S a)) (fa:∀a b,Same (S a) (S b)) (g:Nat) (dv:List ah) (ay:∀a,aJ (inObs (S a)) dv) (cY:cW dv=dv)
include dk fa ay cY in
theorem SC(hd:α→Prop)(f:Int→α→Option α)(aI:∀v a bp,hd a→f v a=some bp→hd bp∧bV al g (.int .i64 v::dv) (S a) fun r ai=>r= .tuple []∧ai=S bp)(t:T):
  ∀a bp,hd a→t.foldO f a=some bp→hd bp∧bV al 134 [t.e,.func g dv] (S a) fun r ai=>r= .tuple []∧ai=S bp:=by
 have au:∀a m,Pv.look (.loc m) (S a).b=none:=fun a=>(dk a).obj.1;have hu:∀a m cs,cB (.loc m) cs (S a).b=(S a).b++[(.loc m,cs)]:=fun a m cs=>j9 (au a m);have ax:∀a m,aH.loc m∉cV (S a):=fun a=>j4 (dk a).obj;induction t with
 |pair x y pI r3=>intro a bp hi he;have ag:=dk a;simp only[T.foldO,kd]at he;obtain⟨bG,J,U⟩:=he;obtain⟨i1,g1⟩:=pI a bG hi J;obtain⟨i2,g2⟩:=r3 bG bp i1 U;refine⟨i2,?_⟩;refine bV.mk mixed fQ zp AJ (by simp) ag.obj fun aN cT=>?_;unfold xp;simp[hu,ax,cJ,au,cY];(with_reducible repeat' first|refine aj ?_|simp[hu,ax,cJ,au]);refine c9.ob g1 ag aT aT (by simp[ay]) ?_;rintro r ai ⟨rfl,rfl⟩;refine⟨fa _ _,?_⟩;simp[gZ,iO,cz,au];(with_reducible repeat' first|refine aj ?_|simp[hu,ax,cJ,au]);rw[cY];refine c9.ob g2 (dk bG) aT aT (by simp[ay]) ?_;rintro r ai ⟨rfl,rfl⟩;refine⟨fa _ _,?_⟩;simp[gZ,iO,cz,au];refine cX.at (S bp) (.inr rfl) (dk _) (fa _ _) aT aT ?_;simp[c6,yz,aY,aZ,aW]
 |var n=>intro a bp hi he;have ag:=dk a;simp only[T.foldO]at he;obtain⟨i1,g1⟩:=aI n a bp hi he;refine⟨i1,?_⟩;refine bV.mk mixed fQ zp AJ (by simp) ag.obj fun aN cT=>?_;unfold xp;simp[hu,ax,cJ,au,cY];(with_reducible repeat' first|refine aj ?_|simp[hu,ax,cJ,au]);refine c9.ob g1 ag aT aT (by simp[ay]) ?_;rintro r ai ⟨rfl,rfl⟩;refine⟨fa _ _,?_⟩;simp[gZ,iO,cz,au,cJ];refine cX.at (S bp) (.inr rfl) (dk _) (fa _ _) aT aT ?_;simp[c6,yz,aY,aZ,aW]
 |_=>intro a bp hi he;have ag:=dk a;simp only[T.foldO,dM]at he;subst he;refine⟨hi,?_⟩;refine bV.mk mixed fQ zp AJ (by simp) ag.obj fun aN cT=>?_;unfold xp;simp[hu,ax,cJ,au,cY];(with_reducible repeat' first|refine aj ?_|simp[hu,ax,cJ,au]);refine cX.at (S a) (.inr rfl) ag (Same.refl _) aT aT ?_;simp[c6,yz,aY,aZ,aW]
include dk fa ay cY in
theorem J5(f:Int→α→Option α)(aI:∀v a bp,f v a=some bp→bV al g (.int .i64 v::dv) (S a) fun r ai=>r= .tuple []∧ai=S bp)(t:T)(a bp:α)(h:t.foldO f a=some bp):bV al 134 [t.e,.func g dv] (S a) fun r ai=>r= .tuple []∧ai=S bp:=(SC S dk fa g dv ay cY (fun _=>True) f (fun v a bp _ h=>⟨trivial,aI v a bp h⟩) t a bp trivial h).2
include dk fa ay cY in
theorem aez(f:Int→α→Option (T×α))(aI:∀v a p,f v a=some p→bV al g (.int .i64 v::dv) (S a) fun r ai=>r= .tuple [p.1.e,.bool true]∧ai=S p.2)(t:T):
  ∀a p,t.mapO f a=some p→bV al 194 [t.e,.func g dv] (S a) fun r ai=>r=p.1.e∧ai=S p.2:=by
 have au:∀a m,Pv.look (.loc m) (S a).b=none:=fun a=>(dk a).obj.1;have cH:∀a m,Pv.look (.loc m) (S a).e=none:=fun a=>(dk a).obj.2;have hu:∀a m cs,cB (.loc m) cs (S a).b=(S a).b++[(.loc m,cs)]:=fun a m cs=>j9 (au a m);have ax:∀a m,aH.loc m∉cV (S a):=fun a=>j4 (dk a).obj;have lO:∀a m p r,cB (.loc m) p ((S a).b++r)=(S a).b++cB (.loc m) p r:=fun a m p r=>Bi (au a m);induction t with
 |pair x y pI r3=>intro a p he;have ag:=dk a;simp only[T.mapO,kd,gT]at he;obtain⟨cQ,J,dy,U,rfl⟩:=he;refine bV.mk mixed fQ zq AK (by simp) ag.obj fun aN cT=>?_;unfold xq;simp[hu,ax,cJ,au,cH,cY,lO];(with_reducible repeat' first|refine aj ?_|simp[hu,ax,cJ,au,cH,lO]);refine ih.ob (pI a cQ J) ag (dk cQ.2) (fa _ _) aT aT (by simp[ay]) ?_;simp[gZ,iO,cz,au,cY];(with_reducible repeat' first|refine aj ?_|simp[hu,ax,cJ,au,cH,lO]);refine ih.ob (r3 cQ.2 dy U) (dk cQ.2) (dk dy.2) (fa _ _) aT aT (by simp[ay,cY]) ?_;simp[gZ,iO,cz,au,cY];(with_reducible repeat' first|refine aj ?_|refine aD (If _ _) ?_|refine aE (If _ _) ?_|simp[cJ,au,lO]);refine cX.at (S dy.2) (.inl rfl) (dk _) (fa _ _) aT aT ?_;simp[c6,yA,aY,aZ,aW,cJ,au]
 |var n=>
  intro a p he;have ag:=dk a;simp only[T.mapO]at he;refine bV.mk mixed fQ zq AK (by simp) ag.obj fun aN cT=>?_;unfold xq;simp[hu,ax,cJ,au,cY,lO];(with_reducible repeat' first|refine aj ?_|simp[hu,ax,cJ,au,lO]);refine c9.ob (aI n a p he) ag aT aT (by simp[ay]) ?_;rintro r ai ⟨rfl,rfl⟩;refine⟨fa _ _,?_⟩;simp[gZ,iO,cz,au,hu,ax,cJ];(with_reducible repeat' first|refine aj ?_|refine aD (tL _) ?_|refine aE (tL _) ?_|simp[hu,ax,cJ,au,lO]);all_goals refine cX.at (S p.2) (.inl rfl) (dk _) (fa _ _) aT aT ?_
  all_goals simp[c6,yA,aY,aZ,aW,cJ,au]
 |_=>intro a p he;have ag:=dk a;simp only[T.mapO,dM]at he;subst he;refine bV.mk mixed fQ zq AK (by simp) ag.obj fun aN cT=>?_;unfold xq;simp[hu,ax,cJ,au,cY,lO];(with_reducible repeat' first|refine aj ?_|simp[hu,ax,cJ,au,lO]);refine cX.at (S a) (.inl rfl) ag (Same.refl _) aT aT ?_;simp[c6,yA,aY,aZ,aW,cJ,au]
include dk fa ay cY in
theorem aeM(hd:α→Prop)(f:Int→α→Option (Int×α))(Cp:∀v a p,hd a→f v a=some p→hd p.2∧0≤p.1∧p.1≤1000000)(aI:∀v a p,hd a→f v a=some p→bV al g (.int .i64 v::dv) (S a) fun r ai=>r= .int .i64 p.1∧ai=S p.2)(t:T):
  ∀a p,hd a→t.sizeO f a=some p→hd p.2∧(0≤p.1∧p.1≤5001)∧bV al 192 [t.e,.func g dv] (S a) fun r ai=>r= .int .i64 p.1∧ai=S p.2:=by
 have au:∀a m,Pv.look (.loc m) (S a).b=none:=fun a=>(dk a).obj.1;have hu:∀a m cs,cB (.loc m) cs (S a).b=(S a).b++[(.loc m,cs)]:=fun a m cs=>j9 (au a m);have ax:∀a m,aH.loc m∉cV (S a):=fun a=>j4 (dk a).obj;induction t with
 |pair x y pI r3=>
  intro a p hi he;have ag:=dk a;simp only[T.sizeO,kd]at he;obtain⟨cQ,J,U⟩:=he;obtain⟨i1,b1,g1⟩:=pI a cQ hi J;by_cases FK:5000<cQ.1
  ·rw[if_pos FK]at U;cases U;refine⟨i1,b1,?_⟩;refine bV.mk mixed fQ xw yr (by simp) ag.obj fun aN cT=>?_;unfold vB;simp[hu,ax,cJ,au,cY];(with_reducible repeat' first|refine aj ?_|simp[hu,ax,cJ,au]);refine c9.ob g1 ag aT aT (by simp[ay]) ?_;rintro r ai ⟨rfl,rfl⟩;refine⟨fa _ _,?_⟩;simp[gZ,iO,cz,au];((with_reducible repeat' first|((first|apply bK|apply bM|apply bL)<;>intro h<;>try simp at h)|refine aj ?_|simp[hu,ax,cJ,au])<;>(try contradiction));all_goals first|omega|(refine cX.at (S p.2) (.inl rfl) (dk _) (fa _ _) aT aT ?_;simp[c6,vb,aY,aZ,aW])
  ·rw[if_neg FK,gT]at U;obtain⟨dy,U,rfl⟩:=U;obtain⟨i2,b2,g2⟩:=r3 cQ.2 dy i1 U;refine⟨i2,by simp only;split<;>omega,?_⟩;refine bV.mk mixed fQ xw yr (by simp) ag.obj fun aN cT=>?_;unfold vB;simp[hu,ax,cJ,au,cY];(with_reducible repeat' first|((first|apply bK|apply bM|apply bL)<;>intro h<;>try simp at h)|refine aj ?_|simp[hu,ax,cJ,au]);refine c9.ob g1 ag aT aT (by simp[ay]) ?_;rintro r ai ⟨rfl,rfl⟩;refine⟨fa _ _,?_⟩;simp[gZ,iO,cz,au];((with_reducible repeat' first|refine aj ?_|simp[hu,ax,cJ,au]|((first|apply bK|apply bM|apply bL)<;>intro h<;>try simp at h))<;>(try exact cc));all_goals first|omega|skip
   rw[cY];refine c9.ob g2 (dk cQ.2) aT aT (by simp[ay]) ?_;rintro r s2 ⟨rfl,rfl⟩;refine⟨fa _ _,?_⟩;simp[gZ,iO,cz,au];(with_reducible repeat' first|refine aj ?_|simp[hu,ax,cJ,au]);refine cX.at (S dy.2) (.inl rfl) (dk _) (fa _ _) aT aT ?_;simp[c6,vb,aY,aZ,aW]
 |var n=>intro a p hi he;have ag:=dk a;simp only[T.sizeO,gT]at he;obtain⟨cQ,J,rfl⟩:=he;have ae:=Cp n a cQ hi J;refine⟨ae.1,by simp only;split<;>omega,?_⟩;refine bV.mk mixed fQ xw yr (by simp) ag.obj fun aN cT=>?_;unfold vB;simp[hu,ax,cJ,au,cY];(with_reducible repeat' first|refine aj ?_|simp[hu,ax,cJ,au]);refine c9.ob (aI n a cQ hi J) ag aT aT (by simp[ay]) ?_;rintro r ai ⟨rfl,rfl⟩;refine⟨fa _ _,?_⟩;simp[gZ,iO,cz,au];refine cX.at (S cQ.2) (.inl rfl) (dk _) (fa _ _) aT aT ?_;simp[c6,vb,aY,aZ,aW]
 |_=>intro a p hi he;have ag:=dk a;simp only[T.sizeO,dM]at he;subst he;refine⟨hi,by simp,?_⟩;refine bV.mk mixed fQ xw yr (by simp) ag.obj fun aN cT=>?_;unfold vB;simp[hu,ax,cJ,au,cY];(with_reducible repeat' first|refine aj ?_|simp[hu,ax,cJ,au]);refine cX.at (S a) (.inl rfl) ag (Same.refl _) aT aT ?_;simp[c6,vb,aY,aZ,aW]
end
end Go.Proofs.YtahlgcidhnjlbaaGreat
namespace Go.Pv
open Go Go.RowKit
section
variable {P:cF} {ob:List aH} {st:bs} {Q:Exit→bs→Prop} {c:C} {α:Type}
theorem dR(cf:List Nat)(cs:Nat→α→List (Nat×ah))(n:Nat)(gV:Nat→α→Prop)(a0:α)(hw:iU ob st (pL st cf (cs 0 a0)))(bD:gV 0 a0)(vT:∀a,gV n a→(∀i,ea (get i (pL st cf (cs n a)).t))→c0 P ob c (bT ob (y3 (fun i a=>pL st cf (cs i a)) n gV) 0 Q) (pL st cf (cs n a)))
  (jQ:∀i a,i<n→gV i a→(∀j,ea (get j (pL st cf (cs i a)).t))→c0 P ob c (bT ob (y3 (fun i a=>pL st cf (cs i a)) n gV) (n-i) Q) (pL st cf (cs i a))):c0 P ob (.loop c) Q st:=
 hH (fun i a=>pL st cf (cs i a)) n gV a0 hw bD vT jQ
theorem vH(cf:List Nat)(cs:α→List (Nat×ah))(μ:α→Nat)(gV:α→Prop)(a0:α)(hw:iU ob st (pL st cf (cs a0)))(bD:gV a0)
  (jQ:∀a,gV a→(∀j,ea (get j (pL st cf (cs a)).t))→c0 P ob c (bT ob (Bs (fun a=>pL st cf (cs a)) μ gV) (μ a) Q) (pL st cf (cs a))):c0 P ob (.loop c) Q st:=
 oC (fun a=>pL st cf (cs a)) μ gV a0 hw bD jQ
end
attribute [simp] ail
end Go.Pv
namespace Go.Proofs.YtahlgcidhnjlbaaGreat
open Go Go.Pv
theorem LH{α β:Type}(k:aH):∀{l:List (aH×α)} {a1:List (aH×β)},l.map (·.1)=a1.map (·.1)→(Pv.look k l).isSome=(Pv.look k a1).isSome
 |[],[],_=>rfl
 |[],_::_,h=>by simp at h
 |_::_,[],h=>by simp at h
 |(i,x)::r,(j,y)::eS,h=>by
  simp only[gS,qv]at h;simp only[Pv.look];obtain⟨rfl,h⟩:=h;split
  ·rfl
  ·exact LH k h
theorem _root_.Go.Pv.Same.keys{s ai:cL}(ae:s.b.map (·.1)=ai.b.map (·.1))(he:s.e.map (·.1)=ai.e.map (·.1)):Same s ai:=⟨fun k=>LH k ae,fun k=>LH k he⟩
section
variable {α:Type} (e:α→ah)
def r6(l:List (Int×α)):List ah:=jS (l.map fun x=>(x.1,e x.2))
theorem OU(k:Int):∀l:List (Int×α),xk k (l.map fun x=>(x.1,e x.2))=(tg k l).map e
 |[]=>rfl
 |(i,v)::r=>by
  simp only[gS,xk,tg];split
  ·rfl
  ·exact OU k r
theorem O1(k:Int)(v:α):∀l:List (Int×α),pg k (e v) (l.map fun x=>(x.1,e x.2))=if(tg k l).isSome then some ((e0 k v l).map fun x=>(x.1,e x.2))else none
 |[]=>rfl
 |(i,w)::r=>by
  simp only[gS,pg,tg,e0];by_cases h:k=i
  ·subst h;simp
  ·simp only[h,if_false,O1 k v r];cases (tg k r).isSome<;>simp
theorem Yc{k:Int}{v:α}:∀{l:List (Int×α)},tg k l=none→e0 k v l=l++[(k,v)]
 |[],_=>rfl
 |(i,w)::r,h=>by
  simp only[tg]at h;split at h
  ·cases h
  ·rename_i cH;simp[e0,cH,Yc h]
theorem L1(k:Int)(v:α)(l:List (Int×α)):oW .i (.int .i64 k) (e v) (r6 e l)=some (r6 e (e0 k v l)):=by
 simp only[r6,VE,EB,O1];cases h:tg k l with
 |some w=>simp
 |none=>simp[Yc h]
theorem LX(f:aH→Option (List ah))(m:aH)(l:List (Int×α))(z:ah)(ok:Bool)(k:Int)(hm:f m=some (r6 e l)):n2 f .i z ok (.gmap m) (.int .i64 k)=some (True,if ok then .tuple [((tg k l).map e).getD z,.bool (tg k l).isSome]else((tg k l).map e).getD z):=by rw[ah7 f m _ z ok k hm,OU];cases tg k l<;>rfl
@[simp] theorem asm(l:List (Int×α)):h2 (r6 e l)=false:=rfl
theorem Lt(S:aH→Prop)(he:∀x,aF S (e x))(l:List (Int×α)):aJ S (r6 e l):=by
 have:∀l:List (Int×α),aJ S (ku (l.map fun x=>(x.1,e x.2))):=by
  intro l;induction l with
  |nil=>simp[ku,aJ]
  |cons x r bZ=>simp[ku,aJ,bZ,he]
 simp[r6,jS,aJ,this,aF]
end
def nz:List (Int×Int)→List ah:=r6 (ah.int .i64)
def qh:List (Int×Bool)→List ah:=r6 ah.bool
def tl:List (Int×T)→List ah:=r6 T.e
@[simp] theorem asi(l):h2 (nz l)=false:=rfl
@[simp] theorem asg(l):h2 (qh l)=false:=rfl
@[simp] theorem asl(l):h2 (tl l)=false:=rfl
@[simp] theorem aqY(S:aH→Prop)(l):aJ S (nz l)=True:=eq_true (Lt _ S (fun _=>by simp) l)
@[simp] theorem aqX(S:aH→Prop)(l):aJ S (qh l)=True:=eq_true (Lt _ S (fun _=>by simp) l)
@[simp] theorem aqZ(S:aH→Prop)(l):aJ S (tl l)=True:=eq_true (Lt _ S (fun _=>by simp) l)
@[simp] theorem ar4(k v:Int)(l):oW .i (.int .i64 k) (.int .i64 v) (nz l)=some (nz (e0 k v l)):=L1 _ k v l
@[simp] theorem ar3(k:Int)(v:Bool)(l):oW .i (.int .i64 k) (.bool v) (qh l)=some (qh (e0 k v l)):=L1 _ k v l
@[simp] theorem ar6(k:Int)(v:T)(l):oW .i (.int .i64 k) v.e (tl l)=some (tl (e0 k v l)):=L1 _ k v l
def Db(cf:jH)(z:ah)(ok:Bool)(o:Option (List ah))(k:ah):Option (Prop×ah):=n2 (fun _=>o) cf z ok (.gmap (.loc 0)) k
@[simp] theorem ar0(f:aH→Option (List ah))(cf:jH)(z:ah)(ok:Bool)(m:aH)(k:ah):n2 f cf z ok (.gmap m) k=Db cf z ok (f m) k:=by simp only[Db,Vt]
theorem ah9(f:aH→Option (List ah))(m:aH)(l:List (Int×Int))(ok:Bool)(k:Int)(hm:f m=some (nz l)):n2 f .i (.int .i64 0) ok (.gmap m) (.int .i64 k)=some (True,if ok then .tuple [.int .i64 (jf l k),.bool (tg k l).isSome]else .int .i64 (jf l k)):=by rw[LX _ f m l _ ok k hm];unfold jf;cases tg k l<;>rfl
theorem ah8(f:aH→Option (List ah))(m:aH)(l:List (Int×Bool))(ok:Bool)(k:Int)(hm:f m=some (qh l)):n2 f .i (.bool false) ok (.gmap m) (.int .i64 k)=some (True,if ok then .tuple [.bool ((tg k l).getD false),.bool (tg k l).isSome]else .bool ((tg k l).getD false)):=by rw[LX _ f m l _ ok k hm];cases tg k l<;>rfl
def NQ:ah:= .agg [.int .i64 0,.int .i64 0,.str [],.slice 4 .nil []]
def tH(o:Option T):ah:=(o.map T.e).getD NQ
theorem aia(f:aH→Option (List ah))(m:aH)(l:List (Int×T))(ok:Bool)(k:Int)(hm:f m=some (tl l)):n2 f .i (.agg [.int .i64 0,.int .i64 0,.str [],.slice 4 .nil []]) ok (.gmap m) (.int .i64 k)=some (True,if ok then .tuple [tH (tg k l),.bool (tg k l).isSome]else tH (tg k l)):=by rw[LX _ f m l _ ok k hm];rfl
@[simp] theorem arY(l:List (Int×Int))(ok:Bool)(k:Int):Db .i (.int .i64 0) ok (some (nz l)) (.int .i64 k)=some (True,if ok then .tuple [.int .i64 (jf l k),.bool (tg k l).isSome]else .int .i64 (jf l k)):=ah9 _ _ l ok k rfl
@[simp] theorem arX(l:List (Int×Bool))(ok:Bool)(k:Int):Db .i (.bool false) ok (some (qh l)) (.int .i64 k)=some (True,if ok then .tuple [.bool ((tg k l).getD false),.bool (tg k l).isSome]else .bool ((tg k l).getD false)):=ah8 _ _ l ok k rfl
@[simp] theorem arZ(l:List (Int×T))(ok:Bool)(k:Int):Db .i (.agg [.int .i64 0,.int .i64 0,.str [],.slice 4 .nil []]) ok (some (tl l)) (.int .i64 k)=some (True,if ok then .tuple [tH (tg k l),.bool (tg k l).isSome]else tH (tg k l)):=aia _ _ l ok k rfl
@[simp] theorem atW(o:Option T):dr (tH o)=(o.getD .nil).e:=by cases o<;>simp[tH,NQ,dr,cW]
@[simp] theorem arC(S:aH→Prop)(o:Option T):aF S (tH o)=True:=by cases o<;>simp[tH,NQ,aF,aJ]
@[simp] theorem arM:[ah.hdm 0 []]=jS []:=rfl
def aA:ah:= .eptr (.agg [.gmap (.obj 702),.gmap (.obj 703),.gmap (.obj 704),.gmap (.obj 705),.gmap (.obj 706),.gmap (.obj 707)])
def az(c:bA):List (aH×List ah):=[(.obj 702,nz c.up),(.obj 703,tl c.shape),(.obj 704,qh c.shaped),(.obj 705,nz c.color),(.obj 706,nz c.size),(.obj 707,tl c.full)]
def aO(c:bA):cL:=⟨az c,[]⟩
theorem cj(c:bA):ej (aO c):=by unfold aO az;exact ej.of ⟨by intro m;simp[Pv.look],by intro m;simp[Pv.look]⟩ (by simp) (by simp)
theorem Er(c ct:bA):Same (aO c) (aO ct):=by
 refine⟨fun k=>?_,fun k=>rfl⟩;simp only[aO,az,Pv.look];repeat' split
 all_goals rfl
theorem rC(c:bA)(v r:Int)(ct:bA)(he:rt c v=some (r,ct)):bV al 216 [aA,.int .i64 v] (aO c) fun eS ai=>eS= .int .i64 r∧ai=aO ct:=by
 have ag:=cj c;have gr:=cj ct;have fa:=Er c ct;simp only[rt,gT,jF]at he;obtain⟨⟨cN,m1⟩,he,rfl,rfl⟩:=he;unfold aO az at ag gr fa⊢;simp only at gr fa⊢;unfold aA;refine bV.mk mixed jC acu ai1 (by simp) ag.obj fun aN cT=>?_;unfold PG;simp;(with_reducible repeat' first|((first|apply bK|apply bM|apply bL)<;>intro h<;>try simp at h)|refine aj ?_|simp);all_goals
  refine oC (α:=Nat×Int×List (Int×Int)) (fun a=>⟨[(0,aA),(1,.int .i64 a.2.1)],[(.obj 702,nz a.2.2),(.obj 703,tl c.shape),(.obj 704,qh c.shaped),(.obj 705,nz c.color),(.obj 706,nz c.size),(.obj 707,tl c.full)],[],0,[.obj 702,.obj 703,.obj 704,.obj 705,.obj 706,.obj 707]⟩) (fun a=>a.1) (fun a=>wU a.1 a.2.2 a.2.1=some (cN,m1)) (v.toNat+1,v,y8 v c.up) (by simp[y8,h,aA];exact⟨by simp[fresh,aJ,aF,ck,inObs,Pv.look,aA],ee (by simp[fresh,aJ,aF,ck,inObs,Pv.look,aA]),ef (by simp[fresh,aJ,aF,dV,inObs,Pv.look,aA]),by simp⟩) he ?_
  rintro⟨n,u,m⟩ af ae
  simp only at af ae⊢
  cases n with
  |zero=>simp[wU]at af
  |succ n=>
   simp only[wU]at af
   simp[aA]
   (with_reducible repeat' first|((first|apply bK|apply bM|apply bL)<;>intro h<;>try simp at h)|refine aj ?_|simp)
   ·rw[if_neg h]at af
    refine bT.whl (n,jf (e0 u (jf m (jf m u)) m) u,e0 u (jf m (jf m u)) m) (Nat.lt_succ_self n) af ?_
    simp[aA]
    exact⟨by simp[fresh,aJ,aF,ck,inObs,Pv.look,aA],ee (by simp[fresh,aJ,aF,ck,inObs,Pv.look,aA]),ef (by simp[fresh,aJ,aF,dV,inObs,Pv.look,aA]),by simp⟩
   ·rw[if_pos h]at af
    cases af
    refine cX.at _ (.inl rfl) gr fa aT aT ?_
    simp[c6,WA,aY,aZ,aW]
end Go.Proofs.YtahlgcidhnjlbaaGreat
namespace Go.Proofs.YtahlgcidhnjlbaaGreat
open Go Go.Pv
theorem aeA(c:bA)(v r:Int)(ct:bA)(he:rt c v=some (r,ct)):bV al 245 [.int .i64 v,.eptr aA] (aO c) fun eS ai=>eS= .tuple []∧ai=aO ct:=by have ag:=cj c;simp only[aO,az]at ag⊢;refine bV.mk mixed jC acq aiY (by simp) ag.obj fun aN cT=>?_;unfold PD;simp[aA];(refine c9.ob (rC c v r ct he) (by first|exact cj _|exact cj ‹_› _) (by simp only[aO,az,aA,bX,b3];exact aT) (by simp only[aO,az,aA,bX,b3];exact aT) (by simp[inObs,Pv.look,aO,az,aA]) ?_;rintro r ai ⟨rfl,rfl⟩;refine⟨(Same.keys (by simp[aO,az,aA]) (by simp[aO,az,aA])),?_⟩;simp[cz,aO,az,aA]);(refine cX.at (aO ct) (by simp) (by first|exact cj _|exact cj ‹_› _) (Same.keys (by simp[aO,az,aA]) (by simp[aO,az,aA])) (by simp only[aO,az,aA,bX,b3];exact aT) (by simp only[aO,az,aA,bX,b3];exact aT) ?_;simp[c6,Wy,aY,aZ,aW,inObs,Pv.look,aO,az,aA])
theorem J8(c:bA)(t:T)(ct:bA)(he:Au t c=some ct):bV al 217 [aA,t.e] (aO c) fun eS ai=>eS= .tuple []∧ai=aO ct:=by
 have ag:=cj c;have key:=J5 aO cj Er 245 [.eptr aA] (fun a=>by simp[aO,az,aA,inObs,Pv.look]) rfl (fun(v:Int) (c:bA)=>(rt c v).map Prod.snd) (fun v a bp h=>by rw[gT]at h;obtain⟨⟨r,bN⟩,J,rfl⟩:=h;exact aeA a v r bN J) t c ct he
 simp only[aO,az]at ag⊢;refine bV.mk mixed jC acp aiX (by simp) ag.obj fun aN cT=>?_;unfold PC;simp[aA];(refine c9.ob (key) (by first|exact cj _|exact cj ‹_› _) (by simp only[aO,az,aA,bX,b3];exact aT) (by simp only[aO,az,aA,bX,b3];exact aT) (by simp[inObs,Pv.look,aO,az,aA]) ?_;rintro r ai ⟨rfl,rfl⟩;refine⟨(Same.keys (by simp[aO,az,aA]) (by simp[aO,az,aA])),?_⟩;simp[cz,aO,az,aA]);(refine cX.at (aO ct) (by simp) (by first|exact cj _|exact cj ‹_› _) (Same.keys (by simp[aO,az,aA]) (by simp[aO,az,aA])) (by simp only[aO,az,aA,bX,b3];exact aT) (by simp only[aO,az,aA,bX,b3];exact aT) ?_;simp[c6,Wx,aY,aZ,aW,inObs,Pv.look,aO,az,aA])
def eI(K:Nat)(a:bA×List (Int×Bool)):cL:=⟨az a.1++[(.obj K,qh a.2)],[]⟩
def gg(K:Nat)(a:tU):cL:=⟨az a.c++[(.obj K,qh a.seen),(.obj 712,[.bool a.found])],[]⟩
def yo(K:Nat):Prop:=K=715∨K=716
theorem ik{K:Nat}(dh:yo K)(a):ej (eI K a):=by unfold eI az;rcases dh with rfl|rfl;all_goals exact ej.of ⟨by intro m;simp[Pv.look],by intro m;simp[Pv.look]⟩ (by simp) (by simp)
theorem pX{K:Nat}(dh:yo K)(a):ej (gg K a):=by unfold gg az;rcases dh with rfl|rfl;all_goals exact ej.of ⟨by intro m;simp[Pv.look],by intro m;simp[Pv.look]⟩ (by simp) (by simp)
theorem Is{K:Nat}(a b):Same (gg K a) (gg K b):=by
 refine⟨fun k=>?_,fun k=>rfl⟩;simp only[gg,az,bX,b3,Pv.look];repeat' split
 all_goals rfl
theorem aeG{K:Nat}(dh:yo K)(n:Nat)(x:Int)(v8:∀t c seen a,pO n x t c seen=some a→bV al 246 [aA,t.e,.int .i64 x,.gmap (.obj K)] (eI K (c,seen)) fun r ai=>r= .bool a.found∧ai=eI K (a.c,a.seen))
  (v:Int) (a bp:tU) (he:wT (pO n x) x v a=some bp):bV al 257 [.int .i64 v,.eptr aA,.ptr (.obj 712) 0,.eptr (.int .i64 x),.eptr (.gmap (.obj K))] (gg K a) fun r ai=>r= .tuple []∧ai=gg K bp:=by
 have ag:=pX dh a;simp only[wT,kd]at he;obtain⟨⟨r,bN⟩,J,U⟩:=he;simp only at U;have ad:=dh;rcases ad with rfl|rfl;all_goals
  simp only[gg,az,bX,b3]at ag⊢
  refine bV.mk mixed jC acs ai0 (by simp) ag.obj fun aN cT=>?_;unfold PF
  simp[aA]
  (refine c9.ob (rC a.c v r bN J) (by first|exact cj _|exact cj ‹_› _) (by simp only[aO,az,aA,bX,b3];exact aT) (by simp only[aO,az,aA,bX,b3];exact aT) (by simp[inObs,Pv.look,aO,az,aA]) ?_;rintro r ai ⟨rfl,rfl⟩;refine⟨(Same.keys (by simp[aO,az,aA]) (by simp[aO,az,aA])),?_⟩;simp[cz,aO,az,aA])
  obtain⟨ac,tF,IE⟩:=a
  cases IE with
  |true=>
   simp at U;subst U
   (with_reducible repeat' first|refine aj ?_|simp)
   (refine cX.at (gg _ ⟨bN,tF,true⟩) (by simp) (by first|exact pX _|exact pX ‹_› _) (Same.keys (by simp[gg,az,aA]) (by simp[gg,az,aA])) (by simp only[gg,az,aA,bX,b3];exact aT) (by simp only[gg,az,aA,bX,b3];exact aT) ?_;simp[c6,AU,aY,aZ,aW,inObs,Pv.look,gg,az,aA])
  |false=>
   by_cases ab:r=x
   ·simp[ab]at U;subst U
    (with_reducible repeat' first|refine aj ?_|simp[ab])
    (refine cX.at (gg _ ⟨bN,tF,true⟩) (by simp) (by first|exact pX _|exact pX ‹_› _) (Same.keys (by simp[gg,az,aA]) (by simp[gg,az,aA])) (by simp only[gg,az,aA,bX,b3];exact aT) (by simp only[gg,az,aA,bX,b3];exact aT) ?_;simp[c6,AU,aY,aZ,aW,inObs,Pv.look,gg,az,aA])
   ·have iu:(r==x)=false:=by simp[ab]
    simp only[ab,hb,or_self,if_false]at U
    cases z6:(tg r tF).getD false with
    |true=>
     simp[z6]at U;subst U
     (with_reducible repeat' first|refine aj ?_|simp[iu,z6])
     (refine cX.at (gg _ ⟨bN,tF,false⟩) (by simp) (by first|exact pX _|exact pX ‹_› _) (Same.keys (by simp[gg,az,aA]) (by simp[gg,az,aA])) (by simp only[gg,az,aA,bX,b3];exact aT) (by simp only[gg,az,aA,bX,b3];exact aT) ?_;simp[c6,AU,aY,aZ,aW,inObs,Pv.look,gg,az,aA])
    |false=>
     cases gE:bN.shd r with
     |false=>
      have KX:(tg r bN.shaped).getD false=false:=gE
      simp[z6,gE]at U;subst U
      (with_reducible repeat' first|refine aj ?_|simp[iu,z6,KX])
      (refine cX.at (gg _ ⟨bN,tF,false⟩) (by simp) (by first|exact pX _|exact pX ‹_› _) (Same.keys (by simp[gg,az,aA]) (by simp[gg,az,aA])) (by simp only[gg,az,aA,bX,b3];exact aT) (by simp only[gg,az,aA,bX,b3];exact aT) ?_;simp[c6,AU,aY,aZ,aW,inObs,Pv.look,gg,az,aA])
     |true=>
      have KX:(tg r bN.shaped).getD false=true:=gE
      simp[z6,gE]at U
      have aM:=v8 _ _ _ _ U
      (with_reducible repeat' first|refine aj ?_|simp[iu,z6,KX])
      (refine ih.ob (aM) (by first|exact ik _|exact ik ‹_› _) (by first|exact ik _|exact ik ‹_› _) (Same.keys (by simp[eI,az,aA]) (by simp[eI,az,aA])) (by simp only[eI,az,aA,bX,b3];exact aT) (by simp only[eI,az,aA,bX,b3];exact aT) (by simp[inObs,Pv.look,eI,az,aA]) ?_;simp[cz,eI,az,aA])
      (with_reducible repeat' first|refine aj ?_|simp)
      (refine cX.at (gg _ bp) (by simp) (by first|exact pX _|exact pX ‹_› _) (Same.keys (by simp[gg,az,aA]) (by simp[gg,az,aA])) (by simp only[gg,az,aA,bX,b3];exact aT) (by simp only[gg,az,aA,bX,b3];exact aT) ?_;simp[c6,AU,aY,aZ,aW,inObs,Pv.look,gg,az,aA])
theorem Fz{K:Nat}(dh:yo K)(x:Int)(n:Nat):∀(t:T) (c:bA) (seen:List (Int×Bool)) (a:tU),pO n x t c seen=some a→bV al 246 [aA,t.e,.int .i64 x,.gmap (.obj K)] (eI K (c,seen)) fun r ai=>r= .bool a.found∧ai=eI K (a.c,a.seen):=by
 induction n with
 |zero=>intro t c seen a h;simp[pO]at h
 |succ n bZ=>
  intro t c seen a h;simp only[pO]at h;have ag:=ik dh (c,seen);have key:=J5 (gg K) (pX dh) Is 257 [.eptr aA,.ptr (.obj 712) 0,.eptr (.int .i64 x),.eptr (.gmap (.obj K))] (fun a=>by rcases dh with rfl|rfl<;>simp[gg,az,aA,inObs,Pv.look]) rfl (wT (pO n x) x) (fun v a bp h=>aeG dh n x bZ v a bp h) t ⟨c,seen,false⟩ a h;have ad:=dh;rcases ad with rfl|rfl;all_goals
   simp only[eI,az,bX,b3]at ag⊢
   refine bV.mk mixed jC acr aiZ (by simp) ag.obj fun aN cT=>?_;unfold PE
   simp[aA]
   refine c9.new key (pX dh _) (by simp only[gg,az,aA,bX,b3];exact aT) (by simp only[gg,az,aA,bX,b3];exact aT) (by simp[inObs,Pv.look,gg,az,aA]) ?_
   rintro r ai ⟨rfl,rfl⟩
   refine⟨fun m hm=>.inl ⟨?_,Is _ _⟩,?_⟩
   ·exact((Is _ _).inObs _).2 hm
   simp[cz,gg,az]
   (with_reducible repeat' first|refine aj ?_|simp)
   (refine cX.at (eI _ (a.c,a.seen)) (by simp) (by first|exact ik _|exact ik ‹_› _) (Same.keys (by simp[eI,az,aA]) (by simp[eI,az,aA])) (by simp only[eI,az,aA,bX,b3];exact aT) (by simp only[eI,az,aA,bX,b3];exact aT) ?_;simp[c6,Wz,aY,aZ,aW,inObs,Pv.look,eI,az,aA])
@[simp] theorem LJ:qh []=jS []:=rfl
@[simp] theorem atZ(t:T):tH (some t)=t.e:=rfl
@[simp] theorem atY:tH none= .agg [.int .i64 0,.int .i64 0,.str [],.slice 4 .nil []]:=rfl
theorem SF(n:Nat)(x:Int)(t:T)(c:bA)(p:Bool×bA)(he:uU n x t c=some p):bV al 247 [aA,.int .i64 x,t.e] (aO c) fun r ai=>r= .bool p.1∧ai=aO p.2:=by have ag:=cj c;simp only[uU,gT]at he;obtain⟨a,J,rfl⟩:=he;have dh:yo 715:= .inl rfl;have key:=Fz dh x n t (c.know x t) [] a J;simp only[aO,az]at ag⊢;refine bV.mk mixed jC aco aiW (by simp) ag.obj fun aN cT=>?_;unfold PB;simp[aA];(refine c9.ob (key) (by first|exact ik _|exact ik ‹_› _) (by simp only[eI,az,aA,bA.know,bX,b3];exact aT) (by simp only[eI,az,aA,bA.know,bX,b3];exact aT) (by simp[inObs,Pv.look,eI,az,aA,bA.know]) ?_;rintro r ai ⟨rfl,rfl⟩;refine⟨(Same.keys (by simp[eI,az,aA,bA.know]) (by simp[eI,az,aA,bA.know])),?_⟩;simp[cz,eI,az,aA,bA.know]);(refine cX.at (aO a.c) (by simp) (by first|exact cj _|exact cj ‹_› _) (Same.keys (by simp[aO,az,aA]) (by simp[aO,az,aA])) (by simp only[aO,az,aA,bX,b3];exact aT) (by simp only[aO,az,aA,bX,b3];exact aT) ?_;simp[c6,Ww,aY,aZ,aW,inObs,Pv.look,aO,az,aA])
set_option maxRecDepth 4000 in
theorem SD(n:Nat):∀(a b:T) (c:bA) (p:Bool×bA),gB n a b c=some p→bV al 218 [aA,a.e,b.e] (aO c) fun r ai=>r= .bool p.1∧ai=aO p.2:=by
 induction n with
 |zero=>intro a b c p h;simp[gB]at h
 |succ n bZ=>
  intro a b c p he;have ag:=cj c;have CP:∀i j,a= .var i→b= .var j→bV al 218 [aA,a.e,b.e] (aO c) fun r ai=>r= .bool p.1∧ai=aO p.2:=by
   rintro i j rfl rfl;simp only[gB,kd]at he;obtain⟨⟨x,bN⟩,J,⟨y,cq⟩,U,ar⟩:=he;simp only at U ar;simp only[aO,az]at ag⊢;refine bV.mk mixed jC xv yq (by simp) ag.obj fun aN cT=>?_;unfold vA;simp[aA];(refine c9.ob (rC c i x bN J) (by first|exact cj _|exact cj ‹_› _) (by simp only[aO,az,aA,bX,b3];exact aT) (by simp only[aO,az,aA,bX,b3];exact aT) (by simp[inObs,Pv.look,aO,az,aA]) ?_;rintro r ai ⟨rfl,rfl⟩;refine⟨(Same.keys (by simp[aO,az,aA]) (by simp[aO,az,aA])),?_⟩;simp[cz,aO,az,aA]);(with_reducible repeat' first|refine aj ?_|simp);(refine c9.ob (rC bN j y cq U) (by first|exact cj _|exact cj ‹_› _) (by simp only[aO,az,aA,bX,b3];exact aT) (by simp only[aO,az,aA,bX,b3];exact aT) (by simp[inObs,Pv.look,aO,az,aA]) ?_;rintro r ai ⟨rfl,rfl⟩;refine⟨(Same.keys (by simp[aO,az,aA]) (by simp[aO,az,aA])),?_⟩;simp[cz,aO,az,aA]);by_cases hZ:x=y
   ·rw[if_pos hZ]at ar;cases ar;(with_reducible repeat' first|refine aj ?_|simp[hZ]);(refine cX.at (aO cq) (by simp) (by first|exact cj _|exact cj ‹_› _) (Same.keys (by simp[aO,az,aA]) (by simp[aO,az,aA])) (by simp only[aO,az,aA,bX,b3];exact aT) (by simp only[aO,az,aA,bX,b3];exact aT) ?_;simp[c6,n4,aY,aZ,aW,inObs,Pv.look,aO,az,aA])
   ·rw[if_neg hZ]at ar;have Ae:(x==y)=false:=by simp[hZ]
    have SZ:yo 715:= .inl rfl;have afd:yo 716:= .inr rfl;obtain⟨u,v,Ab,a8⟩:∃u v,((u=y∧v=x∧y<x)∨(u=x∧v=y∧¬y<x))∧rv (gB n) n u v (cq.join u v)=some p:=by
     by_cases bE:y<x
     ·rw[if_pos bE]at ar;exact⟨y,x,.inl ⟨rfl,rfl,bE⟩,ar⟩
     ·rw[if_neg bE]at ar;exact⟨x,y,.inr ⟨rfl,rfl,bE⟩,ar⟩
    clear ar;obtain⟨d,aR⟩:∃d,d=cq.join u v:=⟨_,rfl⟩;have fw:d.up=e0 v u cq.up:=by rw[aR];rfl
    have eU:d.shape=cq.shape:=by rw[aR];rfl
    have gC:d.shaped=cq.shaped:=by rw[aR];rfl
    have hI:d.color=cq.color:=by rw[aR];rfl
    have hJ:d.size=cq.size:=by rw[aR];rfl
    have hK:d.full=cq.full:=by rw[aR];rfl
    rw[←aR]at a8;simp only[rv]at a8;cases aK:d.shd v with
    |false=>
     have me:(tg v cq.shaped).getD false=false:=by rw[←gC];exact aK
     rw[if_pos aK]at a8;cases hu:d.shd u with
     |false=>
      have uL:(tg u cq.shaped).getD false=false:=by rw[←gC];exact hu
      rw[if_pos hu]at a8;cases a8;rcases Ab with⟨rfl,rfl,bE⟩|⟨rfl,rfl,bE⟩;all_goals
       (with_reducible repeat' first|refine aj ?_|simp[Ae,bE,me,uL])
       (refine cX.at (aO d) (by simp) (by first|exact cj _|exact cj ‹_› _) (Same.keys (by simp[aO,az,aA,fw,eU,gC,hI,hJ,hK]) (by simp[aO,az,aA,fw,eU,gC,hI,hJ,hK])) (by simp only[aO,az,aA,fw,eU,gC,hI,hJ,hK,bX,b3];exact aT) (by simp only[aO,az,aA,fw,eU,gC,hI,hJ,hK,bX,b3];exact aT) ?_;simp[c6,n4,aY,aZ,aW,inObs,Pv.look,aO,az,aA,fw,eU,gC,hI,hJ,hK])
     |true=>
      have uL:(tg u cq.shaped).getD false=true:=by rw[←gC];exact hu
      rw[if_neg (by simp[hu]),gT]at a8;obtain⟨a,b4,rfl⟩:=a8;have key:=Fz SZ u n _ _ _ _ b4;rw[show d.shp u=(tg u cq.shape).getD .nil from by rw[←eU];rfl]at key;rcases Ab with⟨rfl,rfl,bE⟩|⟨rfl,rfl,bE⟩;all_goals
       (with_reducible repeat' first|refine aj ?_|simp[Ae,bE,me,uL])
       (refine c9.ob (key) (by first|exact ik _|exact ik ‹_› _) (by simp only[eI,az,aA,fw,eU,gC,hI,hJ,hK,bX,b3];exact aT) (by simp only[eI,az,aA,fw,eU,gC,hI,hJ,hK,bX,b3];exact aT) (by simp[inObs,Pv.look,eI,az,aA,fw,eU,gC,hI,hJ,hK]) ?_;rintro r ai ⟨rfl,rfl⟩;refine⟨(Same.keys (by simp[eI,az,aA,fw,eU,gC,hI,hJ,hK]) (by simp[eI,az,aA,fw,eU,gC,hI,hJ,hK])),?_⟩;simp[cz,eI,az,aA,fw,eU,gC,hI,hJ,hK])
       (with_reducible repeat' first|refine aj ?_|simp)
       (refine cX.at (aO a.c) (by simp) (by first|exact cj _|exact cj ‹_› _) (Same.keys (by simp[aO,az,aA]) (by simp[aO,az,aA])) (by simp only[aO,az,aA,bX,b3];exact aT) (by simp only[aO,az,aA,bX,b3];exact aT) ?_;simp[c6,n4,aY,aZ,aW,inObs,Pv.look,aO,az,aA])
    |true=>
     have me:(tg v cq.shaped).getD false=true:=by rw[←gC];exact aK
     rw[if_neg (by simp[aK])]at a8;rw[show d.shp v=(tg v cq.shape).getD .nil from by rw[←eU];rfl]at a8;cases hu:d.shd u with
     |false=>
      have uL:(tg u cq.shaped).getD false=false:=by rw[←gC];exact hu
      rw[if_pos hu]at a8;have key:=SF n u _ d p a8;cases aL:tg v cq.shape;all_goals
       rw[aL]at key
       simp only[h5,hO]at key
       rcases Ab with⟨rfl,rfl,bE⟩|⟨rfl,rfl,bE⟩
       all_goals
        (with_reducible repeat' first|refine aj ?_|simp[Ae,bE,me,uL,aL])
        (refine c9.ob (key) (by first|exact cj _|exact cj ‹_› _) (by simp only[aO,az,aA,fw,eU,gC,hI,hJ,hK,bX,b3];exact aT) (by simp only[aO,az,aA,fw,eU,gC,hI,hJ,hK,bX,b3];exact aT) (by simp[inObs,Pv.look,aO,az,aA,fw,eU,gC,hI,hJ,hK]) ?_;rintro r ai ⟨rfl,rfl⟩;refine⟨(Same.keys (by simp[aO,az,aA,fw,eU,gC,hI,hJ,hK]) (by simp[aO,az,aA,fw,eU,gC,hI,hJ,hK])),?_⟩;simp[cz,aO,az,aA,fw,eU,gC,hI,hJ,hK])
        (with_reducible repeat' first|refine aj ?_|simp)
        (refine cX.at (aO p.2) (by simp) (by first|exact cj _|exact cj ‹_› _) (Same.keys (by simp[aO,az,aA]) (by simp[aO,az,aA])) (by simp only[aO,az,aA,bX,b3];exact aT) (by simp only[aO,az,aA,bX,b3];exact aT) ?_;simp[c6,n4,aY,aZ,aW,inObs,Pv.look,aO,az,aA])
     |true=>
      have uL:(tg u cq.shaped).getD false=true:=by rw[←gC];exact hu
      rw[if_neg (by simp[hu]),kd]at a8;obtain⟨a,b4,dd⟩:=a8;have key:=Fz SZ u n _ _ _ _ b4;obtain⟨o,aL⟩:∃o,tg v cq.shape=o:=⟨_,rfl⟩;rw[aL]at key dd;obtain⟨ac,tF,IE⟩:=a;cases IE with
      |true=>
       simp at dd;subst dd;cases o;all_goals
        simp only[h5,hO]at key
        rcases Ab with⟨rfl,rfl,bE⟩|⟨rfl,rfl,bE⟩
        all_goals
         (with_reducible repeat' first|refine aj ?_|simp[Ae,bE,me,uL,aL])
         (refine ih.ob (key) (by first|exact ik _|exact ik ‹_› _) (by first|exact ik _|exact ik ‹_› _) (Same.keys (by simp[eI,az,aA,fw,eU,gC,hI,hJ,hK]) (by simp[eI,az,aA,fw,eU,gC,hI,hJ,hK])) (by simp only[eI,az,aA,fw,eU,gC,hI,hJ,hK,bX,b3];exact aT) (by simp only[eI,az,aA,fw,eU,gC,hI,hJ,hK,bX,b3];exact aT) (by simp[inObs,Pv.look,eI,az,aA,fw,eU,gC,hI,hJ,hK]) ?_;simp[cz,eI,az,aA,fw,eU,gC,hI,hJ,hK])
         (with_reducible repeat' first|refine aj ?_|simp)
         (refine cX.at (aO ac) (by simp) (by first|exact cj _|exact cj ‹_› _) (Same.keys (by simp[aO,az,aA]) (by simp[aO,az,aA])) (by simp only[aO,az,aA,bX,b3];exact aT) (by simp only[aO,az,aA,bX,b3];exact aT) ?_;simp[c6,n4,aY,aZ,aW,inObs,Pv.look,aO,az,aA])
      |false=>
       simp only[hb,if_false,kd]at dd;obtain⟨b,eo,nV⟩:=dd;have wv:=Fz afd u n _ _ _ _ eo;rw[show ac.shp u=(tg u ac.shape).getD .nil from rfl]at wv;obtain⟨IJ,apc,ZT⟩:=b;cases ZT with
       |true=>
        simp at nV;subst nV;cases o;all_goals
         simp only[h5,hO]at key
         rcases Ab with⟨rfl,rfl,bE⟩|⟨rfl,rfl,bE⟩
         all_goals
          (with_reducible repeat' first|refine aj ?_|simp[Ae,bE,me,uL,aL])
          (refine ih.ob (key) (by first|exact ik _|exact ik ‹_› _) (by first|exact ik _|exact ik ‹_› _) (Same.keys (by simp[eI,az,aA,fw,eU,gC,hI,hJ,hK]) (by simp[eI,az,aA,fw,eU,gC,hI,hJ,hK])) (by simp only[eI,az,aA,fw,eU,gC,hI,hJ,hK,bX,b3];exact aT) (by simp only[eI,az,aA,fw,eU,gC,hI,hJ,hK,bX,b3];exact aT) (by simp[inObs,Pv.look,eI,az,aA,fw,eU,gC,hI,hJ,hK]) ?_;simp[cz,eI,az,aA,fw,eU,gC,hI,hJ,hK])
          (with_reducible repeat' first|refine aj ?_|simp)
          (refine ih.ob (wv) (by first|exact ik _|exact ik ‹_› _) (by first|exact ik _|exact ik ‹_› _) (Same.keys (by simp[eI,az,aA]) (by simp[eI,az,aA])) (by simp only[eI,az,aA,bX,b3];exact aT) (by simp only[eI,az,aA,bX,b3];exact aT) (by simp[inObs,Pv.look,eI,az,aA]) ?_;simp[cz,eI,az,aA])
          (with_reducible repeat' first|refine aj ?_|simp)
          (refine cX.at (aO IJ) (by simp) (by first|exact cj _|exact cj ‹_› _) (Same.keys (by simp[aO,az,aA]) (by simp[aO,az,aA])) (by simp only[aO,az,aA,bX,b3];exact aT) (by simp only[aO,az,aA,bX,b3];exact aT) ?_;simp[c6,n4,aY,aZ,aW,inObs,Pv.look,aO,az,aA])
       |false=>
        simp only[hb,if_false]at nV;have Lq:=bZ _ _ _ _ nV;rw[show IJ.shp u=(tg u IJ.shape).getD .nil from rfl]at Lq;cases o;all_goals
         simp only[h5,hO]at key Lq
         rcases Ab with⟨rfl,rfl,bE⟩|⟨rfl,rfl,bE⟩
         all_goals
          (with_reducible repeat' first|refine aj ?_|simp[Ae,bE,me,uL,aL])
          (refine ih.ob (key) (by first|exact ik _|exact ik ‹_› _) (by first|exact ik _|exact ik ‹_› _) (Same.keys (by simp[eI,az,aA,fw,eU,gC,hI,hJ,hK]) (by simp[eI,az,aA,fw,eU,gC,hI,hJ,hK])) (by simp only[eI,az,aA,fw,eU,gC,hI,hJ,hK,bX,b3];exact aT) (by simp only[eI,az,aA,fw,eU,gC,hI,hJ,hK,bX,b3];exact aT) (by simp[inObs,Pv.look,eI,az,aA,fw,eU,gC,hI,hJ,hK]) ?_;simp[cz,eI,az,aA,fw,eU,gC,hI,hJ,hK])
          (with_reducible repeat' first|refine aj ?_|simp)
          (refine ih.ob (wv) (by first|exact ik _|exact ik ‹_› _) (by first|exact ik _|exact ik ‹_› _) (Same.keys (by simp[eI,az,aA]) (by simp[eI,az,aA])) (by simp only[eI,az,aA,bX,b3];exact aT) (by simp only[eI,az,aA,bX,b3];exact aT) (by simp[inObs,Pv.look,eI,az,aA]) ?_;simp[cz,eI,az,aA])
          (with_reducible repeat' first|refine aj ?_|simp)
          (refine ih.ob (Lq) (by first|exact cj _|exact cj ‹_› _) (by first|exact cj _|exact cj ‹_› _) (Same.keys (by simp[aO,az,aA]) (by simp[aO,az,aA])) (by simp only[aO,az,aA,bX,b3];exact aT) (by simp only[aO,az,aA,bX,b3];exact aT) (by simp[inObs,Pv.look,aO,az,aA]) ?_;simp[cz,aO,az,aA])
          (with_reducible repeat' first|refine aj ?_|simp)
          (refine cX.at (aO p.2) (by simp) (by first|exact cj _|exact cj ‹_› _) (Same.keys (by simp[aO,az,aA]) (by simp[aO,az,aA])) (by simp only[aO,az,aA,bX,b3];exact aT) (by simp only[aO,az,aA,bX,b3];exact aT) ?_;simp[c6,n4,aY,aZ,aW,inObs,Pv.look,aO,az,aA])
  have aK:∀i,a= .var i→b.kind≠1→bV al 218 [aA,a.e,b.e] (aO c) fun r ai=>r= .bool p.1∧ai=aO p.2:=by
   rintro i rfl ae;have vS:((rt c i).bind fun p=>if p.2.shd p.1=false then uU n p.1 b p.2 else gB n (p.2.shp p.1) b p.2)=some p:=by cases b<;>first|exact he|simp at ae
   simp only[kd]at vS;obtain⟨⟨x,bN⟩,J,U⟩:=vS;simp only at U;have gb:(b.kind==1)=false:=by simp[ae]
   simp only[aO,az]at ag⊢;refine bV.mk mixed jC xv yq (by simp) ag.obj fun aN cT=>?_;unfold vA;simp[aA];(with_reducible repeat' first|refine aj ?_|simp[gb,ae]);(refine c9.ob (rC c i x bN J) (by first|exact cj _|exact cj ‹_› _) (by simp only[aO,az,aA,bX,b3];exact aT) (by simp only[aO,az,aA,bX,b3];exact aT) (by simp[inObs,Pv.look,aO,az,aA]) ?_;rintro r ai ⟨rfl,rfl⟩;refine⟨(Same.keys (by simp[aO,az,aA]) (by simp[aO,az,aA])),?_⟩;simp[cz,aO,az,aA]);cases ab:bN.shd x with
   |false=>have iu:(tg x bN.shaped).getD false=false:=ab;rw[if_pos ab]at U;(with_reducible repeat' first|refine aj ?_|simp[iu]);(refine c9.ob (SF n x b bN p U) (by first|exact cj _|exact cj ‹_› _) (by simp only[aO,az,aA,bX,b3];exact aT) (by simp only[aO,az,aA,bX,b3];exact aT) (by simp[inObs,Pv.look,aO,az,aA]) ?_;rintro r ai ⟨rfl,rfl⟩;refine⟨(Same.keys (by simp[aO,az,aA]) (by simp[aO,az,aA])),?_⟩;simp[cz,aO,az,aA]);(refine cX.at (aO p.2) (by simp) (by first|exact cj _|exact cj ‹_› _) (Same.keys (by simp[aO,az,aA]) (by simp[aO,az,aA])) (by simp only[aO,az,aA,bX,b3];exact aT) (by simp only[aO,az,aA,bX,b3];exact aT) ?_;simp[c6,n4,aY,aZ,aW,inObs,Pv.look,aO,az,aA])
   |true=>have iu:(tg x bN.shaped).getD false=true:=ab;rw[if_neg (by simp[ab])]at U;have key:=bZ _ _ _ _ U;(with_reducible repeat' first|refine aj ?_|simp[iu]);(refine ih.ob (key) (by first|exact cj _|exact cj ‹_› _) (by first|exact cj _|exact cj ‹_› _) (Same.keys (by simp[aO,az,aA]) (by simp[aO,az,aA])) (by simp only[aO,az,aA,bX,b3];exact aT) (by simp only[aO,az,aA,bX,b3];exact aT) (by simp[inObs,Pv.look,aO,az,aA]) ?_;simp[cz,aO,az,aA]);(with_reducible repeat' first|refine aj ?_|simp);(refine cX.at (aO p.2) (by simp) (by first|exact cj _|exact cj ‹_› _) (Same.keys (by simp[aO,az,aA]) (by simp[aO,az,aA])) (by simp only[aO,az,aA,bX,b3];exact aT) (by simp only[aO,az,aA,bX,b3];exact aT) ?_;simp[c6,n4,aY,aZ,aW,inObs,Pv.look,aO,az,aA])
  cases a with
  |var i=>
   cases b with
   |var j=>exact CP i j rfl rfl
   |_=>exact aK i rfl (by simp)
  |pair bG a2=>
   cases b with
   |var j=>simp only[gB]at he;have key:=bZ _ _ _ _ he;simp only[aO,az]at ag⊢;refine bV.mk mixed jC xv yq (by simp) ag.obj fun aN cT=>?_;unfold vA;simp[aA];(refine c9.ob (key) (by first|exact cj _|exact cj ‹_› _) (by simp only[aO,az,aA,bX,b3];exact aT) (by simp only[aO,az,aA,bX,b3];exact aT) (by simp[inObs,Pv.look,aO,az,aA]) ?_;rintro r ai ⟨rfl,rfl⟩;refine⟨(Same.keys (by simp[aO,az,aA]) (by simp[aO,az,aA])),?_⟩;simp[cz,aO,az,aA]);(refine cX.at (aO p.2) (by simp) (by first|exact cj _|exact cj ‹_› _) (Same.keys (by simp[aO,az,aA]) (by simp[aO,az,aA])) (by simp only[aO,az,aA,bX,b3];exact aT) (by simp only[aO,az,aA,bX,b3];exact aT) ?_;simp[c6,n4,aY,aZ,aW,inObs,Pv.look,aO,az,aA])
   |pair b1 b2=>
    simp only[gB,kd]at he;obtain⟨⟨f1,bN⟩,J,U⟩:=he;have key:=bZ _ _ _ _ J;simp only[aO,az]at ag⊢;refine bV.mk mixed jC xv yq (by simp) ag.obj fun aN cT=>?_;unfold vA;simp[aA];(with_reducible repeat' first|refine aj ?_|simp);(refine ih.ob (key) (by first|exact cj _|exact cj ‹_› _) (by first|exact cj _|exact cj ‹_› _) (Same.keys (by simp[aO,az,aA]) (by simp[aO,az,aA])) (by simp only[aO,az,aA,bX,b3];exact aT) (by simp only[aO,az,aA,bX,b3];exact aT) (by simp[inObs,Pv.look,aO,az,aA]) ?_;simp[cz,aO,az,aA]);cases f1 with
    |false=>simp at U;subst U;(with_reducible repeat' first|refine aj ?_|simp);(refine cX.at (aO bN) (by simp) (by first|exact cj _|exact cj ‹_› _) (Same.keys (by simp[aO,az,aA]) (by simp[aO,az,aA])) (by simp only[aO,az,aA,bX,b3];exact aT) (by simp only[aO,az,aA,bX,b3];exact aT) ?_;simp[c6,n4,aY,aZ,aW,inObs,Pv.look,aO,az,aA])
    |true=>simp at U;have wv:=bZ _ _ _ _ U;(with_reducible repeat' first|refine aj ?_|simp);(refine ih.ob (wv) (by first|exact cj _|exact cj ‹_› _) (by first|exact cj _|exact cj ‹_› _) (Same.keys (by simp[aO,az,aA]) (by simp[aO,az,aA])) (by simp only[aO,az,aA,bX,b3];exact aT) (by simp only[aO,az,aA,bX,b3];exact aT) (by simp[inObs,Pv.look,aO,az,aA]) ?_;simp[cz,aO,az,aA]);(with_reducible repeat' first|refine aj ?_|simp);(refine cX.at (aO p.2) (by simp) (by first|exact cj _|exact cj ‹_› _) (Same.keys (by simp[aO,az,aA]) (by simp[aO,az,aA])) (by simp only[aO,az,aA,bX,b3];exact aT) (by simp only[aO,az,aA,bX,b3];exact aT) ?_;simp[c6,n4,aY,aZ,aW,inObs,Pv.look,aO,az,aA])
   |_=>simp[gB]at he;subst he;simp only[aO,az]at ag⊢;refine bV.mk mixed jC xv yq (by simp) ag.obj fun aN cT=>?_;unfold vA;simp[aA];(refine cX.at (aO c) (by simp) (by first|exact cj _|exact cj ‹_› _) (Same.keys (by simp[aO,az,aA]) (by simp[aO,az,aA])) (by simp only[aO,az,aA,bX,b3];exact aT) (by simp only[aO,az,aA,bX,b3];exact aT) ?_;simp[c6,n4,aY,aZ,aW,inObs,Pv.look,aO,az,aA])
  |_=>
   cases b with
   |var j=>simp only[gB]at he;have key:=bZ _ _ _ _ he;simp only[aO,az]at ag⊢;refine bV.mk mixed jC xv yq (by simp) ag.obj fun aN cT=>?_;unfold vA;simp[aA];(refine c9.ob (key) (by first|exact cj _|exact cj ‹_› _) (by simp only[aO,az,aA,bX,b3];exact aT) (by simp only[aO,az,aA,bX,b3];exact aT) (by simp[inObs,Pv.look,aO,az,aA]) ?_;rintro r ai ⟨rfl,rfl⟩;refine⟨(Same.keys (by simp[aO,az,aA]) (by simp[aO,az,aA])),?_⟩;simp[cz,aO,az,aA]);(refine cX.at (aO p.2) (by simp) (by first|exact cj _|exact cj ‹_› _) (Same.keys (by simp[aO,az,aA]) (by simp[aO,az,aA])) (by simp only[aO,az,aA,bX,b3];exact aT) (by simp only[aO,az,aA,bX,b3];exact aT) ?_;simp[c6,n4,aY,aZ,aW,inObs,Pv.look,aO,az,aA])
   |_=>
    simp[gB]at he;subst he;simp only[aO,az]at ag⊢;refine bV.mk mixed jC xv yq (by simp) ag.obj fun aN cT=>?_;unfold vA;simp[aA];((with_reducible repeat' first|refine aj ?_|simp|((first|apply bK|apply bM|apply bL)<;>intro h<;>try simp at h))<;>(try exact cc));all_goals(refine cX.at (aO c) (by simp) (by first|exact cj _|exact cj ‹_› _) (Same.keys (by simp[aO,az,aA]) (by simp[aO,az,aA])) (by simp only[aO,az,aA,bX,b3];exact aT) (by simp only[aO,az,aA,bX,b3];exact aT) ?_;simp[c6,n4,aY,aZ,aW,inObs,Pv.look,aO,az,aA])
    all_goals simp_all
def mo(c:bA):Prop:= ∀x,0≤c.sz x∧c.sz x≤5001
theorem mo.rt{c:bA}(h:mo c){v r:Int}{ct:bA}(he:rt c v=some (r,ct)):mo ct:=by simp only[Pv.rt,gT,jF]at he;obtain⟨p,_,_,rfl⟩:=he;exact h
theorem mo.put{c:bA}(h:mo c){x k:Int}(ad:0≤k∧k≤5001)(m:List (Int×Int)):mo {c with size:=e0 x k c.size,color:=m}:=fun z=>by
 show 0≤(tg z (e0 x k c.size)).getD 0∧(tg z (e0 x k c.size)).getD 0≤5001;rw[nJ];split
 ·exact ad
 ·exact h z
theorem aeX(c:bA)(v:Int)(p:Int×bA)(he:yL v c=some p):bV al 259 [.int .i64 v,.eptr aA] (aO c) fun r ai=>r= .int .i64 p.1∧ai=aO p.2:=by have ag:=cj c;simp only[yL,gT]at he;obtain⟨⟨r,bN⟩,J,rfl⟩:=he;simp only[aO,az]at ag⊢;refine bV.mk mixed jC acx ai4 (by simp) ag.obj fun aN cT=>?_;unfold PJ;simp[aA];(refine ih.ob (rC c v r bN J) (by first|exact cj _|exact cj ‹_› _) (by first|exact cj _|exact cj ‹_› _) (Same.keys (by simp[aO,az,aA]) (by simp[aO,az,aA])) (by simp only[aO,az,aA,bX,b3];exact aT) (by simp only[aO,az,aA,bX,b3];exact aT) (by simp[inObs,Pv.look,aO,az,aA]) ?_;simp[cz,aO,az,aA]);(with_reducible repeat' first|refine aj ?_|simp);(refine cX.at (aO bN) (by simp) (by first|exact cj _|exact cj ‹_› _) (Same.keys (by simp[aO,az,aA]) (by simp[aO,az,aA])) (by simp only[aO,az,aA,bX,b3];exact aT) (by simp only[aO,az,aA,bX,b3];exact aT) ?_;simp[c6,WC,aY,aZ,aW,inObs,Pv.look,aO,az,aA]);all_goals rfl
def gv(a:bA×Bool):cL:=⟨az a.1++[(.obj 712,[.bool a.2])],[]⟩
theorem qA(a):ej (gv a):=by unfold gv az;exact ej.of ⟨by intro m;simp[Pv.look],by intro m;simp[Pv.look]⟩ (by simp) (by simp)
theorem Zr(a b):Same (gv a) (gv b):=Same.keys (by simp[gv,az]) (by simp[gv,az])
theorem aeW(n:Nat)(v8:∀x c p,qs n x c=some p→mo c→mo p.2∧bV al 248 [aA,.int .i64 x] (aO c) fun r ai=>r= .bool p.1∧ai=aO p.2)
  (v:Int) (a bp:bA×Bool) (bq:mo a.1) (he:yX (qs n) v a=some bp):mo bp.1∧bV al 258 [.int .i64 v,.ptr (.obj 712) 0,.eptr aA] (gv a) fun r ai=>r= .tuple []∧ai=gv bp:=by
 have ag:=qA a;obtain⟨c,f⟩:=a;cases f with
 |false=>simp[yX]at he;subst he;refine⟨bq,?_⟩;simp only[gv,az,bX,b3]at ag⊢;refine bV.mk mixed jC R4 VT (by simp) ag.obj fun aN cT=>?_;unfold IY;simp[aA];(with_reducible repeat' first|refine aj ?_|simp);(refine cX.at (gv (c,false)) (by simp) (by first|exact qA _|exact qA ‹_› _) (Same.keys (by simp[gv,az,aA]) (by simp[gv,az,aA])) (by simp only[gv,az,aA,bX,b3];exact aT) (by simp only[gv,az,aA,bX,b3];exact aT) ?_;simp[c6,Hh,aY,aZ,aW,inObs,Pv.look,gv,az,aA])
 |true=>
  simp only[yX,if_true,kd,gT]at he;obtain⟨⟨r,bN⟩,J,⟨f2,cq⟩,U,rfl⟩:=he;obtain⟨z2,key⟩:=v8 _ _ _ U (bq.rt J);refine⟨z2,?_⟩;simp only[gv,az,bX,b3]at ag⊢;refine bV.mk mixed jC R4 VT (by simp) ag.obj fun aN cT=>?_;unfold IY;simp[aA];(with_reducible repeat' first|refine aj ?_|simp);(refine ih.ob (rC c v r bN J) (by first|exact cj _|exact cj ‹_› _) (by first|exact cj _|exact cj ‹_› _) (Same.keys (by simp[aO,az,aA]) (by simp[aO,az,aA])) (by simp only[aO,az,aA,bX,b3];exact aT) (by simp only[aO,az,aA,bX,b3];exact aT) (by simp[inObs,Pv.look,aO,az,aA]) ?_;simp[cz,aO,az,aA]);(with_reducible repeat' first|refine aj ?_|simp);(refine ih.ob (key) (by first|exact cj _|exact cj ‹_› _) (by first|exact cj _|exact cj ‹_› _) (Same.keys (by simp[aO,az,aA]) (by simp[aO,az,aA])) (by simp only[aO,az,aA,bX,b3];exact aT) (by simp only[aO,az,aA,bX,b3];exact aT) (by simp[inObs,Pv.look,aO,az,aA]) ?_;simp[cz,aO,az,aA]);cases f2 with
  |true=>(with_reducible repeat' first|refine aj ?_|simp);(refine cX.at (gv (cq,true)) (by simp) (by first|exact qA _|exact qA ‹_› _) (Same.keys (by simp[gv,az,aA]) (by simp[gv,az,aA])) (by simp only[gv,az,aA,bX,b3];exact aT) (by simp only[gv,az,aA,bX,b3];exact aT) ?_;simp[c6,Hh,aY,aZ,aW,inObs,Pv.look,gv,az,aA])
  |false=>(with_reducible repeat' first|refine aj ?_|simp);(refine cX.at (gv (cq,false)) (by simp) (by first|exact qA _|exact qA ‹_› _) (Same.keys (by simp[gv,az,aA]) (by simp[gv,az,aA])) (by simp only[gv,az,aA,bX,b3];exact aT) (by simp only[gv,az,aA,bX,b3];exact aT) ?_;simp[c6,Hh,aY,aZ,aW,inObs,Pv.look,gv,az,aA])
theorem aeV(n:Nat):∀(x:Int) (c:bA) (p:Bool×bA),qs n x c=some p→mo c→mo p.2∧bV al 248 [aA,.int .i64 x] (aO c) fun r ai=>r= .bool p.1∧ai=aO p.2:=by
 induction n with
 |zero=>intro x c p h;simp[qs]at h
 |succ n bZ=>
  intro x c p he bq;have ag:=cj c;simp only[qs]at he;by_cases U:c.col x=2
  ·rw[if_pos U]at he;cases he;have Cb:jf c.color x=2:=U;refine⟨bq,?_⟩;simp only[aO,az]at ag⊢;refine bV.mk mixed jC BV Dk (by simp) ag.obj fun aN cT=>?_;unfold ze;simp[aA];(with_reducible repeat' first|refine aj ?_|simp[Cb]);(refine cX.at (aO c) (by simp) (by first|exact cj _|exact cj ‹_› _) (Same.keys (by simp[aO,az,aA]) (by simp[aO,az,aA])) (by simp only[aO,az,aA,bX,b3];exact aT) (by simp only[aO,az,aA,bX,b3];exact aT) ?_;simp[c6,AV,aY,aZ,aW,inObs,Pv.look,aO,az,aA])
  rw[if_neg U]at he;have Cb:(jf c.color x==2)=false:=by simp;exact U
  by_cases J:c.col x=1
  ·rw[if_pos J]at he;cases he;have nU:jf c.color x=1:=J;refine⟨bq,?_⟩;simp only[aO,az]at ag⊢;refine bV.mk mixed jC BV Dk (by simp) ag.obj fun aN cT=>?_;unfold ze;simp[aA];(with_reducible repeat' first|refine aj ?_|simp[nU]);(refine cX.at (aO c) (by simp) (by first|exact cj _|exact cj ‹_› _) (Same.keys (by simp[aO,az,aA]) (by simp[aO,az,aA])) (by simp only[aO,az,aA,bX,b3];exact aT) (by simp only[aO,az,aA,bX,b3];exact aT) ?_;simp[c6,AV,aY,aZ,aW,inObs,Pv.look,aO,az,aA])
  rw[if_neg J]at he;have nU:(jf c.color x==1)=false:=by simp;exact J
  have T7:mo (c.grey x):=bq.put (by omega) _;cases mc:(c.grey x).shd x with
  |false=>rw[if_pos mc]at he;cases he;have s8:(tg x c.shaped).getD false=false:=mc;refine⟨T7,?_⟩;simp only[aO,az]at ag⊢;refine bV.mk mixed jC BV Dk (by simp) ag.obj fun aN cT=>?_;unfold ze;simp[aA];(with_reducible repeat' first|refine aj ?_|simp[Cb,nU,s8]);(refine cX.at (aO ((c.grey x).black x)) (by simp) (by first|exact cj _|exact cj ‹_› _) (Same.keys (by simp[aO,az,aA,bA.grey,bA.black]) (by simp[aO,az,aA,bA.grey,bA.black])) (by simp only[aO,az,aA,bA.grey,bA.black,bX,b3];exact aT) (by simp only[aO,az,aA,bA.grey,bA.black,bX,b3];exact aT) ?_;simp[c6,AV,aY,aZ,aW,inObs,Pv.look,aO,az,aA,bA.grey,bA.black])
  |true=>
   rw[if_neg (by simp[mc]),kd]at he;have s8:(tg x c.shaped).getD false=true:=mc;obtain⟨⟨e,f⟩,ar,a8⟩:=he;simp only at a8;obtain⟨Y7,key⟩:=SC gv qA Zr 258 [.ptr (.obj 712) 0,.eptr aA] (fun a=>by simp[gv,az,aA,inObs,Pv.look]) rfl (fun a=>mo a.1) (yX (qs n)) (fun v a bp bq h=>aeW n bZ v a bp bq h) _ _ _ T7 ar;rw[show(c.grey x).shp x=(tg x c.shape).getD .nil from rfl]at key;cases f with
   |false=>simp at a8;subst a8;refine⟨Y7,?_⟩;simp only[aO,az]at ag⊢;refine bV.mk mixed jC BV Dk (by simp) ag.obj fun aN cT=>?_;unfold ze;simp[aA];(with_reducible repeat' first|refine aj ?_|simp[Cb,nU,s8]);(refine c9.ob (key) (by first|exact qA _|exact qA ‹_› _) (by simp only[gv,az,aA,bA.grey,bX,b3];exact aT) (by simp only[gv,az,aA,bA.grey,bX,b3];exact aT) (by simp[inObs,Pv.look,gv,az,aA,bA.grey]) ?_;rintro r ai ⟨rfl,rfl⟩;refine⟨(Same.keys (by simp[gv,az,aA,bA.grey]) (by simp[gv,az,aA,bA.grey])),?_⟩;simp[cz,gv,az,aA,bA.grey]);(with_reducible repeat' first|refine aj ?_|simp);(refine cX.at (aO e) (by simp) (by first|exact cj _|exact cj ‹_› _) (Same.keys (by simp[aO,az,aA]) (by simp[aO,az,aA])) (by simp only[aO,az,aA,bX,b3];exact aT) (by simp only[aO,az,aA,bX,b3];exact aT) ?_;simp[c6,AV,aY,aZ,aW,inObs,Pv.look,aO,az,aA])
   |true=>
    rw[if_neg (by simp),gT]at a8;obtain⟨⟨k,aC⟩,b4,rfl⟩:=a8;obtain⟨z2,b2,wv⟩:=aeM aO cj Er 259 [.eptr aA] (fun a=>by simp[aO,az,aA,inObs,Pv.look]) rfl mo yL (fun v a p bq h=>by simp only[yL,gT]at h;obtain⟨⟨r,bN⟩,J,rfl⟩:=h;exact⟨bq.rt J,(bq.rt J r).1,Int.le_trans (bq.rt J r).2 (by omega)⟩) (fun v a p _ h=>aeX a v p h) _ _ _ Y7 b4
    rw[show bA.shp e x=(tg x e.shape).getD .nil from rfl]at wv;refine⟨z2.put b2 _,?_⟩;simp only[aO,az]at ag⊢;refine bV.mk mixed jC BV Dk (by simp) ag.obj fun aN cT=>?_;unfold ze;simp[aA];(with_reducible repeat' first|refine aj ?_|simp[Cb,nU,s8]);(refine c9.ob (key) (by first|exact qA _|exact qA ‹_› _) (by simp only[gv,az,aA,bA.grey,bX,b3];exact aT) (by simp only[gv,az,aA,bA.grey,bX,b3];exact aT) (by simp[inObs,Pv.look,gv,az,aA,bA.grey]) ?_;rintro r ai ⟨rfl,rfl⟩;refine⟨(Same.keys (by simp[gv,az,aA,bA.grey]) (by simp[gv,az,aA,bA.grey])),?_⟩;simp[cz,gv,az,aA,bA.grey]);(with_reducible repeat' first|refine aj ?_|simp);(refine ih.ob (wv) (by first|exact cj _|exact cj ‹_› _) (by first|exact cj _|exact cj ‹_› _) (Same.keys (by simp[aO,az,aA]) (by simp[aO,az,aA])) (by simp only[aO,az,aA,bX,b3];exact aT) (by simp only[aO,az,aA,bX,b3];exact aT) (by simp[inObs,Pv.look,aO,az,aA]) ?_;simp[cz,aO,az,aA]);(with_reducible repeat' first|refine aj ?_|simp);(refine cX.at (aO (({aC with size:=e0 x k aC.size}:bA).black x)) (by simp) (by first|exact cj _|exact cj ‹_› _) (Same.keys (by simp[aO,az,aA,bA.black]) (by simp[aO,az,aA,bA.black])) (by simp only[aO,az,aA,bA.black,bX,b3];exact aT) (by simp only[aO,az,aA,bA.black,bX,b3];exact aT) ?_;simp[c6,AV,aY,aZ,aW,inObs,Pv.look,aO,az,aA,bA.black])
theorem aeU(n:Nat)(v8:∀x c p,qq n x c=some p→bV al 249 [aA,.int .i64 x] (aO c) fun r ai=>r=p.1.e∧ai=aO p.2)
  (v:Int) (c:bA) (p:T×bA) (he:Bo (qq n) v c=some p):bV al 260 [.int .i64 v,.eptr aA] (aO c) fun r ai=>r= .tuple [p.1.e,.bool true]∧ai=aO p.2:=by
 have ag:=cj c;simp only[Bo,kd]at he;obtain⟨⟨r,bN⟩,J,U⟩:=he;have key:=v8 _ _ _ U;simp only[aO,az]at ag⊢;refine bV.mk mixed jC acw ai3 (by simp) ag.obj fun aN cT=>?_;unfold PI;simp[aA];(with_reducible repeat' first|refine aj ?_|simp);(refine ih.ob (rC c v r bN J) (by first|exact cj _|exact cj ‹_› _) (by first|exact cj _|exact cj ‹_› _) (Same.keys (by simp[aO,az,aA]) (by simp[aO,az,aA])) (by simp only[aO,az,aA,bX,b3];exact aT) (by simp only[aO,az,aA,bX,b3];exact aT) (by simp[inObs,Pv.look,aO,az,aA]) ?_;simp[cz,aO,az,aA]);(with_reducible repeat' first|refine aj ?_|simp);(refine ih.ob (key) (by first|exact cj _|exact cj ‹_› _) (by first|exact cj _|exact cj ‹_› _) (Same.keys (by simp[aO,az,aA]) (by simp[aO,az,aA])) (by simp only[aO,az,aA,bX,b3];exact aT) (by simp only[aO,az,aA,bX,b3];exact aT) (by simp[inObs,Pv.look,aO,az,aA]) ?_;simp[cz,aO,az,aA]);(with_reducible repeat' first|refine aj ?_|simp);(refine cX.at (aO p.2) (by simp) (by first|exact cj _|exact cj ‹_› _) (Same.keys (by simp[aO,az,aA]) (by simp[aO,az,aA])) (by simp only[aO,az,aA,bX,b3];exact aT) (by simp only[aO,az,aA,bX,b3];exact aT) ?_;simp[c6,WB,aY,aZ,aW,inObs,Pv.look,aO,az,aA])
theorem jX(n:Int):bt al 116 [.int .i64 n] (T.var n).e:=by refine bc jC acP ajm fun aN=>?_;unfold P2;exact bO
theorem aeT(n:Nat):∀(x:Int) (c:bA) (p:T×bA),qq n x c=some p→bV al 249 [aA,.int .i64 x] (aO c) fun r ai=>r=p.1.e∧ai=aO p.2:=by
 induction n with
 |zero=>intro x c p h;simp[qq]at h
 |succ n bZ=>
  intro x c p he;have ag:=cj c;simp only[qq]at he;cases aI:tg x c.full with
  |some t=>rw[aI]at he;cases he;simp only[aO,az]at ag⊢;refine bV.mk mixed jC JI Mf (by simp) ag.obj fun aN cT=>?_;unfold EN;simp[aA];(with_reducible repeat' first|refine aj ?_|simp[aI]);(refine cX.at (aO c) (by simp) (by first|exact cj _|exact cj ‹_› _) (Same.keys (by simp[aO,az,aA]) (by simp[aO,az,aA])) (by simp only[aO,az,aA,bX,b3];exact aT) (by simp only[aO,az,aA,bX,b3];exact aT) ?_;simp[c6,Hg,aY,aZ,aW,inObs,Pv.look,aO,az,aA])
  |none=>
   rw[aI]at he;simp only at he;cases mc:c.shd x with
   |false=>have s8:(tg x c.shaped).getD false=false:=mc;rw[if_pos mc]at he;cases he;simp only[aO,az]at ag⊢;refine bV.mk mixed jC JI Mf (by simp) ag.obj fun aN cT=>?_;unfold EN;simp[aA];(with_reducible repeat' first|refine aj ?_|refine aD (jX _) ?_|refine aE (jX _) ?_|simp[aI,s8]);(refine cX.at (aO {c with full:=e0 x (.var x) c.full}) (by simp) (by first|exact cj _|exact cj ‹_› _) (Same.keys (by simp[aO,az,aA]) (by simp[aO,az,aA])) (by simp only[aO,az,aA,bX,b3];exact aT) (by simp only[aO,az,aA,bX,b3];exact aT) ?_;simp[c6,Hg,aY,aZ,aW,inObs,Pv.look,aO,az,aA])
   |true=>have s8:(tg x c.shaped).getD false=true:=mc;rw[if_neg (by simp[mc]),gT]at he;obtain⟨⟨t,bN⟩,J,rfl⟩:=he;have key:=aez aO cj Er 260 [.eptr aA] (fun a=>by simp[aO,az,aA,inObs,Pv.look]) rfl (Bo (qq n)) (fun v a p h=>aeU n bZ v a p h) _ _ _ J;rw[show c.shp x=(tg x c.shape).getD .nil from rfl]at key;simp only[aO,az]at ag⊢;refine bV.mk mixed jC JI Mf (by simp) ag.obj fun aN cT=>?_;unfold EN;simp[aA];(with_reducible repeat' first|refine aj ?_|refine aD (jX _) ?_|refine aE (jX _) ?_|simp[aI,s8]);(refine c9.ob (key) (by first|exact cj _|exact cj ‹_› _) (by simp only[aO,az,aA,bX,b3];exact aT) (by simp only[aO,az,aA,bX,b3];exact aT) (by simp[inObs,Pv.look,aO,az,aA]) ?_;rintro r ai ⟨rfl,rfl⟩;refine⟨(Same.keys (by simp[aO,az,aA]) (by simp[aO,az,aA])),?_⟩;simp[cz,aO,az,aA]);(with_reducible repeat' first|refine aj ?_|simp);(refine cX.at (aO {bN with full:=e0 x t bN.full}) (by simp) (by first|exact cj _|exact cj ‹_› _) (Same.keys (by simp[aO,az,aA]) (by simp[aO,az,aA])) (by simp only[aO,az,aA,bX,b3];exact aT) (by simp only[aO,az,aA,bX,b3];exact aT) ?_;simp[c6,Hg,aY,aZ,aW,inObs,Pv.look,aO,az,aA])
theorem aeB:bV al 215 [] ⟨[],[]⟩ fun r ai=>r=aA∧ai=aO bA.new:=by have ag:ej ⟨[],[]⟩:=ej.of u3 (by simp) (by simp);refine bV.mk mixed jC acE ajb (by simp) ag.obj fun aN cT=>?_;unfold PR;simp;refine cX.new (aO bA.new) (.inl rfl) (cj _) ⟨trivial,trivial⟩ (by simp only[aO,az,bA.new];exact aT) (by simp only[aO,az,bA.new];exact aT) ?_;simp[c6,WK,aY,aZ,aW,inObs,Pv.look,aO,az,aA]
theorem XK{a b:List Int}(h:a.Perm b):q9 a=q9 b:=by
 have aL:∀a b c:Int,(decide (a≤b))=true→(decide (b≤c))=true→(decide (a≤c))=true:=by intro a b c;simp;omega
 have Aa:∀a b:Int,(decide (a≤b)||decide (b≤a))=true:=by intro a b;simp;omega
 have J:=List.pairwise_mergeSort aL Aa a;have U:=List.pairwise_mergeSort aL Aa b;refine Oz (le:=fun x y:Int=>(decide (x≤y))=true) (fun x y _ _ J U=>by simp at J U;omega) J U ?_;exact(List.mergeSort_perm a _).trans (h.trans (List.mergeSort_perm b _).symm)
def aha(l:List Int)(k:Nat)(st:bs):Prop:=∃(seen:List Nat) (xs:List Int),seen.Nodup∧(∀b∈seen,b<l.length)∧k=l.length-seen.length∧xs=seen.filterMap (fun b=>l[b]?)∧xs.length=seen.length∧st=⟨[(3,.row 1 (.obj 306) xs.length),(7,.ptr (.loc 0) 0)],[(.obj 304,ox l),(.loc 0,ck l.length seen (.obj 304))],[(.obj 306,⟨xs.length,3,1,some (eC xs)⟩)],1,[.obj 306,.obj 304]⟩
@[simp] theorem aqG(xs:List Int):(eC xs).length=xs.length:=by simp[eC]
@[simp] theorem atP(xs:List Int):cW (eC xs)=eC xs:=by
 induction xs with
 |nil=>rfl
 |cons x r bZ=>simp only[eC,gS,cW,dr]at bZ⊢;rw[bZ]
@[simp] theorem aqH:eC []=[]:=rfl
theorem ag5(xs:List Int)(x:Int):eC xs++[ah.int .i64 x]=eC (xs++[x]):=by simp[eC]
theorem aeS(l:List Int)(aw:l.length≤1000000):bV al 136 [.gmap (.obj 304)] (tV l) fun r ai=>r= .slice 1 .no (eC (q9 l))∧ai=tV l:=by
 have ag:=OJ l;unfold tV at ag⊢;refine bV.mk mixed fQ acO ajl (by simp) ag.obj fun aN cT=>?_;unfold P1;simp;refine pA (aha l) l.length _ ⟨by simp[fresh,aJ,aF,ck,inObs,Pv.look,mK,th],ee (by simp[fresh,aJ,aF,ck,inObs,Pv.look,mK,th]),ef (by simp[fresh,aJ,aF,dV,inObs,Pv.look,mK,th]),by simp⟩ ⟨[],[],by simp,by simp,by simp,by simp,by simp,rfl⟩ ?_;rintro k st ⟨seen,xs,aR,bE,ad,hY,kl,rfl⟩ kX cT;clear kX cT;have hle:=HP aR bE;simp;refine abc (mk:= .obj 304) (seen:=seen) (l:=l) (by simp) (by simp) rfl (fun lD=>?_) (fun b x ab ae=>?_)
 ·simp;have v7:=Nu aR bE lD;rw[←hY]at v7;refine c9.ob (aeQ 306 xs (by omega)) (It 306 xs) (by unfold mY;exact aT) (by unfold mY;exact aT) (by simp[mY,inObs,Pv.look]) ?_;rintro r ai ⟨rfl,rfl⟩;refine⟨⟨fun _=>rfl,fun k=>by simp only[mY,Pv.look];split<;>rfl⟩,?_⟩;unfold mY;simp[cz,XJ];refine cX.at _ (.inl rfl) ag (Same.refl _) aT aT ?_;simp[c6,WQ,aY,aZ,aW];rw[XK v7];simp[aF,th]
 ·have zS:∀f:aH→Option (List ah),f (.loc 0)=some (ck l.length (seen++[b]) (.obj 304))→f (.obj 304)=some (ox l)→pK f (.ptr (.loc 0) 0)=some (True,.tuple [.int .i64 x,.bool true]):=fun f J U=>ah1 f (.loc 0) (.obj 304) l.length seen b l x J U rfl ab;have fs:b<l.length:=(fV.1 ab).1;have p8:=Nv aR bE fs ae;simp[zS,ag5];refine⟨by unfold lim;omega,?_⟩;refine bT.next (l.length-(seen.length+1)) (by omega) ⟨seen++[b],xs++[x],L8 aR ae,(by simp;intro c ay;rcases ay with ay|rfl;exact bE c ay;exact fs),by simp,by rw[List.filterMap_append,←hY];simp[ab],by simp[kl],rfl⟩ ⟨by simp[fresh,aJ,aF,ck,inObs,Pv.look,mK,th],ee (by simp[fresh,aJ,aF,ck,inObs,Pv.look,mK,th]),ef (by simp[fresh,aJ,aF,dV,inObs,Pv.look,mK,th]),by simp⟩
@[simp] theorem aqW(S:aH→Prop)(xs:List Int):aJ S (eC xs)=True:=eq_true (th S xs)
@[simp] theorem apx:cells .junk=[.junk]:=rfl
def P0:C:=(aa [eu 6 5,bd 7 false] (aa [c8 12 215 [],I 8 12] (.seq (aa [I 13 0,cg 14 13,bU 15 0] (fp 16 15 14 (.seq (.block 1 (aa [cp 17 5 13 15,aS 18 5 17,cO 10 iK,bz 5 10 18] (aa [I 19 8,aB 20 0 1 10,av 21 1 20,b8 22 216 19 21] (aa [I 23 8,gY 24 1 4 10,aS 25 4 24,b8 26 217 23 25] (.seq (.drawn false 69 [I 27 8,aB 28 0 1 10,av 29 1 28,cA 30 116 29,gY 31 1 4 10,aS 32 4 31,c8 33 218 [.t 27,.t 30,.t 32],cd 34 33]) (aU 34 (aa [eu 6 5,bd 7 false] .ret) .skip)))))) (.region [aV 35 .add 15 1,I 15 35])))) (.seq (aa [I 36 1,cg 37 36,bU 38 0] (.block 2 (.loop (aa [bn 39 .lss 38 37] (.seq (aU 39 .skip (.exit 2)) (.seq (.block 3 (aa [I 40 38,I 11 40] (aa [I 41 8,I 42 1,I 43 11,cp 44 4 42 43,aS 45 4 44,b8 46 217 41 45] (aa [I 47 8,I 48 2,I 49 11,cp 50 4 48 49,aS 51 4 50,b8 52 217 47 51] (.seq (.drawn false 69 [I 53 8,I 54 1,I 55 11,cp 56 4 54 55,aS 57 4 56,I 58 2,I 59 11,cp 60 4 58 59,aS 61 4 60,c8 62 218 [.t 53,.t 57,.t 61],cd 63 62]) (aU 63 (aa [eu 6 5,bd 7 false] .ret) .skip)))))) (.region [aV 64 .add 38 1,I 38 64]))))))) (aa [I 65 8,cA 66 219 65,cn 67 0 66,cn 68 1 66,I 6 67,I 7 68] .ret)))))
@[simp] def MM:List bB:=[.tmp 6,.tmp 7]
def PH:C:=(aa [eu 2 5,bd 3 false] (aa [c4 (.mkmap 12 (some 304)),I 4 12] (.seq (aa [I 13 0,fD 14 13,aB 15 0 1 14,av 16 1 15,c4 (.range 17 none (.t 16))] (.block 0 (.loop (aa [⟨none,.next 18 (.t 17)⟩,cn 19 0 18] (.seq (aU 19 .skip (.exit 0)) (.block 1 (aa [b9 20 (.ment (.t 17)),cn 21 0 20,I 5 21] (.region [I 22 4,I 23 5,c4 (.mput .i (.t 22) (.t 23) (.c (.bool true)))])))))))) (aa [I 24 4,cA 25 136 24,I 6 25] (aa [c4 (.bslm 26 none 5 113 []),I 7 26] (.seq (aa [I 27 6,cg 28 27,bU 29 0] (.block 2 (.loop (aa [bn 30 .lss 29 28] (.seq (aU 30 .skip (.exit 2)) (.seq (.block 3 (aa [cp 31 1 27 29,av 32 1 31,I 9 32] (aa [I 33 0,I 34 9,b8 35 216 33 34,I 10 35] (.seq (aa [I 36 0,I 37 10,b8 38 248 36 37,cd 39 38] (aU 39 (aa [eu 2 5,bd 3 false] .ret) .skip)) (.seq (aa [I 40 10,I 41 9,bn 42 .eql 40 41,I 43 42,b6 43 true 44 0,aq 43 true (fD 45 44),aq 43 true (aB 46 2 1 45),aq 43 true (av 47 1 46),b6 43 true 48 10,aq 43 true (b9 49 (.mget .i (.bool false) false (.t 47) (.t 48))),aq 43 true (cd 50 49),dD 51 43 50] (aU 51 (.exit 3) .skip)) (aa [I 52 7,I 53 9,ha 54 iK [(0,1,(.t 53))],eb 55 5 113 [.t 54],c4 (.appm 56 none 5 113 (.t 52) (.t 55)),I 7 56] (aa [I 57 0,fD 58 57,aB 59 4 1 58,av 60 1 59,I 61 10,b9 62 (.mget .i (.int .i64 0) false (.t 60) (.t 61)),aV 63 .gtr 62 5000,I 64 63,b6 64 false 65 7,aq 64 false (cg 66 65),aq 64 false (aV 67 .gtr 66 400),cU 68 64 67] (aU 68 (aa [eu 2 5,bd 3 false] .ret) .skip)))))))) (.region [aV 69 .add 29 1,I 29 69]))))))) (.seq (aa [I 70 7,cg 71 70,bU 72 0] (.block 4 (.loop (aa [bn 73 .lss 72 71] (.seq (aU 73 .skip (.exit 4)) (.seq (.block 5 (aa [I 74 72,I 11 74] (.region [I 75 7,I 76 11,I 77 0,I 78 0,I 79 7,I 80 11,cp 81 5 79 80,aB 82 0 1 81,av 83 1 82,b8 84 216 78 83,b8 85 249 77 84,cA 86 143 85,cp 87 5 75 76,gY 88 1 4 87,bz 4 88 86]))) (.region [aV 89 .add 72 1,I 72 89]))))))) (.seq (.pub 7 (.region [I 90 7,I 2 90,bd 3 true])) .ret))))))))
@[simp] def Hf:List bB:=[.tmp 2,.tmp 3]
def NW:List (Nat×dI):=[
 (3,⟨1,8,.int .i64,.int .i64 0⟩),
 (4,⟨1,1,.bool,.bool false⟩),
 (27,⟨1,24,.slice 30,.slice 4 .nil []⟩),
 (30,⟨4,56,.struct [(0,3),(1,3),(2,9),(3,27)],.agg [.int .i64 0,.int .i64 0,.str [],.slice 4 .nil []]⟩),
 (46,⟨1,24,.slice 113,.slice 5 .nil []⟩),
 (76,⟨1,24,.slice 3,.slice 1 .nil []⟩),
 (113,⟨5,64,.struct [(0,3),(1,30)],.agg [.int .i64 0,.int .i64 0,.int .i64 0,.str [],.slice 4 .nil []]⟩),
 (136,⟨1,8,.map 3 4,.junk⟩),
 (216,⟨1,8,.map 3 3,.junk⟩),
 (219,⟨6,48,.struct [(0,216),(1,217),(2,136),(3,216),(4,216),(5,217)],.agg [.junk,.junk,.junk,.junk,.junk,.junk]⟩)]
theorem Yd:fU al NW=true:=by kernel_rfl
theorem ajk:bY NW P0 MM 3 Tryz.f186=true:=by kernel_rfl
theorem acN:al.funcs[(186:Nat)]? =some Tryz.f186:=Tryz.func186
theorem ai2:bY NW PH Hf 1 Tryz.f219=true:=by kernel_rfl
theorem acv:al.funcs[(219:Nat)]? =some Tryz.f219:=Tryz.func219
def fc(o:Option (List ao)):ah:= .tuple [.slice 5 .no ((o.getD []).map ao.e),.bool o.isSome]
theorem ah3(f:aH→Option (List ah))(ft mk:aH)(n:Nat)(seen:List Nat)(b:Nat)(l:List (Int×Int))(x:Int×Int)(hi:f ft=some (ck n (seen++[b]) mk))(hm:f mk=some (nz l))(au:n=l.length)(ab:l[b]? =some x):pK f (.ptr ft 0)=some (True,.tuple [.int .i64 x.1,.int .i64 x.2]):=by rw[Vp f ft mk n seen b _ hi hm (by simpa using au)];simp[ab]
theorem abd{st:bs}{d:Nat}{K:bs→Prop}{ft mk:aH}{n:Nat}{seen:List Nat}{l:List (Int×Int)}(hi:Pv.look ft st.b=some (ck n seen mk))(hm:Pv.look mk st.b=some (nz l))(au:n=l.length)
  (J:(∀b,b<l.length→b∈seen)→K {st with t:=Pv.put d (.tuple [.bool false]) st.t}) (U:∀b x,l[b]? =some x→b∉seen→K {st with t:=Pv.put d (.tuple [.bool true,.int .i64 x.1,.int .i64 x.2]) st.t,b:=cB ft (ck n (seen++[b]) mk) st.b}):
  sN st d (.ptr ft 0) K:=by
 refine RR hi hm (by simpa using au) (fun h=>J fun b ae=>h b (by omega)) (fun b k v ae ag=>?_);simp only[List.getElem?_map,gT]at ae;obtain⟨x,ak,aC⟩:=ae;simp only[jF]at aC;obtain⟨rfl,rfl⟩:=aC;exact U b x ak ag
@[simp] theorem asZ(m:aH)(l:List (Int×Int)):wS m (nz l)=some (ck l.length [] m):=by simp[nz,r6]
def nQ(v:Int):ah:= .agg [.int .i64 v,.int .i64 0,.int .i64 0,.str [],.slice 4 .nil []]
@[simp] theorem ahv(S:aH→Prop)(l:List Int):aJ S (l.map nQ)=True:=by
 apply eq_true;induction l with
 |nil=>simp[aJ]
 |cons x r bZ=>simp only[gS,aJ];exact⟨by simp[nQ,aF,aJ],bZ⟩
@[simp] theorem ara(S:aH→Prop)(v:Int):aF S (nQ v)=True:=by simp[nQ,aF,aJ]
@[simp] theorem as9(v:Int):ei (nQ v)=true:=rfl
@[simp] theorem apf(v:Int):cells (nQ v)=[.int .i64 v,.int .i64 0,.int .i64 0,.str [],.slice 4 .nil []]:=rfl
theorem ama(v:Int)(f:Nat)(cs:List ah):mP (nQ v) f cs= .agg (n7 [.int .i64 v,.int .i64 0,.int .i64 0,.str [],.slice 4 .nil []] f cs):=rfl
theorem jm{S:aH→Prop}:∀{a b:List ah},aJ S (a++b)↔(aJ S a∧aJ S b)
 |[],b=>by simp[aJ]
 |x::a,b=>by simp[aJ,jm (a:=a),and_assoc]
@[simp] theorem aqV(S:aH→Prop)(k:Nat)(l:List Int):aJ S (nM k (l.map nQ))=True:=by rw[←List.map_drop];exact ahv S _
@[simp] theorem aru(S:aH→Prop)(o:Option (List ao)):aF S (fc o)=True:=by simp[fc]
theorem IH(l:List Int)(v:Int):l.map nQ++[.agg [.int .i64 v,.int .i64 0,.int .i64 0,.str [],.slice 4 .nil []]]=(l++[v]).map nQ:=by simp[nQ]
def ag6(c:bA)(k:Nat)(st:bs):Prop:=∃(seen:List Nat) (xs:List Int),seen.Nodup∧(∀b∈seen,b<c.up.length)∧k=c.up.length-seen.length∧xs=seen.filterMap (fun b=>(c.up[b]?).map (·.1))∧xs.length=seen.length∧st=⟨[(0,aA),(4,.gmap (.obj 304)),(17,.ptr (.loc 0) 0)],az c++[(.obj 304,ox xs),(.loc 0,ck c.up.length seen (.obj 702))],[],1,[.obj 304,.obj 702,.obj 703,.obj 704,.obj 705,.obj 706,.obj 707]⟩
theorem amm{c:bA}{seen:List Nat}(aR:seen.Nodup)(bE:∀b∈seen,b<c.up.length)(lD:∀b,b<c.up.length→b∈seen):(seen.filterMap fun b=>(c.up[b]?).map (·.1)).Perm (cv c.up):=by have:=Nu (l:=cv c.up) aR (by simpa[cv]using bE) (by simpa[cv]using lD);simpa[cv]using this
theorem amn{c:bA}(au:(cv c.up).Nodup){seen:List Nat}{b:Nat}(ae:b∉seen){x:Int×Int}(ab:c.up[b]? =some x):x.1∉seen.filterMap fun b=>(c.up[b]?).map (·.1):=by
 intro hm;rw[List.mem_filterMap]at hm;obtain⟨bP,J,U⟩:=hm;obtain⟨y,ar,a8⟩:=gT.1 U;have ak:(cv c.up)[b]? =some x.1:=by simp[cv,ab]
 have aC:(cv c.up)[bP]? =some x.1:=by simp[cv,ar,a8]
 have bE:=(fV.1 ak).1;have vZ:=(fV.1 aC).1;have f1:=(fV.1 ak).2;have f2:=(fV.1 aC).2;rcases Nat.lt_trichotomy b bP with h|h|h
 ·exact pU.1 au b bP bE vZ h (f1.trans f2.symm)
 ·subst h;exact ae J
 ·exact pU.1 au bP b vZ bE h (f2.trans f1.symm)
set_option maxRecDepth 4000 in
theorem aeO(n:Nat)(c:bA)(o:Option (List ao))(he:DV n (ra (cv c.up)) c=some o)(CA:(cv c.up).Nodup)(hlen:c.up.length≤1000000)(bq:mo c):bV al 219 [aA] (aO c) fun r ai=>r=fc o∧∃ct,ai=aO ct:=by
 have ag:=cj c;simp only[aO,az]at ag⊢;refine bV.mk mixed Yd acv ai2 (by simp) ag.obj fun aN cT=>?_;unfold PH;simp[aA];have Cw:∀S:aH→Prop,aJ S (jS []):=fun S=>mK S [];refine pA (ag6 c) c.up.length _ ⟨by simp[fresh,aJ,aF,ck,inObs,Pv.look,mK,aA,az,Cw],ee (by simp[fresh,aJ,aF,ck,inObs,Pv.look,mK,aA,az,Cw]),ef (by simp[fresh,aJ,aF,dV,inObs,Pv.look,mK,aA,az,Cw]),by simp⟩ ⟨[],[],by simp,by simp,by simp,by simp,by simp,rfl⟩ ?_;rintro k st ⟨seen,xs,aR,bE,ad,hY,kl,rfl⟩ kX cT;clear kX cT;have hle:=HP aR bE;simp[az,aA];refine abd (mk:= .obj 702) (seen:=seen) (l:=c.up) (by simp) (by simp) rfl (fun lD=>?_) (fun b x ab ae=>?_);rotate_left
 ·have zS:∀f:aH→Option (List ah),f (.loc 0)=some (ck c.up.length (seen++[b]) (.obj 702))→f (.obj 702)=some (nz c.up)→pK f (.ptr (.loc 0) 0)=some (True,.tuple [.int .i64 x.1,.int .i64 x.2]):=fun f J U=>ah3 f (.loc 0) (.obj 702) c.up.length seen b c.up x J U rfl ab;have fs:b<c.up.length:=(fV.1 ab).1;have p8:=Nv aR bE fs ae;have kB:=amn CA ae ab;rw[←hY]at kB;simp[zS,ID,kB];refine bT.next (c.up.length-(seen.length+1)) (by omega) ⟨seen++[b],xs++[x.1],L8 aR ae,(by simp;intro c ay;rcases ay with ay|rfl;exact bE c ay;exact fs),by simp,by rw[List.filterMap_append,←hY];simp[ab],by simp[kl],rfl⟩ ⟨by simp[fresh,aJ,aF,ck,inObs,Pv.look,mK,aA,az],ee (by simp[fresh,aJ,aF,ck,inObs,Pv.look,mK,aA,az]),ef (by simp[fresh,aJ,aF,dV,inObs,Pv.look,mK,aA,az]),by simp⟩
 ·simp;have v7:=amm aR bE lD;rw[←hY]at v7;have agP:xs.length≤1000000:=by omega
  refine c9.ob (aeS xs agP) (OJ _) (by simp only[tV];exact aT) (by simp only[tV];exact aT) (by simp[inObs,tV,Pv.look]) ?_;rintro r ai ⟨rfl,rfl⟩;refine⟨Same.refl _,?_⟩;have z7:q9 xs=ra (cv c.up):=XK v7;rw[z7];obtain⟨be,kE⟩:∃be,be=ra (cv c.up):=⟨_,rfl⟩;rw[←kE]at he⊢;simp[tV,cz];simp only[DV,kd]at he;obtain⟨res,zK,oJ⟩:=he;have oR:be.length≤1000000:=by rw[kE,(DY _).length_eq];simpa[cv]using hlen
  refine hH (α:=bA×List Int) (fun i a=>⟨[(0,aA),(27,.slice 1 .no (eC be)),(28,.int .i64 be.length),(7,.row 5 (.loc 1) a.2.length),(29,.int .i64 i)],az a.1,[(.loc 1,⟨a.2.length,113,5,some (a.2.map nQ)⟩)],2,[.obj 702,.obj 703,.obj 704,.obj 705,.obj 706,.obj 707]⟩) be.length (fun i a=>sl n (be.drop i) a.1 a.2=some res∧mo a.1∧a.2.length≤400) (c,[]) (by simp[aA,az];exact⟨by simp[fresh,aJ,aF,ck,inObs,Pv.look,mK,aA,az],ee (by simp[fresh,aJ,aF,ck,inObs,Pv.look,mK,aA,az]),ef (by simp[fresh,aJ,aF,dV,inObs,Pv.look,mK,aA,az]),by simp⟩) ⟨by simpa using zK,bq,by simp⟩ ?_ ?_
  ·rintro⟨bN,out⟩ ⟨J,U,ar⟩ ae;simp only at J U ar ae⊢;simp[sl]at J;subst J;simp only[gT]at oJ;obtain⟨⟨L,aab⟩,afw,rfl⟩:=oJ;simp[aA,az];refine hH (α:=bA×List ao) (fun j a=>⟨[(0,aA),(7,.row 5 (.loc 1) out.length),(71,.int .i64 out.length),(72,.int .i64 j)],az a.1,[(.loc 1,⟨out.length,113,5,some (a.2.map ao.e++(out.drop j).map nQ)⟩)],2,[.obj 702,.obj 703,.obj 704,.obj 705,.obj 706,.obj 707]⟩) out.length (fun j a=>a.2.length=j∧∃rest,yM n (out.drop j) a.1=some (rest,aab)∧a.2++rest=L) (bN,[]) (by simp[aA,az];exact⟨by simp[fresh,aJ,aF,ck,inObs,Pv.look,aA,az],ee (by simp[fresh,aJ,aF,ck,inObs,Pv.look,aA,az]),ef (by simp[fresh,aJ,aF,dV,inObs,Pv.look,aA,az]),by simp⟩) ⟨rfl,L,by simpa using afw,rfl⟩ ?_ ?_
   ·rintro⟨cq,done⟩ ⟨a8,rest,b4,dd⟩ ae;simp only at a8 b4 dd ae⊢;simp[yM]at b4;obtain⟨rfl,rfl⟩:=b4;simp at dd;subst dd;simp[aA,az,a8];refine cX.at (aO cq) (by simp) (cj _) (Same.keys (by simp[aO,az]) (by simp[aO,az])) (by simp only[aO,az];exact aT) (by simp only[aO,az];exact aT) ?_;simp[c6,Hf,aY,aZ,aW,aO,az,fc];exact⟨cq,by simp⟩
   ·rintro j ⟨cq,done⟩ af ⟨a8,rest,b4,dd⟩ ae;simp only at a8 b4 dd ae⊢;obtain⟨v,aK⟩:∃v,out[j]? =some v:=⟨_,cl af⟩;have aR:out.drop j=v::out.drop (j+1):=by rw[lv af];rw[cl af]at aK;cases aK;rfl
    rw[aR]at b4;simp only[yM,kd,gT,jF]at b4;obtain⟨⟨x,dj⟩,eo,⟨t,iH⟩,nV,⟨al8,apJ⟩,sR,rfl,rfl⟩:=b4;simp only at nV sR;have key:=aeT n x dj _ nV;rw[aR];have hj:∀R,(done.map ao.e++nQ v::R)[j]? =some (nQ v):=fun R=>by rw[List.getElem?_append_right (by simp;omega)];simp[a8]
    have wb:∀R x,(done.map ao.e++nQ v::R).set j x=done.map ao.e++x::R:=fun R x=>by rw[List.set_append_right _ _ (by simp;omega)];simp[a8]
    simp[aA,az];(with_reducible repeat' first|refine aj ?_|simp[hj,af]);(refine c9.ob (rC cq v x dj eo) (by first|exact cj _|exact cj ‹_› _) (by simp only[aO,az,aA,bX,b3];exact aT) (by simp only[aO,az,aA,bX,b3];exact aT) (by simp[inObs,Pv.look,aO,az,aA]) ?_;rintro r ai ⟨rfl,rfl⟩;refine⟨(Same.keys (by simp[aO,az,aA]) (by simp[aO,az,aA])),?_⟩;simp[cz,aO,az,aA]);(with_reducible repeat' first|refine aj ?_|simp);(refine c9.ob (key) (by first|exact cj _|exact cj ‹_› _) (by simp only[aO,az,aA,bX,b3];exact aT) (by simp only[aO,az,aA,bX,b3];exact aT) (by simp[inObs,Pv.look,aO,az,aA]) ?_;rintro r ai ⟨rfl,rfl⟩;refine⟨(Same.keys (by simp[aO,az,aA]) (by simp[aO,az,aA])),?_⟩;simp[cz,aO,az,aA]);(with_reducible repeat' first|refine aj ?_|refine aD (tL _) ?_|refine aE (tL _) ?_|simp[hj,wb,af,ama,-mP]);refine bT.rng (iH,done++[⟨v,t⟩]) af ⟨by simp[a8],al8,sR,by simpa using dd⟩ ?_;simp[aA,az];exact⟨by simp[fresh,aJ,aF,ck,inObs,Pv.look,aA,az,jm],ee (by simp[fresh,aJ,aF,ck,inObs,Pv.look,aA,az,jm]),ef (by simp[fresh,aJ,aF,dV,inObs,Pv.look,aA,az,jm]),by simp⟩
  ·rintro i ⟨bN,out⟩ hi ⟨J,U,ar⟩ ae;simp only at J U ar ae⊢;obtain⟨v,aK⟩:∃v,be[i]? =some v:=⟨_,cl hi⟩;have aR:be.drop i=v::be.drop (i+1):=by rw[lv hi];rw[cl hi]at aK;cases aK;rfl
   rw[aR]at J;simp only[sl,kd]at J;obtain⟨⟨x,cq⟩,a8,⟨f,dj⟩,b4,dd⟩:=J;simp only at b4 dd;obtain⟨z3,key⟩:=aeV n x cq _ b4 (U.rt a8);have afN:∀h,(eC be)[i]'h= .int .i64 v:=fun h=>by rw[cl hi]at aK;simp only[dM]at aK;simp[eC,aK]
   simp[aA,az];(with_reducible repeat' first|refine aj ?_|simp[afN,hi]);(refine c9.ob (rC bN v x cq a8) (by first|exact cj _|exact cj ‹_› _) (by simp only[aO,az,aA,bX,b3];exact aT) (by simp only[aO,az,aA,bX,b3];exact aT) (by simp[inObs,Pv.look,aO,az,aA]) ?_;rintro r ai ⟨rfl,rfl⟩;refine⟨(Same.keys (by simp[aO,az,aA]) (by simp[aO,az,aA])),?_⟩;simp[cz,aO,az,aA]);(with_reducible repeat' first|refine aj ?_|simp);(refine c9.ob (key) (by first|exact cj _|exact cj ‹_› _) (by simp only[aO,az,aA,bX,b3];exact aT) (by simp only[aO,az,aA,bX,b3];exact aT) (by simp[inObs,Pv.look,aO,az,aA]) ?_;rintro r ai ⟨rfl,rfl⟩;refine⟨(Same.keys (by simp[aO,az,aA]) (by simp[aO,az,aA])),?_⟩;simp[cz,aO,az,aA]);cases f with
   |false=>simp at dd;subst dd;simp at oJ;subst oJ;(with_reducible repeat' first|refine aj ?_|simp);refine cX.at (aO dj) (by simp) (cj _) (Same.keys (by simp[aO,az]) (by simp[aO,az])) (by simp only[aO,az];exact aT) (by simp only[aO,az];exact aT) ?_;simp[c6,Hf,aY,aZ,aW,aO,az,fc];exact⟨dj,by simp⟩
   |true=>
    simp only[Bool.true_eq_false,if_false]at dd;by_cases ay:x=v∧dj.shd x=false
    ·rw[if_pos ay]at dd;obtain⟨agQ,mc⟩:=ay;subst agQ;have s8:(tg x dj.shaped).getD false=false:=mc;(with_reducible repeat' first|refine aj ?_|simp[s8]);refine bT.rng (dj,out) hi ⟨dd,z3,ar⟩ ?_;exact⟨by simp[fresh,aJ,aF,ck,inObs,Pv.look,aA,az],ee (by simp[fresh,aJ,aF,ck,inObs,Pv.look,aA,az]),ef (by simp[fresh,aJ,aF,dV,inObs,Pv.look,aA,az]),by simp⟩
    ·rw[if_neg ay]at dd;have TO:(x==v)=false∨((x==v)=true∧(tg x dj.shaped).getD false=true):=by
      by_cases e:x=v
      ·right;refine⟨by simp[e],?_⟩;cases aC:dj.shd x with
       |false=>exact absurd ⟨e,aC⟩ ay
       |true=>exact aC
      ·left;simp[e]
     by_cases aw:5000<dj.sz x∨400<out.length+1
     ·rw[if_pos aw]at dd;cases dd;simp at oJ;subst oJ;have oL:(decide (5000<jf dj.size x))=true∨(decide (5000<jf dj.size x)=false∧400<out.length+1):=by
       by_cases e:5000<jf dj.size x
       ·left;simp[e]
       ·right;exact⟨by simp[e],aw.resolve_left e⟩
      have zX:True:=trivial;have jP:True:=trivial;rcases TO with bQ|⟨bQ,zX⟩;all_goals
       rcases oL with bh|⟨bh,jP⟩
       all_goals
        ((with_reducible repeat' first|refine aj ?_|simp[bQ,zX,bh,jP]|((first|apply bK|apply bM|apply bL)<;>intro h<;>try simp at h))<;>(try exact cc))
        refine cX.at (aO dj) (by simp) (cj _) (Same.keys (by simp[aO,az]) (by simp[aO,az])) (by simp only[aO,az];exact aT) (by simp only[aO,az];exact aT) ?_
        simp[c6,Hf,aY,aZ,aW,aO,az,fc]
        exact⟨dj,by simp⟩
     ·rw[if_neg aw]at dd;have bh:decide (5000<jf dj.size x)=false:=by simp;exact Int.not_lt.1 fun h=>aw (.inl h)
      have jP:¬400<out.length+1:=fun h=>aw (.inr h);have zX:True:=trivial;rcases TO with bQ|⟨bQ,zX⟩;all_goals
       ((with_reducible repeat' first|refine aj ?_|simp[bQ,zX,bh,jP]|((first|apply bK|apply bM|apply bL)<;>intro h<;>try simp at h))<;>(try exact cc))
       all_goals first|(refine⟨by unfold lim;omega,?_⟩)|skip
       ((with_reducible repeat' first|refine aj ?_|simp[bQ,zX,bh,jP]|((first|apply bK|apply bM|apply bL)<;>intro h<;>try simp at h))<;>(try exact cc))
       refine bT.rng (dj,out++[v]) hi ⟨dd,z3,by simp;omega⟩ ?_
       exact⟨by simp[fresh,aJ,aF,ck,inObs,Pv.look,aA,az,IH,jm],ee (by simp[fresh,aJ,aF,ck,inObs,Pv.look,aA,az,IH,jm]),ef (by simp[fresh,aJ,aF,dV,inObs,Pv.look,aA,az,IH,jm]),by simp⟩
theorem D1:∀{a b:T},a.tm=b.tm→a=b:=by
 intro a;induction a with
 |pair x y pI r3=>intro b h;cases b<;>simp[T.tm]at h;rw[pI h.1,r3 h.2]
 |_=>intro b h;cases b<;>simp[T.tm]at h⊢ <;>exact h
def Zy(l:List c3):Prop:= ∃s:List ao,l=s.map ao.b∧qm s∧iP s∧hE s
def Ix(l:List c3):Prop:= ∃s:List ao,l=s.map ao.b∧qm s∧fM s∧hE s
theorem Pb:∀{l:List c3},(∀b∈l,b.t.fits=true)→∃s:List ao,l=s.map ao.b∧zv s
 |[],_=>⟨[],rfl,fun b ae=>by simp at ae⟩
 |b::l,h=>by
  obtain⟨s,J,U⟩:=Pb (l:=l) fun c ay=>h c (by simp[ay]);obtain⟨x,ar,a8⟩:=bI.fits_ex (h b (by simp));refine⟨⟨b.v,x⟩::s,by rw[J];simp[ao.b,ar],fun c ay=>?_⟩;rcases gf.1 ay with rfl|ay
  ·exact a8
  ·exact U c ay
theorem Ih{l:List c3}:y7 l↔Zy l:=by
 constructor
 ·rintro⟨J,U⟩;obtain⟨s,rfl,afA⟩:=Pb (l:=l) fun b ae=>by obtain⟨i,hi,e⟩:=nN ae;exact(U i hi b (by rw[cl hi,e])).2.2
  have Tl:∀b∈s,b.t.ok=true∧b.t.size≤5000:=fun b ae=>by have:=afA b ae;simpa[T.fit]using this
  refine⟨s,rfl,fun b ae=>⟨?_,(Tl b ae).1⟩,?_,by simpa using J,fun b ae=>(Tl b ae).2⟩
  ·obtain⟨i,hi,e⟩:=nN ae;have:=(U i (by simpa using hi) b.b (by simp[cl hi,e])).1;exact this
  ·rw[iP,pU];have jQ:∀i (h:i+1<s.length),s[i].v<s[i+1].v:=fun i h=>by have:=(U (i+1) (by simpa using h) s[i+1].b (by simp[cl h])).2.1 s[i].b (by omega) (by simp[cl (show i<s.length by omega)]);exact this
   have:∀(d i:Nat) (h:i+d+1<s.length),s[i].v<s[i+d+1].v:=by
    intro d;induction d with
    |zero=>intro i h;exact jQ i h
    |succ d bZ=>intro i h;have bG:=bZ i (by omega);have a2:=jQ (i+d+1) (by omega);simp only[Nat.add_assoc]at bG a2⊢;omega
   intro i j hi af l7;have:=this (j-i-1) i (by omega);simpa[show i+(j-i-1)+1=j from by omega]using this
 ·rintro⟨s,rfl,ax,br,aI⟩;refine⟨by simpa using aI.1,fun i hi b ae=>?_⟩;simp only[List.getElem?_map,gT]at ae;obtain⟨c,ay,rfl⟩:=ae;have hm:=dZ ay;refine⟨(ax c hm).1,fun d bD aR=>?_,?_⟩
  ·simp only[List.getElem?_map,gT]at aR;obtain⟨e,he,rfl⟩:=aR;obtain⟨J,ak⟩:=fV.1 he;obtain⟨U,aC⟩:=fV.1 ay;have:=pU.1 br (i-1) i J U (by omega);rw[ak,aC]at this;exact this
  ·show c.t.tm.fits=true;rw[bI.fits_T];simp[T.fit,(ax c hm).2,aI.2 c hm]
def vE(s:List ao)(v:Int)(f:Bool):Bool:=if 0≤ni s v then false else f
def mq(s:List ao)(b:ao):Bool:=b.t.fold (vE s) true&& !(b.t.kind==1&&decide (b.v≤b.t.int))
theorem St{s:List ao}(br:iP s)(t:T):∀f:Bool,t.fold (vE s) f=true↔f=true∧∀w,t.occ w=true→ds s w=none:=by
 induction t with
 |var n=>
  intro f;simp only[T.fold,T.occ,dS,vE];have:=Sr br n;by_cases h:0≤ni s n
  ·rw[if_pos h];constructor
   ·intro h;cases h
   ·rintro⟨_,U⟩;have:=this.2 (U n rfl);omega
  ·rw[if_neg h];exact⟨fun aI=>⟨aI,fun w hw=>by subst hw;exact this.1 (by omega)⟩,fun h=>h.1⟩
 |pair a b dW dX=>
  intro f;simp only[T.fold,dW,dX,T.occ,mT];constructor
  ·rintro⟨⟨J,U⟩,ar⟩;exact⟨J,fun w hw=>hw.elim (U w) (ar w)⟩
  ·rintro⟨J,U⟩;exact⟨⟨J,fun w hw=>U w (.inl hw)⟩,fun w hw=>U w (.inr hw)⟩
 |_=>intro f;simp[T.fold,T.occ]
theorem IK{s:List ao}(br:iP s)(b:ao):mq s b=true↔(∀w,b.t.occ w=true→ds s w=none)∧∀w,b.t= .var w→w<b.v:=by
 unfold mq;rw[cE,St br];simp only[true_and];refine and_congr_right fun _=>?_;constructor
 ·intro h w hw;have ad:(b.t.kind==1)=true:=by rw[hw];rfl
  have hi:b.t.int=w:=by rw[hw];rfl
  rw[ad,hi]at h;simpa using h
 ·intro h;cases ad:(b.t.kind==1)with
  |false=>rfl
  |true=>
   obtain⟨w,hw⟩:∃w,b.t= .var w:=by
    cases e:b.t with
    |var w=>exact⟨w,rfl⟩
    |_=>rw[e]at ad;simp at ad
   have hi:b.t.int=w:=by rw[hw];rfl
   have:=h w hw;rw[hi];simpa using this
theorem XI{s:List ao}(br:iP s):fM s↔∀b∈s,mq s b=true:=by
 constructor
 ·intro h b ae;exact(IK br b).2 ⟨h.free b ae,h.ori b ae⟩
 ·intro h;exact⟨br,fun b ae=>((IK br b).1 (h b ae)).1,fun b ae=>((IK br b).1 (h b ae)).2⟩
def k0{α:Type}(p:α→Bool)(s:List α)(i:Nat)(_:Unit):Prop:= ∀k b,k<i→s[k]? =some b→p b=true
theorem k0.step{α:Type}{p:α→Bool}{s:List α}{i:Nat}(h:k0 p s i ()){b:α}(ae:s[i]? =some b)(bQ:p b=true):k0 p s (i+1) ():=fun k c ad ay=>by
 rcases(by omega:k<i∨k=i)with J|rfl
 ·exact h k c J ay
 ·rw[ae]at ay;cases ay;exact bQ
open Classical in
noncomputable def gL(l:List c3):Bool:=decide (Ix l)
theorem re{l:List c3}:gL l=true↔Ix l:=by unfold gL;simp
def iQ(f:Bool):cL:=⟨[(.obj 731,[.bool f])],[]⟩
theorem vr(f:Bool):ej (iQ f):=by unfold iQ;exact ej.of ⟨by intro m;simp[Pv.look],by intro m;simp[Pv.look]⟩ (by simp) (by simp)
theorem Zp(a b:Bool):Same (iQ a) (iQ b):=Same.keys (by simp[iQ]) (by simp[iQ])
theorem aeq(s:List ao)(aw:s.length≤1000000)(v:Int)(f:Bool):bV al 159 [.int .i64 v,.eptr (.slice 5 .no (s.map ao.e)),.ptr (.obj 731) 0] (iQ f) fun r ai=>r= .tuple []∧ai=iQ (vE s v f):=by
 have ag:=vr f;simp only[iQ]at ag⊢;by_cases h:0≤ni s v
 ·rw[vE,if_pos h];refine bV.mk mixed rf R0 VR (by simp) ag.obj fun aN cT=>?_;unfold IW;simp;(with_reducible repeat' first|refine aj ?_|refine aD (tN s v aw) ?_|refine aE (tN s v aw) ?_|simp[h]);(refine cX.at (iQ false) (by simp) (by first|exact vr _|exact vr ‹_› _) (Same.keys (by simp[iQ]) (by simp[iQ])) (by simp only[iQ,bX,b3];exact aT) (by simp only[iQ,bX,b3];exact aT) ?_;simp[c6,MH,aY,aZ,aW,inObs,Pv.look,iQ])
 ·rw[vE,if_neg h];refine bV.mk mixed rf R0 VR (by simp) ag.obj fun aN cT=>?_;unfold IW;simp;(with_reducible repeat' first|refine aj ?_|refine aD (tN s v aw) ?_|refine aE (tN s v aw) ?_|simp[h]);(refine cX.at (iQ f) (by simp) (by first|exact vr _|exact vr ‹_› _) (Same.keys (by simp[iQ]) (by simp[iQ])) (by simp only[iQ,bX,b3];exact aT) (by simp only[iQ,bX,b3];exact aT) ?_;simp[c6,MH,aY,aZ,aW,inObs,Pv.look,iQ])
theorem N0(l:List c3):bt al 86 [.slice 5 .no (l.map c3.e)] (.bool (gL l)):=by
 have aK:=anw l;by_cases h:y7 l;rotate_left
 ·have bD:gL l=false:=by unfold gL;simp only[hR];rintro⟨s,J,U,ar,a8⟩;exact h (Ih.2 ⟨s,J,U,ar.asc,a8⟩)
  rw[bD];refine bc rf RZ VQ fun aN=>?_;unfold IU;exact bO
 ·obtain⟨s,rfl,ax,br,aI⟩:=Ih.1 h;have aw:s.length≤1000000:=by have:=aI.1;omega
  have ak:(s.map ao.b).map c3.e=s.map ao.e:=by rw[List.map_map];exact List.map_congr_left fun b _=>ao.b_e b
  have bD:gL (s.map ao.b)=s.all (mq s):=by
   rw[qu,hs,re,←XI br];constructor
   ·rintro⟨ai,J,U,ar,a8⟩;have:ai=s:=by
     have afM:∀a b:List ao,a.map ao.b=b.map ao.b→a=b:=by
      intro a;induction a with
      |nil=>intro b ae;cases b<;>simp at ae⊢
      |cons x a bZ=>
       intro b ae;cases b with
       |nil=>simp at ae
       |cons y b=>simp only[gS,qv,ao.b,c3.mk.injEq]at ae;rw[bZ b ae.2];have:=D1 ae.1.2;obtain⟨⟨lE,_⟩,_⟩:=ae;cases x;cases y;simp_all
     exact(afM _ _ J).symm
    rw[←this];exact ar
   ·intro ar;exact⟨s,rfl,ax,ar,aI⟩
  rw[bD];rw[ak]at aK⊢;refine bc rf RZ VQ fun aN=>?_;unfold IU;simp;(with_reducible repeat' first|refine aj ?_|refine aD aK ?_|refine aE aK ?_|simp[h]);refine hH (α:=Unit) (fun i _=>⟨[(1,.eptr (.slice 5 .no (s.map ao.e))),(9,.slice 5 .no (s.map ao.e)),(10,.int .i64 s.length),(11,.int .i64 i)],[],[],1,[]⟩) s.length (k0 (mq s) s) () bW (fun k b ad=>by omega) (fun _ af _=>?_) (fun i _ hi af _=>?_)
  ·have:s.all (mq s)=true:=by rw[hs];intro b ae;obtain⟨k,ad,e⟩:=nN ae;exact af k b ad (by rw[cl ad,e])
   rw[this];exact bO
  ·obtain⟨b,me⟩:∃b,s[i]? =some b:=⟨_,cl hi⟩;have gj:∀h,(s[i]'h)=b:=fun h=>by rw[cl hi]at me;exact fq me
   have key:=SB iQ vr Zp 159 [.eptr (.slice 5 .no (s.map ao.e)),.ptr (.obj 731) 0] (fun a=>by simp[iQ,inObs,Pv.look]) (by simp) (vE s) (fun v a=>aeq s aw v a) b.t true;have dB:mq s b=false→s.all (mq s)=false:=fun h=>by rw[Bool.eq_false_iff];intro cx;rw[hs]at cx;rw[cx b (dZ me)]at h;cases h
   simp[hi,gj];(with_reducible repeat' first|refine aj ?_|simp[gj,hi]);(refine c9.ob (key) (by first|exact vr _|exact vr ‹_› _) (by simp only[iQ,bX,b3];exact aT) (by simp only[iQ,bX,b3];exact aT) (by simp[inObs,Pv.look,iQ]) ?_;rintro r ai ⟨rfl,rfl⟩;refine⟨(Same.keys (by simp[iQ]) (by simp[iQ])),?_⟩;simp[cz,iQ]);generalize afC:b.t.fold (vE s) true=sO;have xH:mq s b=(sO&& !(b.t.kind==1&&decide (b.v≤b.t.int))):=by unfold mq;rw[afC]
   cases sO with
   |false=>rw[dB (by rw[xH];rfl)];exact bO
   |true=>
    cases ad:(b.t.kind==1)with
    |false=>(with_reducible repeat' first|refine aj ?_|simp[ad]);refine bT.rng () hi (af.step me (by rw[xH,ad];rfl)) ?_;exact bW
    |true=>
     by_cases hle:b.v≤b.t.int
     ·rw[dB (by rw[xH,ad];simp[hle])];exact bO
     ·(with_reducible repeat' first|refine aj ?_|simp[ad,hle]);refine bT.rng () hi (af.step me (by rw[xH,ad];simp[hle])) ?_;exact bW
@[simp] theorem aq3(S:aH→Prop):aJ S (jS [])=True:=eq_true (mK S [])
set_option maxRecDepth 4000 in
theorem aeN(n:Nat)(s:List ao)(l r:List T)(aw:l.length=r.length)(kD:s.length≤1000000)(xU:l.length≤1000000)(o:Option (List ao))(he:Bb n (hG s++l.zip r)=some o)
  (hinv:∀c,pZ n (hG s++l.zip r) bA.new=some (true,c)→(cv c.up).Nodup∧c.up.length≤1000000∧mo c):bt al 186 [.slice 5 .no (s.map ao.e),.slice 4 .no (l.map T.e),.slice 4 .no (r.map T.e)] (fc o):=by
 obtain⟨E,dG⟩:∃E,E=hG s++l.zip r:=⟨_,rfl⟩;rw[←dG]at he hinv;simp only[Bb,kd]at he;obtain⟨fin,zK,oJ⟩:=he;have hlen:E.length=s.length+l.length:=by rw[dG];simp[hG,aw]
 have ae8:∀i b,s[i]? =some b→E.drop i=(.var b.v,b.t)::E.drop (i+1):=fun i b ae=>by
  have hi:=(fV.1 ae).1;have aX:E[i]? =some (.var b.v,b.t):=by rw[dG,List.getElem?_append_left (by simp[hG];exact hi)];simp[hG,ae]
  rw[lv (by omega)];rw[cl (by omega)]at aX;simp only[dM]at aX;rw[aX]
 have ae7:∀i a b,l[i]? =some a→r[i]? =some b→E.drop (s.length+i)=(a,b)::E.drop (s.length+(i+1)):=fun i a b br ae=>by
  have hi:=(fV.1 br).1;have aX:E[s.length+i]? =some (a,b):=by rw[dG,List.getElem?_append_right (by simp[hG])];simp[hG,List.getElem?_zip_eq_some,br,ae]
  rw[lv (by omega)];rw[cl (by omega)]at aX;simp only[dM]at aX;rw[aX];rfl
 refine bc Yd acN ajk fun aN=>?_;unfold P0;simp;refine c9.new aeB (ej.of u3 (by simp) (by simp)) (fun k cs h=>by simp[Pv.look]at h) (fun k cs h=>by simp[Pv.look]at h) (by simp) ?_;rintro r0 s0 ⟨rfl,rfl⟩;refine⟨fun m hm=>.inr (by simp),?_⟩;simp[aO,az,cz,aA];refine hH (α:=bA) (fun i c=>⟨[(1,.slice 4 .no (l.map T.e)),(2,.slice 4 .no (r.map T.e)),(8,aA),(13,.slice 5 .no (s.map ao.e)),(14,.int .i64 s.length),(15,.int .i64 i)],az c,[],0,[.obj 702,.obj 703,.obj 704,.obj 705,.obj 706,.obj 707]⟩) s.length (fun i c=>pZ n (E.drop i) c=some fin) bA.new (by simp[aA,az];exact⟨by simp[fresh,aJ,aF,ck,inObs,Pv.look,aA,az,bA.new],ee (by simp[fresh,aJ,aF,ck,inObs,Pv.look,aA,az,bA.new]),ef (by simp[fresh,aJ,aF,dV,inObs,Pv.look,aA,az,bA.new]),by simp⟩) (by simpa using zK) ?_ ?_
 ·rintro c J ae;simp[aA,az];refine hH (α:=bA) (fun i c=>⟨[(1,.slice 4 .no (l.map T.e)),(2,.slice 4 .no (r.map T.e)),(8,aA),(37,.int .i64 l.length),(38,.int .i64 i)],az c,[],0,[.obj 702,.obj 703,.obj 704,.obj 705,.obj 706,.obj 707]⟩) l.length (fun i c=>pZ n (E.drop (s.length+i)) c=some fin) c (by simp[aA,az];exact⟨by simp[fresh,aJ,aF,ck,inObs,Pv.look,aA,az],ee (by simp[fresh,aJ,aF,ck,inObs,Pv.look,aA,az]),ef (by simp[fresh,aJ,aF,dV,inObs,Pv.look,aA,az]),by simp⟩) J ?_ ?_
  ·rintro bN J ae;rw[List.drop_eq_nil_of_le (by omega)]at J;simp[pZ]at J;subst J;simp at oJ;obtain⟨a7,bF,b0⟩:=hinv bN zK;simp[aA,az];refine c9.ob (aeO n bN o oJ a7 bF b0) (cj _) (by simp only[aO,az];exact aT) (by simp only[aO,az];exact aT) (by simp[inObs,Pv.look,aO,az,aA]) ?_;rintro r0 s0 ⟨rfl,ct,rfl⟩;refine⟨Same.keys (by simp[aO,az]) (by simp[aO,az]),?_⟩;simp[cz,aO,az,fc];exact bO
  ·rintro i c hi J ae;simp only at J ae⊢;obtain⟨a,br⟩:∃a,l[i]? =some a:=⟨_,cl hi⟩;obtain⟨b,gb⟩:∃b,r[i]? =some b:=⟨_,cl (by omega)⟩;have np:∀h,(l[i]'h)=a:=fun h=>by rw[cl hi]at br;exact fq br
   have cG:∀h,(r[i]'h)=b:=fun h=>by rw[cl h]at gb;exact fq gb
   have rR:i<r.length:=by omega
   rw[ae7 i a b br gb]at J;simp only[pZ,kd]at J;obtain⟨bN,U,cq,ar,⟨f,dj⟩,a8,b4⟩:=J;simp only at a8 b4;have key:=SD n _ _ _ _ a8;simp[aA,az];(with_reducible repeat' first|refine aj ?_|simp[np,cG,hi,rR]);(refine c9.ob (J8 c a bN U) (by first|exact cj _|exact cj ‹_› _) (by simp only[aO,az,aA,bX,b3];exact aT) (by simp only[aO,az,aA,bX,b3];exact aT) (by simp[inObs,Pv.look,aO,az,aA]) ?_;rintro r ai ⟨rfl,rfl⟩;refine⟨(Same.keys (by simp[aO,az,aA]) (by simp[aO,az,aA])),?_⟩;simp[cz,aO,az,aA]);(with_reducible repeat' first|refine aj ?_|simp[np,cG,hi,rR]);(refine c9.ob (J8 bN b cq ar) (by first|exact cj _|exact cj ‹_› _) (by simp only[aO,az,aA,bX,b3];exact aT) (by simp only[aO,az,aA,bX,b3];exact aT) (by simp[inObs,Pv.look,aO,az,aA]) ?_;rintro r ai ⟨rfl,rfl⟩;refine⟨(Same.keys (by simp[aO,az,aA]) (by simp[aO,az,aA])),?_⟩;simp[cz,aO,az,aA]);(with_reducible repeat' first|refine aj ?_|simp[np,cG,hi,rR]);(refine ih.ob (key) (by first|exact cj _|exact cj ‹_› _) (by first|exact cj _|exact cj ‹_› _) (Same.keys (by simp[aO,az,aA]) (by simp[aO,az,aA])) (by simp only[aO,az,aA,bX,b3];exact aT) (by simp only[aO,az,aA,bX,b3];exact aT) (by simp[inObs,Pv.look,aO,az,aA]) ?_;simp[cz,aO,az,aA]);cases f with
   |false=>simp at b4;subst b4;simp at oJ;subst oJ;(with_reducible repeat' first|refine aj ?_|simp);simp[bu,MM,aY,aZ,aW];simp[fc]
   |true=>simp at b4;(with_reducible repeat' first|refine aj ?_|simp);refine bT.rng dj hi b4 ?_;simp[aA,az];exact⟨by simp[fresh,aJ,aF,ck,inObs,Pv.look,aA,az],ee (by simp[fresh,aJ,aF,ck,inObs,Pv.look,aA,az]),ef (by simp[fresh,aJ,aF,dV,inObs,Pv.look,aA,az]),by simp⟩
 ·rintro i c hi J ae;simp only at J ae⊢;obtain⟨b,aK,gj⟩:=dP hi;rw[ae8 i b aK]at J;simp only[pZ,kd]at J;obtain⟨bN,U,cq,ar,⟨f,dj⟩,a8,b4⟩:=J;simp only[Au,T.foldO,gT]at U;obtain⟨⟨x,Pf⟩,U,rfl⟩:=U;simp only at U ar a8 b4;have key:=SD n _ _ _ _ a8;simp[aA,az];(with_reducible repeat' first|refine aj ?_|simp[gj,hi]);(refine c9.ob (rC c b.v x Pf U) (by first|exact cj _|exact cj ‹_› _) (by simp only[aO,az,aA,bX,b3];exact aT) (by simp only[aO,az,aA,bX,b3];exact aT) (by simp[inObs,Pv.look,aO,az,aA]) ?_;rintro r ai ⟨rfl,rfl⟩;refine⟨(Same.keys (by simp[aO,az,aA]) (by simp[aO,az,aA])),?_⟩;simp[cz,aO,az,aA]);(with_reducible repeat' first|refine aj ?_|simp);(refine c9.ob (J8 Pf b.t cq ar) (by first|exact cj _|exact cj ‹_› _) (by simp only[aO,az,aA,bX,b3];exact aT) (by simp only[aO,az,aA,bX,b3];exact aT) (by simp[inObs,Pv.look,aO,az,aA]) ?_;rintro r ai ⟨rfl,rfl⟩;refine⟨(Same.keys (by simp[aO,az,aA]) (by simp[aO,az,aA])),?_⟩;simp[cz,aO,az,aA]);(with_reducible repeat' first|refine aj ?_|refine aD (jX _) ?_|refine aE (jX _) ?_|simp);(refine ih.ob (key) (by first|exact cj _|exact cj ‹_› _) (by first|exact cj _|exact cj ‹_› _) (Same.keys (by simp[aO,az,aA]) (by simp[aO,az,aA])) (by simp only[aO,az,aA,bX,b3];exact aT) (by simp only[aO,az,aA,bX,b3];exact aT) (by simp[inObs,Pv.look,aO,az,aA]) ?_;simp[cz,aO,az,aA]);cases f with
  |false=>simp at b4;subst b4;simp at oJ;subst oJ;(with_reducible repeat' first|refine aj ?_|simp);simp[bu,MM,aY,aZ,aW];simp[fc]
  |true=>simp at b4;(with_reducible repeat' first|refine aj ?_|simp);refine bT.rng dj hi b4 ?_;simp[aA,az];exact⟨by simp[fresh,aJ,aF,ck,inObs,Pv.look,aA,az],ee (by simp[fresh,aJ,aF,ck,inObs,Pv.look,aA,az]),ef (by simp[fresh,aJ,aF,dV,inObs,Pv.look,aA,az]),by simp⟩
theorem YO(s:List ao)(l r:List T)(aw:l.length=r.length)(ag:fM s)(aI:hE s)(ax:qm s)(xU:l.length≤1000000)(J:∀t∈l,t.ok=true)(U:∀t∈r,t.ok=true):
  bt al 186 [.slice 5 .no (s.map ao.e),.slice 4 .no (l.map T.e),.slice 4 .no (r.map T.e)] (fc (mgu s (l.zip r))):=by
 have dG:∀e∈hG s++l.zip r,e.1.ok=true∧e.2.ok=true:=fun e he=>by
  rcases ka.1 he with he|he
  ·obtain⟨b,ae,rfl⟩:=iC.1 he;have:=ax b ae;exact⟨by simpa[T.ok]using this.1,this.2⟩
  ·exact⟨J _ (List.of_mem_zip he).1,U _ (List.of_mem_zip he).2⟩
 have bD:L9 (hG s++l.zip r):=fun e he v aK=>by
  rcases aK with aK|aK
  ·exact(w7 (dG e he).1 aK).1
  ·exact(w7 (dG e he).2 aK).1
 obtain⟨n,o,a7,bF,b0⟩:=amI _ bD;rw[r9 (Zw.1 bF)];refine aeN n s l r aw (by have:=aI.1;omega) xU o a7 fun c ay=>?_;obtain⟨bG,a2,a3⟩:=b0 c ay;have:=UE bG fun v aK=>by
  obtain⟨e,he,aK⟩:=a2 v aK;rcases aK with aK|aK
  ·exact w7 (dG e he).1 aK
  ·exact w7 (dG e he).2 aK
 refine⟨bG,by simp[cv]at this;omega,fun x=>?_⟩;simp[bA.sz,a3,tg]
structure eE (s:List ao):Prop where
 ok:qm s
 sol:fM s
 fits:hE s
theorem eE.len{s:List ao}(h:eE s):s.length≤1000000:=by have:=h.fits.1;omega
theorem eE.fit{s:List ao}(h:eE s):zv s:=fun b ae=>by simp[T.fit,(h.ok b ae).2,h.fits.2 b ae]
theorem eE.mgu{s:List ao}(h:eE s){E:List (T×T)}(dG:∀e∈E,e.1.ok=true∧e.2.ok=true){ai:List ao}(hm:mgu s E=some ai):eE ai:=⟨aib h.sol h.fits h.ok dG hm,(Aw h.sol h.fits hm).1,(Aw h.sol h.fits hm).2⟩
theorem yk(s:List ao):(s.map ao.b).map c3.e=s.map ao.e:=by rw[List.map_map];exact List.map_congr_left fun b _=>ao.b_e b
theorem o5{s:List ao}(h:eE s):bt al 86 [.slice 5 .no (s.map ao.e)] (.bool true):=by have:=N0 (s.map ao.b);rw[yk,re.2 ⟨s,rfl,h.ok,h.sol,h.fits⟩]at this;exact this
def ahl(t:List ao)(i:Nat)(p:List T×List T):Prop:=p.1=(t.take i).map (fun b=>T.var b.v)∧p.2=(t.take i).map (·.t)
theorem anI(t:List ao)(aL:t.length≤1000000):bt al 205 [.slice 5 .no (t.map ao.e)] (.tuple [.slice 4 .no ((t.map fun b=>T.var b.v).map T.e),.slice 4 .no ((t.map (·.t)).map T.e)]):=by
 generalize bg:((t.map fun b=>T.var b.v).map T.e)=R1;generalize ky:((t.map fun x=>x.t).map T.e)=R2;have gy:∀S:aH→Prop,aJ S R1=True:=fun S=>by rw[←bg];exact UN S _
 have lf:∀S:aH→Prop,aJ S R2=True:=fun S=>by rw[←ky];exact UN S _
 refine bt.mk mixed rf acA ai7 (by simp) (by simp[aF,gy,lf]) fun aN=>?_;unfold PM;simp;refine hH (α:=List T×List T) (fun i p=>⟨[(10,.slice 5 .no (t.map ao.e)),(11,.int .i64 t.length),(4,.slice 4 (.own (.loc 0)) (p.1.map T.e)),(5,.slice 4 (.own (.loc 1)) (p.2.map T.e)),(12,.int .i64 i)],[],[(.loc 0,⟨p.1.length,30,4,none⟩),(.loc 1,⟨p.2.length,30,4,none⟩)],2,[]⟩) t.length (ahl t) ([],[]) bW ⟨by simp,by simp⟩ (fun p af _=>?_) (fun i p hi af _=>?_)
 ·obtain⟨A,B⟩:=p;obtain⟨bm,kW⟩:=af;simp only at bm kW⊢;rw[hD (eY _)]at bm kW;rw[←bg,←ky,←bm,←kW];simp;(with_reducible repeat' first|refine aj ?_|simp);simp[bu,WH,aY,aZ,aW]
 ·obtain⟨A,B⟩:=p;obtain⟨bm,kW⟩:=af;simp only at bm kW⊢;obtain⟨b,aK,gj⟩:=dP hi;have wc:t.take (i+1)=t.take i++[b]:=by rw[List.take_succ,aK];rfl
  have ae5:A.length≤1000000:=by rw[bm];simp;omega
  have ae6:B.length≤1000000:=by rw[kW];simp;omega
  simp[hi,gj];((with_reducible repeat' first|refine aj ?_|refine aD (jX _) ?_|refine aE (jX _) ?_|simp[gj,hi]|((first|apply bK|apply bM|apply bL)<;>intro h<;>try simp at h))<;>(try exact cc));all_goals first|(refine⟨by unfold lim;omega,?_⟩)|skip
  (with_reducible repeat' first|refine aj ?_|simp);all_goals first|(refine⟨by unfold lim;omega,?_⟩)|skip
  (with_reducible repeat' first|refine aj ?_|simp);refine bT.rng (A++[.var b.v],B++[b.t]) hi ⟨by rw[wc,bm];simp,by rw[wc,kW];simp⟩ ?_;simp;exact⟨by simp[fresh,aJ,aF,ck,inObs,Pv.look,jm],ee (by simp[fresh,aJ,aF,ck,inObs,Pv.look,jm]),ef (by simp[fresh,aJ,aF,dV,inObs,Pv.look,jm]),by simp⟩
theorem anm{s t:List ao}(ag:eE s)(aL:eE t):bt al 165 [.slice 5 .no (s.map ao.e),.slice 5 .no (t.map ao.e)] (fc (mgu s (hG t))):=by
 have bq:(t.map fun b=>T.var b.v).zip (t.map (·.t))=hG t:=by rw[hG,List.zip_map']
 have key:=YO s (t.map fun b=>T.var b.v) (t.map (·.t)) (by simp) ag.sol ag.fits ag.ok (by simpa using aL.len) (fun x ab=>by
  obtain⟨b,ae,rfl⟩:=iC.1 ab;have:=aL.ok b ae;simpa[T.ok]using this.1) (fun x ab=>by
  obtain⟨b,ae,rfl⟩:=iC.1 ab;exact(aL.ok b ae).2)
 rw[bq]at key;have heq:=anI t aL.len;generalize (t.map fun b=>T.var b.v)=A at key heq;generalize (t.map fun x=>x.t)=B at key heq;refine bc rf ab9 aiJ fun aN=>?_;unfold Pn;simp;(with_reducible repeat' first|refine aj ?_|refine aD (o5 ag) ?_|refine aE (o5 ag) ?_|refine aD (o5 aL) ?_|refine aE (o5 aL) ?_|refine aD heq ?_|refine aE heq ?_|refine aD key ?_|refine aE key ?_|simp);simp[bu,Ws,aY,aZ,aW];simp[fc]
theorem mQ{α:Type}{t:List α}{i:Nat}{b:α}(aK:t[i]? =some b):t.take (i+1)=t.take i++[b]:=by rw[List.take_succ,aK];rfl
def eM(s t:List ao):List ao:=t.filter fun b=>(ds s b.v).isNone
def qZ(s t:List ao)(i:Nat)(out:List ao):Prop:=out=eM s (t.take i)
theorem Yp{s t:List ao}(ag:eE s)(aL:eE t):bt al 166 [.slice 5 .no (s.map ao.e),.slice 5 .no (t.map ao.e)] (.slice 5 .no ((eM s t).map ao.e)):=by
 have agD:=aL.len;generalize bg:eM s t=R;refine bc rf acf aiO fun aN=>?_;unfold Ps;simp;(with_reducible repeat' first|refine aj ?_|refine aD (o5 ag) ?_|refine aE (o5 ag) ?_|refine aD (o5 aL) ?_|refine aE (o5 aL) ?_|simp);refine hH (α:=List ao) (fun i out=>⟨[(0,.slice 5 .no (s.map ao.e)),(17,.slice 5 .no (t.map ao.e)),(18,.int .i64 t.length),(5,.slice 5 (.own (.loc 0)) (out.map ao.e)),(19,.int .i64 i)],[],[(.loc 0,⟨out.length,113,5,none⟩)],1,[]⟩) t.length (qZ s t) [] bW (by simp[qZ,eM]) (fun out af _=>?_) (fun i out hi af _=>?_)
 ·rw[qZ,hD (eY _),bg]at af;rw[←af];exact bO
 ·obtain⟨b,aK,gj⟩:=dP hi;have zV:out.length≤1000000:=by
   have:out.length≤(t.take i).length:=by rw[af];exact List.length_filter_le _ _
   simp at this;omega
  have qP:=Sr ag.sol.asc b.v;simp[hi,gj];by_cases ae:ni s b.v<0
  ·(with_reducible repeat' first|refine aj ?_|refine aD (tN s b.v ag.len) ?_|refine aE (tN s b.v ag.len) ?_|refine aD (tL _) ?_|refine aE (tL _) ?_|simp[gj,hi,ae]);all_goals first|(refine⟨by unfold lim;omega,?_⟩)|skip
   (with_reducible repeat' first|refine aj ?_|simp);refine bT.rng (out++[b]) hi (by rw[qZ,mQ aK,eM,List.filter_append,af];simp[eM,qP.1 ae]) ?_;simp;exact⟨by simp[fresh,aJ,aF,ck,inObs,Pv.look,jm],ee (by simp[fresh,aJ,aF,ck,inObs,Pv.look,jm]),ef (by simp[fresh,aJ,aF,dV,inObs,Pv.look,jm]),by simp⟩
  ·(with_reducible repeat' first|refine aj ?_|refine aD (tN s b.v ag.len) ?_|refine aE (tN s b.v ag.len) ?_|simp[gj,hi,ae]);refine bT.rng out hi (by
    have:ds s b.v≠none:=fun e=>ae (qP.2 e);rw[qZ,mQ aK,eM,List.filter_append,af];cases e:ds s b.v with
    |none=>exact absurd e this
    |some x=>simp[eM,e]) ?_
   exact bW
def Gl(t:List ao)(i:Nat)(out:List ao):Prop:=out=t.take i
theorem D7(t:List ao)(aL:t.length≤1000000):bt al 168 [.slice 5 .no (t.map ao.e)] (.slice 5 .no (t.map ao.e)):=by
 refine bc rf acy ai5 fun aN=>?_;unfold PK;simp;refine hH (α:=List ao) (fun i out=>⟨[(7,.slice 5 .no (t.map ao.e)),(8,.int .i64 t.length),(3,.slice 5 (.own (.loc 0)) (out.map ao.e)),(9,.int .i64 i)],[],[(.loc 0,⟨out.length,113,5,none⟩)],1,[]⟩) t.length (Gl t) [] bW (by simp[Gl]) (fun out af _=>?_) (fun i out hi af _=>?_)
 ·rw[Gl,hD (eY _)]at af;subst af;exact bO
 ·obtain⟨b,aK,gj⟩:=dP hi;have zV:out.length≤1000000:=by rw[af];simp;omega
  simp[hi,gj];(with_reducible repeat' first|refine aj ?_|refine aD (tL _) ?_|refine aE (tL _) ?_|simp[gj,hi]);all_goals first|(refine⟨by unfold lim;omega,?_⟩)|skip
  (with_reducible repeat' first|refine aj ?_|simp);refine bT.rng (out++[b]) hi (by rw[Gl,mQ aK,af]) ?_;simp;exact⟨by simp[fresh,aJ,aF,ck,inObs,Pv.look,jm],ee (by simp[fresh,aJ,aF,ck,inObs,Pv.look,jm]),ef (by simp[fresh,aJ,aF,dV,inObs,Pv.look,jm]),by simp⟩
def r8(t:List ao)(b:ao):Bool:=decide (b7 t b.v=b.t.ap (b7 t))
def nA(s t:List ao):Bool:=s.all (r8 t)
theorem DR{t:List ao}(aL:eE t)(v:Int):(b7 t v).size≤5000:=by
 unfold b7;cases e:ds t v with
 |none=>simp[T.size]
 |some x=>exact aL.fits.2 _ (kg e)
theorem YK(s:List ao){t:List ao}(ag:s.length≤1000000)(aL:eE t):bt al 208 [.slice 5 .no (s.map ao.e),.slice 5 .no (t.map ao.e)] (.bool (nA s t)):=by
 refine bc rf acD aja fun aN=>?_;unfold PQ;simp;refine dR [1,11,12] (fun i (_:Unit)=>[(13,.int .i64 i)]) s.length (k0 (r8 t) s) () bW (fun k b ad=>by omega) (fun _ af _=>?_) (fun i _ hi af _=>?_)
 ·have:nA s t=true:=by rw[nA,hs];intro b ae;obtain⟨k,ad,e⟩:=nN ae;exact af k b ad (by rw[cl ad,e])
  rw[this];exact bO
 ·obtain⟨b,aK,gj⟩:=dP hi;have dB:r8 t b=false→nA s t=false:=fun h=>by rw[Bool.eq_false_iff];intro cx;rw[nA,hs]at cx;rw[cx b (dZ aK)]at h;cases h
  have aP:=Ig t (.var b.v) aL.len aL.sol.asc aL.fit;have a6:=Ig t b.t aL.len aL.sol.asc aL.fit;have x6:=DR aL b.v;have Ge:((T.var b.v).ap (b7 t)).size≤5000:=x6;rw[if_pos Ge,gU Ge]at aP;rw[show(T.var b.v).ap (b7 t)=b7 t b.v from rfl]at aP;simp[hi,gj];by_cases bq:(b.t.ap (b7 t)).size≤5000
  ·rw[if_pos bq,gU bq]at a6;by_cases he:b7 t b.v=b.t.ap (b7 t)
   ·rw[he]at aP;(with_reducible repeat' first|refine aj ?_|refine aD (jX _) ?_|refine aE (jX _) ?_|refine aD aP ?_|refine aE aP ?_|refine aD a6 ?_|refine aE a6 ?_|refine aD (tM _ _) ?_|refine aE (tM _ _) ?_|simp[gj,hi,he]);exact bT.rng () hi (af.step aK (by simp[r8,he])) bW
   ·rw[dB (by simp[r8,he])];(with_reducible repeat' first|refine aj ?_|refine aD (jX _) ?_|refine aE (jX _) ?_|refine aD aP ?_|refine aE aP ?_|refine aD a6 ?_|refine aE a6 ?_|refine aD (tM _ _) ?_|refine aE (tM _ _) ?_|simp[gj,hi,he]);simp[bu,MJ,aY,aZ,aW]
  ·rw[if_neg bq,h6 bq]at a6;rw[dB (by simp only[r8,hR];intro e;rw[←e]at bq;exact bq x6)];(with_reducible repeat' first|refine aj ?_|refine aD (jX _) ?_|refine aE (jX _) ?_|refine aD aP ?_|refine aE aP ?_|refine aD a6 ?_|refine aE a6 ?_|refine aD (tM _ _) ?_|refine aE (tM _ _) ?_|simp[gj,hi]);simp[bu,MJ,aY,aZ,aW]
theorem C4(c:ao→ao→Int):∀a b:List ao,a=[]∨b=[]→j3 c a b=eH a.length b.length
 |[],[],_=>by simp[j3,eH]
 |[],_::_,_=>by simp[j3,eH]<;>omega
 |_::_,[],_=>by simp[j3,eH]<;>omega
 |_::_,_::_,h=>by simp at h
theorem V9(x y:ao)(xs ys:List ao):eG (x::xs) (y::ys)=if eH x.v y.v=0 then(if eD x.t y.t=0 then eG xs ys else eD x.t y.t)else eH x.v y.v:=by
 by_cases a7:eH x.v y.v=0
 ·by_cases bF:eD x.t y.t=0<;>simp[eG,j3,yw,a7,bF]
 ·simp[eG,j3,yw,a7]
theorem Wa(a b k:Int):eH (a-k) (b-k)=eH a b:=by unfold eH;(repeat' split)<;>omega
def Lj(d e:List ao)(i:Nat):Prop:=i≤d.length∧i≤e.length∧eG (d.drop i) (e.drop i)=eG d e
theorem Ie(d e:List ao):bt al 207 [.slice 5 .no (d.map ao.e),.slice 5 .no (e.map ao.e)] (.int .i64 (eG d e)):=by
 generalize bg:eG d e=R;refine bc rf acG ajd fun aN=>?_;unfold PT;have aR:d.length≤68719476736:=by simp[ey,ea,en,lim]at aN;omega
 have he:e.length≤68719476736:=by simp[ey,ea,en,lim]at aN;omega
 simp;refine vH [0,1] (fun(i:Nat)=>[(5,.int .i64 i)]) (fun i=>d.length-i) (Lj d e) 0 bW ⟨by omega,by omega,by simp⟩ (fun i af _=>?_);obtain⟨J,U,ar⟩:=af;rw[bg]at ar;by_cases hi:i<d.length
 ·by_cases hL:i<e.length
  ·obtain⟨x,ab⟩:∃x,d[i]? =some x:=⟨_,cl hi⟩;obtain⟨y,aG⟩:∃y,e[i]? =some y:=⟨_,cl hL⟩;have cD:∀h,(d[i]'h)=x:=fun h=>by rw[cl hi]at ab;exact fq ab
   have eW:∀h,(e[i]'h)=y:=fun h=>by rw[cl hL]at aG;exact fq aG
   have zI:d.drop i=x::d.drop (i+1):=by rw[lv hi,cD]
   have zJ:e.drop i=y::e.drop (i+1):=by rw[lv hL,eW]
   rw[zI,zJ]at ar;rw[V9]at ar;simp[hi,hL,cD,eW];by_cases a7:eH x.v y.v=0
   ·rw[if_pos a7]at ar;by_cases bF:eD x.t y.t=0
    ·rw[if_pos bF]at ar;(with_reducible repeat' first|refine aj ?_|refine aD (oe _ _) ?_|refine aE (oe _ _) ?_|refine aD (Bm _ _) ?_|refine aE (Bm _ _) ?_|simp[cD,eW,hi,hL,a7,bF]);refine bT.whl (i+1) (by omega) ⟨by omega,by omega,by rw[bg];exact ar⟩ ?_;exact bW
    ·rw[if_neg bF]at ar;((with_reducible repeat' first|refine aj ?_|refine aD (oe _ _) ?_|refine aE (oe _ _) ?_|refine aD (Bm _ _) ?_|refine aE (Bm _ _) ?_|simp[cD,eW,hi,hL,a7,bF]|((first|apply bK|apply bM|apply bL)<;>intro h<;>try simp at h))<;>(try exact cc));simp[bu,DA,aY,aZ,aW];exact ar
   ·rw[if_neg a7]at ar;((with_reducible repeat' first|refine aj ?_|refine aD (oe _ _) ?_|refine aE (oe _ _) ?_|simp[cD,eW,hi,hL,a7]|((first|apply bK|apply bM|apply bL)<;>intro h<;>try simp at h))<;>(try exact cc));simp[bu,DA,aY,aZ,aW];exact ar
  ·have:eH d.length e.length=R:=by rw[←ar,eG,C4 _ _ _ (.inr (List.drop_eq_nil_of_le (by omega)))];rw[←Wa d.length e.length i];simp only[sC];congr 1<;>omega
   simp[hi,hL];(with_reducible repeat' first|refine aj ?_|refine aD (oe _ _) ?_|refine aE (oe _ _) ?_|simp[hi,hL]);simp[bu,DA,aY,aZ,aW];exact this
 ·have:eH d.length e.length=R:=by rw[←ar,eG,C4 _ _ _ (.inl (List.drop_eq_nil_of_le (by omega)))];rw[←Wa d.length e.length i];simp only[sC];congr 1<;>omega
  simp[hi];(with_reducible repeat' first|refine aj ?_|refine aD (oe _ _) ?_|refine aE (oe _ _) ?_|simp[hi]);simp[bu,DA,aY,aZ,aW];exact this
theorem N2(a b:List ao)(br:a.length≤1000000):bt al 169 [.slice 5 .no (a.map ao.e),.slice 5 .no (b.map ao.e)] (.bool (decide (a=b))):=by
 by_cases aw:a.length=b.length;rotate_left
 ·have bD:decide (a=b)=false:=by simp only[hR];rintro rfl;exact aw rfl
  have sZ:((a.length:Int) !=(b.length:Int))=true:=by simp;omega
  have oL:¬(a.length:Int)=b.length:=by omega
  rw[bD];refine bc rf R7 VW fun aN=>?_;unfold I1;exact bO
 ·generalize bg:decide (a=b)=R;refine bc rf R7 VW fun aN=>?_;unfold I1;simp;(with_reducible repeat' first|refine aj ?_|simp[aw]);refine dR [0,1,12] (fun i (_:Unit)=>[(13,.int .i64 i)]) b.length (fun i (_:Unit)=> ∀k,k<i→a[k]? =b[k]?) () bW (fun k ad=>by omega) (fun _ af _=>?_) (fun i _ hi af _=>?_)
  ·have:R=true:=by
    rw[←bg,fK];apply List.ext_getElem?;intro k;by_cases ad:k<b.length
    ·exact af k ad
    ·rw[qw (by omega),qw (by omega)]
   rw[this];exact bO
  ·obtain⟨x,ab⟩:∃x,a[i]? =some x:=⟨_,cl (by omega)⟩;obtain⟨y,aG⟩:∃y,b[i]? =some y:=⟨_,cl hi⟩;have gq:i<a.length:=by omega
   have cD:∀h,(a[i]'h)=x:=fun h=>by rw[cl gq]at ab;exact fq ab
   have eW:∀h,(b[i]'h)=y:=fun h=>by rw[cl hi]at aG;exact fq aG
   have dB:x≠y→R=false:=fun h=>by rw[←bg,hR];rintro rfl;rw[ab]at aG;cases aG;exact h rfl
   simp[hi,gq,cD,eW];by_cases a7:x.v=y.v
   ·have tA:(x.v !=y.v)=false:=by simp[a7]
    by_cases bF:x.t=y.t
    ·(with_reducible repeat' first|refine aj ?_|refine aD (tM _ _) ?_|refine aE (tM _ _) ?_|simp[cD,eW,hi,gq,a7,tA,bF]);refine bT.rng () hi (fun k ad=>?_) ?_
     ·rcases(by omega:k<i∨k=i)with h|rfl
      ·exact af k h
      ·rw[ab,aG];cases x;cases y;simp_all
     ·exact bW
    ·rw[dB (fun e=>bF (by rw[e]))];(with_reducible repeat' first|refine aj ?_|refine aD (tM _ _) ?_|refine aE (tM _ _) ?_|simp[cD,eW,hi,gq,a7,tA,bF]);simp[bu,WE,aY,aZ,aW]
   ·have tA:(x.v !=y.v)=true:=by simp[a7]
    rw[dB (fun e=>a7 (by rw[e]))];exact bO
def jb(l:List (List ao))(e:List ao):Bool:=l.all fun d=>decide (d=e)|| !nA d e
theorem ahr{l a1:List (List ao)}(h:∀x,x∈l↔x∈a1)(e:List ao):jb l e=jb a1 e:=by rw[qu,jb,jb,hs,hs];exact⟨fun J x ab=>J x ((h x).2 ab),fun J x ab=>J x ((h x).1 ab)⟩
def k1(l:List (List ao)):List (List ao):=(asc eG l).filter (jb l)
theorem Ax{l:List (List ao)}{x:List ao}:x∈k1 l↔x∈l∧jb l x=true:=by rw[k1,mV,Vn]
theorem Vw(l:List (List ao)):hS eG (k1 l):=(IG lS l).filter _
theorem Vx{l a1:List (List ao)}(br:hS eG a1)(hm:∀x,x∈a1↔x∈l∧jb l x=true):k1 l=a1:=(Vw l).ext lS br fun x=>by rw[hm,Ax]
structure bS where
 n:Int
 b:List ao
 d:List (List ao)
 k:List bJ
 m:List bj
 deriving DecidableEq,Inhabited
noncomputable def gN(b:List ao)(k:List bJ)(m:List bj):List (List ao)→Option (List (List ao))
 |[]=>some []
 |d::r=>match mgu b (hG d)with
  |none=>gN b k m r
  |some x=>if gk x k []=none∨gl x m []=none then gN b k m r else if eM b x=[]then none else(gN b k m r).map (eM b x:: ·)
def kK(k:List bJ)(x:bj):Bool:=ll k x.v !=some 3
noncomputable def gJ(s:bS):Option bS:=match gk s.b s.k []with
 |none=>none
 |some k=>match gl s.b s.m []with
  |none=>none
  |some m=>match gN s.b k (m.filter (kK k)) s.d with
   |none=>none
   |some L=>if(k1 L).length≤30 then some ⟨s.n,s.b,k1 L,k,m.filter (kK k)⟩else none
def xm(t:T)(n:Int):Prop:= ∀v,t.occ v=true→v<n
def pk(l:List ao)(n:Int):Prop:= ∀b∈l,b.v<n∧xm b.t n
structure ix (s:bS):Prop where
 n:0≤s.n∧s.n≤100000
 b:eE s.b
 d:∀x∈s.d,eE x
 k:jl s.k
 m:gA s.m
 bb:pk s.b s.n
 db:∀x∈s.d,pk x s.n
 kb:∀x∈s.k,x.v<s.n
 mb:∀x∈s.m,x.v<s.n
def jB(s:bS):Prop:=ix s∧gJ s=some s
theorem A9{s:List ao}(ag:eE s){v:Int}(aK:0≤v∧v≤100000):(b7 s v).ok=true:=by have:=DQ ag.ok (t:= .var v) (by simpa[T.ok]using aK);exact this
theorem Hu{s:List ao}(ag:eE s):∀{l acc a:List bJ},(∀x∈l,(0≤x.v∧x.v≤100000)∧(x.k=2∨x.k=3))→jl acc→gk s l acc=some a→jl a
 |[],acc,a,_,h,he=>by simp only[gk,dM]at he;rw[←he];exact h
 |x::r,acc,a,aw,h,he=>by
  simp only[gk]at he;split at he
  ·rename_i bG ak;have ab:=aw x (by simp);exact Hu ag (fun y aG=>aw y (by simp[aG])) (Ex h (A9 ag ab.1) ab.2 ak) he
  ·cases he
theorem Hv{s:List ao}(ag:eE s):∀{l acc a:List bj},(∀x∈l,(0≤x.v∧x.v≤100000)∧iv x.s=true)→gA acc→gl s l acc=some a→gA a
 |[],acc,a,_,h,he=>by simp only[gl,dM]at he;rw[←he];exact h
 |x::r,acc,a,aw,h,he=>by
  simp only[gl]at he;split at he
  ·rename_i bG ak;have ab:=aw x (by simp);exact Hv ag (fun y aG=>aw y (by simp[aG])) (Ey h (A9 ag ab.1) ab.2 ak) he
  ·cases he
def nI(G:List (List dm))(l:List bj):Prop:= ∀x∈l,x.s∈G
theorem Ez{G:List (List dm)}{l a1:List bj}{t:T}{s:List dm}(h:nI G l)(ag:s∈G)(he:jK l t s=some a1):nI G a1:=fun x ab=>by
 rcases(Av he x).1 ab with J|⟨J,_⟩
 ·exact h x J
 ·rw[J];exact ag
theorem Hw{G:List (List dm)}{s:List ao}:∀{l acc a:List bj},nI G l→nI G acc→gl s l acc=some a→nI G a
 |[],acc,a,_,h,he=>by simp only[gl,dM]at he;rw[←he];exact h
 |x::r,acc,a,aw,h,he=>by
  simp only[gl]at he;split at he
  ·rename_i bG ak;exact Hw (fun y aG=>aw y (by simp[aG])) (Ez h (aw x (by simp)) ak) he
  ·cases he
theorem akI{α:Type}[DecidableEq α]:∀{G:List α} {l:List (Nat×α)},l.Nodup→(∀x∈l,x.1<100001∧x.2∈G)→l.length≤100001*G.length:=by
 intro G l au h;have:=Oy au (l₂:=(List.range 100001).flatMap fun i=>G.map fun g=>(i,g)) (fun x ab=>by obtain⟨J,U⟩:=h x ab;rw[List.mem_flatMap];exact⟨x.1,List.mem_range.2 J,iC.2 ⟨x.2,U,rfl⟩⟩)
 have e:((List.range 100001).flatMap fun i=>G.map fun g=>(i,g)).length=100001*G.length:=by
  generalize 100001=n;induction n with
  |zero=>simp
  |succ n bZ=>rw[List.range_succ,List.flatMap_append,pS,bZ];simp[Nat.succ_mul]
 omega
theorem C9{G:List (List dm)}{l:List bj}(h:gA l)(aX:nI G l):l.length≤100001*G.length:=by
 have J:(l.map fun x=>(x.v.toNat,x.s)).Nodup:=by rw[List.nodup_iff_pairwise_ne,List.pairwise_map];refine aoS (fun{a b} br ae cH e=>cH ?_) (h.asc.nodup lT);have:=(h.at' a br).1;have:=(h.at' b ae).1;simp only[jF]at e;cases a;cases b;simp only[bj.mk.injEq];simp only at*;exact⟨by omega,e.2⟩
 have:=akI (G:=G) J fun x ab=>by obtain⟨y,aG,rfl⟩:=iC.1 ab;have:=(h.at' y aG).1;exact⟨by simp;omega,aX y aG⟩
 simpa using this
def fX(m:List bj):Prop:= ∃G:List (List dm),G.length≤687000∧nI G m
theorem fX.len{m:List bj}(h:fX m)(hm:gA m):m.length≤68719470000:=by obtain⟨G,J,U⟩:=h;have:=C9 hm U;omega
theorem amj{s:List ao}(h:eE s)(p:ao→Bool):eE (s.filter p):=by
 have nv:∀b∈s.filter p,b∈s:=fun b ae=>(mV.1 ae).1;have au:∀w,ds s w=none→ds (s.filter p) w=none:=fun w hw=>by rw[vv]at hw⊢;exact fun b ae=>hw b (nv b ae)
 exact⟨fun b ae=>h.ok b (nv b ae),⟨Y9 p h.sol.asc,fun b ae w hw=>au w (h.sol.free b (nv b ae) w hw),fun b ae=>h.sol.ori b (nv b ae)⟩,
  kc (List.length_filter_le _ _) h.fits.1,fun b ae=>h.fits.2 b (nv b ae)⟩
theorem Dg{b x:List ao}(h:eE x):eE (eM b x):=amj h _
theorem aiA{b x:List ao}(ae:fM b)(ab:fM x)(aI:hE x)(h:∀aQ,gW x aQ→gW b aQ):iT b (hG (eM b x)) (some x):=by
 refine⟨⟨ab,aI⟩,fun aQ=>⟨fun hA=>⟨h aQ hA,fun e he=>?_⟩,fun⟨J,U⟩ c ay=>?_⟩⟩
 ·obtain⟨c,ay,rfl⟩:=iC.1 he;exact hA c (mV.1 ay).1
 ·have kB:∀c∈x,ds b c.v=none→aQ c.v=c.t.ap aQ:=fun c ay au=>by have:=U (.var c.v,c.t) (iC.2 ⟨c,mV.2 ⟨ay,by simp[au]⟩,rfl⟩);exact this
  have xN:∀w,ds b w=none→(b7 x w).ap aQ=aQ w:=fun w hw=>by
   unfold b7;cases e:ds x w with
   |none=>rfl
   |some t=>have hm:=kg e;exact(kB _ hm hw).symm
  cases e:ds b c.v with
  |none=>exact kB c ay e
  |some t=>
   have ak:aQ c.v=t.ap aQ:=J _ (kg e);have aC:=h (b7 x) (yN ab) _ (kg e);simp only at aC;have bk:b7 x c.v=c.t:=by unfold b7;rw[ud ab.asc ay];rfl
   rw[bk]at aC;rw[ak,aC,BC];exact ub fun w hw=>(xN w (ae.free _ (kg e) w hw)).symm
theorem aic{s:List ao}(ag:fM s)(aI:hE s){E:List (T×T)}{x:List ao}(h:mgu s E=some x):∀aQ,gW x aQ↔gW s aQ∧jJ E aQ:=by have:=GQ ag aI E;rw[h]at this;exact this.2
theorem Vu{s:List ao}(ag:fM s)(aI:hE s){E:List (T×T)}{x:List ao}(h:mgu s E=some x):mgu s (hG (eM s x))=some x:=r9 (aiA ag (Aw ag aI h).1 (Aw ag aI h).2 fun aQ hA=>((aic ag aI h aQ).1 hA).1)
theorem Vv(p:Int→Prop){E:List (T×T)}:∀{s ai:List ao},fM s→hE s→(∀b∈s,p b.v∧∀w,b.t.occ w=true→p w)→(∀e∈E,(∀w,e.1.occ w=true→p w)∧∀w,e.2.occ w=true→p w)→mgu s E=some ai→∀b∈ai,p b.v∧∀w,b.t.occ w=true→p w:=by
 induction E with
 |nil=>intro s ai ag aI J _ h;rw[GP ag aI]at h;cases h;exact J
 |cons e E bZ=>
  intro s ai ag aI J U h;rw[LY ag aI]at h;split at h
  ·rename_i s1 ak;obtain⟨V,kj⟩:∃V,V=s.flatMap (fun b=>b.v::nL b.t)++nL e.1++nL e.2:=⟨_,rfl⟩;have S3:∀w∈V,p w:=by
    intro w hw;rw[kj]at hw;simp only[ka,List.mem_flatMap,gf]at hw;rcases hw with(⟨b,ae,rfl|hw⟩|hw)|hw
    ·exact(J b ae).1
    ·exact(J b ae).2 w (Eb.1 hw)
    ·exact(U e (by simp)).1 w (Eb.1 hw)
    ·exact(U e (by simp)).2 w (Eb.1 hw)
   obtain⟨n,o,iB,jD,qp⟩:=Yf V _ _ s e.1 e.2 ag aI (fun c ay=>⟨by rw[kj];simp only[ka,List.mem_flatMap];exact .inl (.inl ⟨c,ay,by simp⟩),fun w hw=>by rw[kj];simp only[ka,List.mem_flatMap];exact .inl (.inl ⟨c,ay,by simp[yl hw]⟩)⟩)
    (fun w hw=>by rw[kj];simp only[ka];exact .inl (.inr (yl hw))) (fun w hw=>by rw[kj];simp only[ka];exact .inr (yl hw)) rfl rfl
   have yU:=r9 jD;rw[ak]at yU;subst yU;obtain⟨Ye,_⟩:=qp s1 rfl;have pH:=Aw ag aI ak;exact bZ pH.1 pH.2 (fun b ae=>⟨S3 _ (Ye b ae).1,fun w hw=>S3 w ((Ye b ae).2 w hw)⟩) (fun fT he=>U fT (by simp[he])) h
  ·cases h
theorem amp{s:List ao}(ag:fM s){v n:Int}(h:b7 s v= .var n):ds s n=none:=by have:=Nx ag (t:= .var v) (w:=n) (by show(b7 s v).occ n=true;rw[h];simp[T.occ]);exact this
theorem IB{l a1:List bJ}{t:T}{k:Int}(h:iV l t k=some a1):∀x∈a1,x∈l∨t= .var x.v:=by
 unfold iV at h;split at h
 ·rename_i n;split at h
  ·split at h
   ·cases h;exact fun x ab=>.inl ab
   ·cases h
  ·cases h;intro x ab;rcases GN.1 ab with rfl|ab
   ·exact .inr rfl
   ·exact .inl ab
 ·split at h
  ·cases h;exact fun x ab=>.inl ab
  ·cases h
theorem W9{s:List ao}(ag:fM s):∀{l acc a:List bJ},(∀x∈acc,ds s x.v=none)→gk s l acc=some a→∀x∈a,ds s x.v=none
 |[],acc,a,h,he=>by simp only[gk,dM]at he;rw[←he];exact h
 |y::r,acc,a,h,he=>by
  simp only[gk]at he;split at he
  ·rename_i bG ak;refine W9 ag (fun x ab=>?_) he;rcases IB ak x ab with J|J
   ·exact h x J
   ·exact amp ag J
  ·cases he
theorem Uj{x:bJ}:∀{l:List bJ},(∀y∈l,y.v<x.v)→lP x l=l++[x]
 |[],_=>rfl
 |y::l,h=>by simp only[lP,if_pos (h y (by simp)),Uj (l:=l) fun z bq=>h z (by simp[bq]),bX]
theorem Xa{s:List ao}:∀{l acc:List bJ},(acc++l).Pairwise (fun x y=>x.v<y.v)→(∀x∈l,ds s x.v=none)→gk s l acc=some (acc++l)
 |[],acc,_,_=>by simp[gk]
 |x::r,acc,br,aI=>by
  have J:∀y∈acc,y.v<x.v:=fun y aG=>(List.pairwise_append.1 br).2.2 y aG x (by simp);have U:ll acc x.v=none:=yd.2 fun y aG=>by have:=J y aG;omega
  have ar:iV acc (b7 s x.v) x.k=some (acc++[x]):=by rw[A8 (aI x (by simp))];simp only[iV,U];rw[Uj J]
  simp only[gk,ar];rw[Xa (by simpa using br) fun y aG=>aI y (by simp[aG])];simp
theorem Xc{s:List ao}(ag:fM s):∀{l acc a:List bj},(∀x∈acc,ds s x.v=none)→gl s l acc=some a→∀x∈a,ds s x.v=none
 |[],acc,a,h,he=>by simp only[gl,dM]at he;rw[←he];exact h
 |y::r,acc,a,h,he=>by
  simp only[gl]at he;split at he
  ·rename_i bG ak;refine Xc ag (fun x ab=>?_) he;rcases(Av ak x).1 ab with J|⟨_,J⟩
   ·exact h x J
   ·exact Nx ag (t:= .var y.v) J
  ·cases he
theorem Xd{s:List ao}:∀{l acc:List bj},hS fl (acc++l)→(∀x∈l,ds s x.v=none)→gl s l acc=some (acc++l)
 |[],acc,_,_=>by simp[gl]
 |x::r,acc,br,aI=>by
  have ar:jK acc (b7 s x.v) x.s=some (acc++[x]):=by
   rw[A8 (aI x (by simp))];refine IC rfl (aua ?_ br) fun z=>?_
   ·simp
   ·simp only[ka,List.mem_singleton,T.occ,dS];refine or_congr_right ⟨fun h=>by rw[h];exact⟨rfl,rfl⟩,fun⟨J,U⟩=>?_⟩;cases z;cases x;simp_all
  simp only[gl,ar];rw[Xd (by simpa using br) fun y aG=>aI y (by simp[aG])];simp
def DZ(b:List ao)(k:List bJ)(m:List bj)(d:List ao):Prop:= ∃x,mgu b (hG d)=some x∧¬(gk x k []=none∨gl x m []=none)∧eM b x=d∧d≠[]
theorem GD{b:List ao}(ae:eE b){k:List bJ}{m:List bj}:∀{l L:List (List ao)},gN b k m l=some L→∀d∈L,DZ b k m d
 |[],L,h=>by simp only[gN,dM]at h;rw[←h];simp
 |d0::r,L,h=>by
  simp only[gN]at h;split at h
  ·exact GD ae h
  ·rename_i x ab;split at h
   ·exact GD ae h
   ·rename_i ad;split at h
    ·cases h
    ·rename_i au;rw[gT]at h;obtain⟨OG,J,rfl⟩:=h;intro d aR;rcases gf.1 aR with rfl|aR
     ·exact⟨x,Vu ae.sol ae.fits ab,ad,rfl,au⟩
     ·exact GD ae J d aR
theorem U3{b:List ao}{k:List bJ}{m:List bj}:∀{L:List (List ao)},(∀d∈L,DZ b k m d)→gN b k m L=some L
 |[],_=>rfl
 |d::L,h=>by obtain⟨x,J,U,ar,a8⟩:=h d (by simp);simp only[gN,J,if_neg U,ar,if_neg a8,U3 (L:=L) fun e he=>h e (by simp[he]),oi]
theorem GC{b:List ao}(ae:eE b){k:List bJ}{m:List bj}:∀{l L:List (List ao)},(∀d∈l,eE d)→gN b k m l=some L→∀d∈L,eE d
 |[],L,_,h=>by simp only[gN,dM]at h;rw[←h];simp
 |d0::r,L,aw,h=>by
  simp only[gN]at h;split at h
  ·exact GC ae (fun d aR=>aw d (by simp[aR])) h
  ·rename_i x ab;split at h
   ·exact GC ae (fun d aR=>aw d (by simp[aR])) h
   ·split at h
    ·cases h
    ·rw[gT]at h;obtain⟨OG,J,rfl⟩:=h;intro d aR;rcases gf.1 aR with rfl|aR
     ·exact Dg (ae.mgu (fun e he=>by obtain⟨c,ay,rfl⟩:=iC.1 he;have:=(aw d0 (by simp)).ok c ay;exact⟨by simpa[T.ok]using this.1,this.2⟩) ab)
     ·exact GC ae (fun d aR=>aw d (by simp[aR])) J d aR
theorem GB{b:List ao}(ae:eE b){n:Int}(au:pk b n){k:List bJ}{m:List bj}:∀{l L:List (List ao)},(∀d∈l,pk d n)→gN b k m l=some L→∀d∈L,pk d n
 |[],L,_,h=>by simp only[gN,dM]at h;rw[←h];simp
 |d0::r,L,aw,h=>by
  simp only[gN]at h;split at h
  ·exact GB ae au (fun d aR=>aw d (by simp[aR])) h
  ·rename_i x ab;split at h
   ·exact GB ae au (fun d aR=>aw d (by simp[aR])) h
   ·split at h
    ·cases h
    ·rw[gT]at h;obtain⟨OG,J,rfl⟩:=h;intro d aR;rcases gf.1 aR with rfl|aR
     ·have:=Vv (fun v=>v<n) ae.sol ae.fits au (fun e he=>by obtain⟨c,ay,rfl⟩:=iC.1 he;have:=aw d0 (by simp) c ay;exact⟨fun w hw=>by simp[T.occ]at hw;subst hw;exact this.1,this.2⟩) ab
      exact fun c ay=>this c (mV.1 ay).1
     ·exact GB ae au (fun d aR=>aw d (by simp[aR])) J d aR
theorem aif{L:List (List ao)}:k1 (k1 L)=k1 L:=Vx (Vw L) fun x=>by rw[Ax,and_assoc];refine⟨fun⟨J,U⟩=>⟨J,U,?_⟩,fun⟨J,U,_⟩=>⟨J,U⟩⟩;rw[jb,hs]at U⊢;exact fun d aR=>U d (Ax.1 aR).1
theorem Lo{b:List ao}(ae:eE b){n:Int}(au:pk b n){v w:Int}(aK:v<n)(h:(b7 b v).occ w=true):w<n:=by
 unfold b7 at h;cases e:ds b v with
 |none=>rw[e]at h;simp[T.occ]at h;omega
 |some t=>rw[e]at h;exact(au _ (kg e)).2 w h
theorem W8{b:List ao}(ae:eE b){n:Int}(au:pk b n):∀{l acc a:List bJ},(∀x∈l,x.v<n)→(∀x∈acc,x.v<n)→gk b l acc=some a→∀x∈a,x.v<n
 |[],acc,a,_,h,he=>by simp only[gk,dM]at he;rw[←he];exact h
 |y::r,acc,a,aw,h,he=>by
  simp only[gk]at he;split at he
  ·rename_i bG ak;refine W8 ae au (fun x ab=>aw x (by simp[ab])) (fun x ab=>?_) he;rcases IB ak x ab with J|J
   ·exact h x J
   ·exact Lo ae au (aw y (by simp)) (by rw[J];simp[T.occ])
  ·cases he
theorem Xb{b:List ao}(ae:eE b){n:Int}(au:pk b n):∀{l acc a:List bj},(∀x∈l,x.v<n)→(∀x∈acc,x.v<n)→gl b l acc=some a→∀x∈a,x.v<n
 |[],acc,a,_,h,he=>by simp only[gl,dM]at he;rw[←he];exact h
 |y::r,acc,a,aw,h,he=>by
  simp only[gl]at he;split at he
  ·rename_i bG ak;refine Xb ae au (fun x ab=>aw x (by simp[ab])) (fun x ab=>?_) he;rcases(Av ak x).1 ab with J|⟨_,J⟩
   ·exact h x J
   ·exact Lo ae au (aw y (by simp)) J
  ·cases he
theorem yK{s ai:bS}(h:ix s)(he:gJ s=some ai):jB ai∧ai.n=s.n∧ai.b=s.b:=by
 unfold gJ at he;split at he
 ·cases he
 rename_i k ad;split at he
 ·cases he
 rename_i m hm;split at he
 ·cases he
 rename_i L jL;split at he;rotate_left
 ·cases he
 rename_i lC;cases he;have aP:=Hu h.b h.k.at' ⟨by simp,by simp⟩ ad;have m1:=Hv h.b h.m.at' ⟨by simp,by simp[hS]⟩ hm;have m2:gA (m.filter (kK k)):=⟨fun x ab=>m1.at' x (mV.1 ab).1,Y9 _ m1.asc⟩;have cY:=GD h.b jL;have x2:=GC h.b h.d jL;refine⟨⟨⟨h.n,h.b,fun x ab=>x2 x (Ax.1 ab).1,aP,m2,h.bb,fun x ab=>GB h.b h.bb h.db jL x (Ax.1 ab).1,W8 h.b h.bb h.kb (by simp) ad,fun x ab=>Xb h.b h.bb h.mb (by simp) hm x (mV.1 ab).1⟩,?_⟩,rfl,rfl⟩;unfold gJ;have ak:gk s.b k []=some k:=Xa (acc:=[]) aP.asc (W9 h.b.sol (by simp) ad);have aC:gl s.b (m.filter (kK k)) []=some (m.filter (kK k)):=Xd (acc:=[]) m2.asc fun x ab=>Xc h.b.sol (by simp) hm x (mV.1 ab).1;have bk:(m.filter (kK k)).filter (kK k)=m.filter (kK k):=by rw[List.filter_filter];simp
 have dg:gN s.b k (m.filter (kK k)) (k1 L)=some (k1 L):=U3 fun d aR=>cY d (Ax.1 aR).1;simp only[ak,aC,bk,dg,aif,if_pos lC]
theorem ti{α:Type}{s:List α}{i:Nat}{t:α}(h:s[i]? =some t):s.drop i=t::s.drop (i+1):=by obtain⟨hi,e⟩:=fV.1 h;rw[lv hi,e]
def qk(L:List (List ao))(a:List (List ao))(e:List ao):List (List ao):=if jb L e=true then km eG e a else a
theorem LZ{L:List (List ao)}:∀(xs:List (List ao)) {a:List (List ao)},hS eG a→hS eG (xs.foldl (qk L) a)
 |[],_,h=>h
 |x::xs,a,h=>LZ xs (a:=qk L a x) (by unfold qk;split<;>first|exact Le lS h|exact h)
theorem Vz{L:List (List ao)}{x:List ao}:∀(xs:List (List ao)) {a:List (List ao)},x∈xs.foldl (qk L) a↔x∈a∨(x∈xs∧jb L x=true)
 |[],a=>by simp
 |y::xs,a=>by
  rw[List.foldl_cons,Vz xs,gf];unfold qk;by_cases ad:jb L y=true
  ·rw[if_pos ad,GM lS];constructor
   ·rintro((rfl|h)|h)
    ·exact .inr ⟨.inl rfl,ad⟩
    ·exact .inl h
    ·exact .inr ⟨.inr h.1,h.2⟩
   ·rintro(h|⟨rfl|J,U⟩)
    ·exact .inl (.inr h)
    ·exact .inl (.inl rfl)
    ·exact .inr ⟨J,U⟩
  ·rw[if_neg ad];constructor
   ·rintro(h|h)
    ·exact .inl h
    ·exact .inr ⟨.inr h.1,h.2⟩
   ·rintro(h|⟨rfl|J,U⟩)
    ·exact .inl h
    ·exact absurd U ad
    ·exact .inr ⟨J,U⟩
theorem Vy{L:List (List ao)}:∀(xs a:List (List ao)),(xs.foldl (qk L) a).length≤a.length+xs.length
 |[],a=>by simp
 |y::xs,a=>by
  have J:=Vy (L:=L) xs (qk L a y);have U:(qk L a y).length≤a.length+1:=by
   unfold qk;split
   ·exact Lg _ _
   ·omega
  simp only[List.foldl_cons,pT];omega
theorem aii(L:List (List ao)):k1 L=L.foldl (qk L) []:=Vx (LZ L (by simp[hS])) fun x=>by rw[Vz];simp
def yb(L:List (List ao))(i:Nat)(a:List (List ao)):Prop:=a=(L.take i).foldl (qk L) []
theorem yb.step{L:List (List ao)}{i:Nat}{a:List (List ao)}(h:yb L i a){e:List ao}(he:L[i]? =some e):yb L (i+1) (qk L a e):=by rw[yb,mQ he,List.foldl_append,h];rfl
def wz(e d:List ao):Bool:=decide (d=e)|| !nA d e
def qa(L:List (List ao))(e:List ao)(j:Nat)(k:Bool):Prop:=k=(L.take j).all (wz e)
theorem qa.step{L:List (List ao)}{e:List ao}{j:Nat}{k:Bool}(h:qa L e j k){d:List ao}(aR:L[j]? =some d):qa L e (j+1) (k&&wz e d):=by rw[qa,mQ aR,List.all_append,h];simp
def Gm(a:List (List ao))(e:List ao)(k:Nat):Prop:=k≤a.length∧∀c,a[k]? =some c→0≤eG c e
theorem Gm.fin{a:List (List ao)}{e:List ao}{k:Nat}(h:Gm a e k)(br:hS eG a)(ay:∀d,0<k→a[k-1]? =some d→eG d e<0):km eG e a=if(match a[k]? with|some y=>decide (eG y e=0)|none=>false)=true then a else a.take k++e::a.drop k:=
 (Lf lS e a k (fun i c hi kk=>by
  have ad:=h.1;obtain⟨d,aR⟩:∃d,a[k-1]? =some d:=⟨_,cl (by omega)⟩;have J:=ay d (by omega) aR;rcases Nat.lt_or_ge i (k-1)with U|U
  ·have sW:=(fV.1 kk);have mB:=(fV.1 aR);have:=pU.1 br i (k-1) sW.1 mB.1 U;rw[sW.2,mB.2]at this;exact lS.ltr this (by omega)
  ·have:i=k-1:=by omega
   subst this;rw[aR]at kk;cases kk;exact J) h.2 h.1).trans (by cases a[k]?<;>rfl)
theorem Uz(L:List (List ao))(e:List ao):jb L e=L.all (wz e):=rfl
theorem XL{l:List (List ao)}{x:List ao}:x∈o0 eG l↔x∈l:=(yO eG l).mem_iff
theorem aih(l:List (List ao)):k1 l=(cI none (o0 eG l)).filter (jb (o0 eG l)):=by have h:jb l=jb (o0 eG l):=funext fun e=>ahr (fun x=>XL.symm) e;rw[k1,h];rfl
def mI(s:List (List ao))(i:Nat)(acc:List (List ao)):Prop:=acc++(cI (if i=0 then none else s[i-1]?) (s.drop i)).filter (jb s)=(cI none s).filter (jb s)
def gd:bS:=⟨0,[],[],[],[]⟩
noncomputable def sk(s:bS):bS:=match gk s.b s.k []with
 |none=>gd
 |some k=>match gl s.b s.m []with
  |none=>gd
  |some m=>match gN s.b k (m.filter (kK k)) s.d with
   |none=>gd
   |some L=>⟨s.n,s.b,k1 L,k,m.filter (kK k)⟩
theorem HQ{s ai:bS}(h:gJ s=some ai):sk s=ai:=by
 unfold gJ at h;unfold sk;cases J:gk s.b s.k []with
 |none=>rw[J]at h;cases h
 |some k=>
  rw[J]at h;simp only at h⊢;cases U:gl s.b s.m []with
  |none=>rw[U]at h;cases h
  |some m=>
   rw[U]at h;simp only at h⊢;cases ar:gN s.b k (m.filter (kK k)) s.d with
   |none=>rw[ar]at h;cases h
   |some L=>
    rw[ar]at h;simp only at h⊢;split at h
    ·cases h;rfl
    ·cases h
theorem ZA{k:List bJ}(ad:jl k)(v:Int):(iV k (.var v) 2).isSome=(ll k v !=some 3):=by
 unfold iV;simp only;cases h:ll k v with
 |none=>simp
 |some x=>have:=(ad.at' _ (UG h)).2;simp only at this;rcases this with rfl|rfl<;>simp
theorem ZE{k:List bJ}(br:k.Pairwise fun x y=>x.v<y.v)(v:Int):(k.any fun x=>x.v==v&&x.k==3)=(ll k v==some 3):=by
 rw[qu,List.any_eq_true,dS];constructor
 ·rintro⟨x,ab,h⟩;simp only[cE,dS]at h;have:=Gv br ab;rw[h.1,h.2]at this;exact this
 ·intro h;exact⟨_,UG h,by simp⟩
theorem LC{b:List ao}{k:List bJ}{m:List bj}{d:List ao}{r:List (List ao)}(h:mgu b (hG d)=none):gN b k m (d::r)=gN b k m r:=by rw[gN,h]
theorem LB{b:List ao}{k:List bJ}{m:List bj}{d x:List ao}{r:List (List ao)}(h:mgu b (hG d)=some x)(ad:gk x k []=none∨gl x m []=none):gN b k m (d::r)=gN b k m r:=by rw[gN,h];simp only[if_pos ad]
theorem LA{b:List ao}{k:List bJ}{m:List bj}{d x:List ao}{r:List (List ao)}(h:mgu b (hG d)=some x)(ad:¬(gk x k []=none∨gl x m []=none))(au:eM b x=[]):gN b k m (d::r)=none:=by rw[gN,h];simp only[if_neg ad,if_pos au]
theorem LD{b:List ao}{k:List bJ}{m:List bj}{d x:List ao}{r:List (List ao)}(h:mgu b (hG d)=some x)(ad:¬(gk x k []=none∨gl x m []=none))(au:eM b x≠[]):gN b k m (d::r)=(gN b k m r).map (eM b x:: ·):=by rw[gN,h];simp only[if_neg ad,if_neg au]
def qb(b:List ao)(k:List bJ)(m:List bj)(D:List (List ao))(i:Nat)(a:List (List ao)):Prop:=a.length≤i∧(∀x∈a,eE x)∧(gN b k m (D.drop i)).map (a++ ·)=gN b k m D
def dw(n:Int):T→Bool
 | .var v=>decide (v<n)
 | .pair a b=>dw n a&&dw n b
 |_=>true
theorem vx{n:Int}:∀{t:T},dw n t=true↔xm t n
 | .var v=>by simp[dw,xm,T.occ]
 | .pair a b=>by simp only[dw,cE,vx (t:=a),vx (t:=b),xm,T.occ,mT];exact⟨fun h v aK=>aK.elim (h.1 v) (h.2 v),fun h=>⟨fun v aK=>h v (.inl aK),fun v aK=>h v (.inr aK)⟩⟩
 | .nil=>by simp[dw,xm,T.occ]
 | .sym _=>by simp[dw,xm,T.occ]
 | .num _=>by simp[dw,xm,T.occ]
def kV(n:Int)(b:ao):Bool:=decide (b.v<n)&&dw n b.t
theorem vw{n:Int}{s:List ao}:s.all (kV n)=true↔pk s n:=by simp[hs,kV,pk,vx]
def ri(v m:Int):Int:=if m<v+1 then v+1 else m
theorem Ii{n:Int}:∀(t:T) (m:Int),t.fold ri m≤n↔m≤n∧dw n t=true
 | .var v,m=>by simp only[T.fold,ri,dw,fK];split<;>omega
 | .pair a b,m=>by simp only[T.fold,Ii b,Ii a,dw,cE,and_assoc]
 | .nil,m=>by simp[T.fold,dw]
 | .sym _,m=>by simp[T.fold,dw]
 | .num _,m=>by simp[T.fold,dw]
def Ec(v m:Int):Option Int:=if 0≤v∧v≤100000 then some (ri v m)else none
theorem Oh:∀(t:T) (m:Int),t.ok=true→t.foldO Ec m=some (t.fold ri m)
 | .var v,m,h=>by
  have:0≤v∧v≤100000:=by simpa[T.ok]using h
  simp[T.foldO,T.fold,Ec,this]
 | .pair a b,m,h=>by
  have J:a.ok=true∧b.ok=true:=by simpa[T.ok]using h
  simp[T.foldO,T.fold,Oh a m J.1,Oh b _ J.2]
 | .nil,m,_=>rfl
 | .sym _,m,_=>rfl
 | .num _,m,_=>rfl
structure eQ where
 n:Int
 b:List c3
 d:List (List c3)
 k:List bJ
 m:List bj
def bS.r(s:bS):eQ:=⟨s.n,s.b.map ao.b,s.d.map fun x=>x.map ao.b,s.k,s.m⟩
def gK(r:eQ):Prop:= ∃s:bS,r=s.r∧jB s
def ki(n:Int)(x:List c3):Prop:= ∃s:List ao,x=s.map ao.b∧eE s∧pk s n
structure M4 (r:eQ):Prop where
 n:0≤r.n∧r.n≤100000
 b:ki r.n r.b
 d:∀x∈r.d,ki r.n x
 k:jl r.k
 m:gA r.m
 kb:∀x∈r.k,x.v<r.n
 mb:∀x∈r.m,x.v<r.n
theorem gK.raw{r:eQ}(h:gK r):M4 r:=by obtain⟨s,rfl,J,_⟩:=h;exact⟨J.n,⟨s.b,rfl,J.b,J.bb⟩,fun x ab=>by obtain⟨y,aG,rfl⟩:=iC.1 ab;exact⟨y,rfl,J.d y aG,J.db y aG⟩,J.k,J.m,J.kb,J.mb⟩
theorem vu:∀{a b:List ao},a.map ao.b=b.map ao.b→a=b
 |[],b,h=>by cases b<;>simp at h⊢
 |x::a,[],h=>by simp at h
 |x::a,y::b,h=>by simp only[gS,qv,ao.b,c3.mk.injEq]at h;rw[vu h.2];have:=D1 h.1.2;obtain⟨⟨J,_⟩,_⟩:=h;cases x;cases y;simp_all
theorem O3:∀{a b:List (List ao)},(a.map fun x=>x.map ao.b)=(b.map fun x=>x.map ao.b)→a=b
 |[],b,h=>by cases b<;>simp at h⊢
 |x::a,[],h=>by simp at h
 |x::a,y::b,h=>by rw[gS,gS,qv]at h;rw[O3 h.2,vu h.1]
theorem bS.r_inj{s t:bS}(h:s.r=t.r):s=t:=by obtain⟨n,b,d,k,m⟩:=s;obtain⟨n',bP,ca,bH,gz⟩:=t;simp only[bS.r,eQ.mk.injEq]at h;obtain⟨J,U,ar,a8,b4⟩:=h;rw[J,vu U,O3 ar,a8,b4]
theorem RC{n:Int}:∀{d:List (List c3)},(∀x∈d,ki n x)→∃D:List (List ao),d=(D.map fun x=>x.map ao.b)∧(∀x∈D,eE x)∧∀x∈D,pk x n
 |[],_=>⟨[],rfl,by simp,by simp⟩
 |x::d,h=>by
  obtain⟨D,J,U,ar⟩:=RC (d:=d) fun y aG=>h y (by simp[aG]);obtain⟨s,ak,aC,bk⟩:=h x (by simp);refine⟨s::D,by rw[J,ak];rfl,fun y aG=>?_,fun y aG=>?_⟩
  ·rcases gf.1 aG with rfl|aG
   ·exact aC
   ·exact U y aG
  ·rcases gf.1 aG with rfl|aG
   ·exact bk
   ·exact ar y aG
theorem XN{s:bS}(h:ix s):gK s.r↔gJ s=some s:=by
 constructor
 ·rintro⟨t,e,_,U⟩;rw[bS.r_inj e];exact U
 ·intro U;exact⟨s,rfl,h,U⟩
theorem wX{l:List c3}:Ix l↔∃s:List ao,l=s.map ao.b∧eE s:=⟨fun⟨s,J,U,ar,a8⟩=>⟨s,J,U,ar,a8⟩,fun⟨s,J,U⟩=>⟨s,J,U.ok,U.sol,U.fits⟩⟩
def rs{α:Type}(a b:List α)(i:Nat)(_:Unit):Prop:= ∀k,k<i→a[k]? =b[k]?
theorem rs.fin{α:Type}{a b:List α}(h:rs a b b.length ())(aw:a.length=b.length):a=b:=by
 apply List.ext_getElem?;intro k;by_cases ad:k<b.length
 ·exact h k ad
 ·rw[qw (by omega),qw (by omega)]
theorem rs.step{α:Type}{a b:List α}{i:Nat}(h:rs a b i ()){x:α}(br:a[i]? =some x)(ae:b[i]? =some x):rs a b (i+1) ():=fun k ad=>by
 rcases(by omega:k<i∨k=i)with J|rfl
 ·exact h k J
 ·rw[br,ae]
def r4{α:Type}(p:α→Prop)(s:List α)(i:Nat)(_:Unit):Prop:= ∀k b,k<i→s[k]? =some b→p b
theorem r4.step{α:Type}{p:α→Prop}{s:List α}{i:Nat}(h:r4 p s i ()){b:α}(ae:s[i]? =some b)(bQ:p b):r4 p s (i+1) ():=fun k c ad ay=>by
 rcases(by omega:k<i∨k=i)with J|rfl
 ·exact h k c J ay
 ·rw[ae]at ay;cases ay;exact bQ
theorem r4.fin{α:Type}{p:α→Prop}{s:List α}(h:r4 p s s.length ()):∀b∈s,p b:=fun b ae=>by obtain⟨k,ad,e⟩:=nN ae;exact h k b ad (by rw[cl ad,e])
def Po:C:=(aa [bd 2 false] (.seq (aa [I 5 0,cg 6 5,bU 7 0] (fp 8 7 6 (.seq (.block 1 (aa [I 9 7,cp 10 2 5 7,aS 11 2 10,c4 (.alloc 4 none (.agg [.int .i64 0,.int .i64 0])),I 3 9,bz 2 4 11] (.seq (.drawn true 46 [aB 12 0 1 4,av 13 1 12,aV 14 .lss 13 0,I 15 14,aq 15 false (aB 16 0 1 4),aq 15 false (av 17 1 16),aq 15 false (aV 18 .gtr 17 100000),cU 19 15 18,I 20 19,aq 20 false (aB 21 1 1 4),aq 20 false (av 22 1 21),aq 20 false (aV 23 .neq 22 2),b6 20 false 24 23,aq 24 true (aB 25 1 1 4),aq 24 true (av 26 1 25),aq 24 true (aV 27 .neq 26 3),aq 20 false (dD 28 24 27),cU 29 20 28,I 30 29,b6 30 false 31 3,aq 30 false (aV 32 .gtr 31 0),b6 30 false 33 32,b6 33 true 34 0,b6 33 true 35 3,aq 33 true (aV 36 .sub 35 1),aq 33 true (cp 37 2 34 36),aq 33 true (aB 38 0 1 37),aq 33 true (av 39 1 38),aq 33 true (aB 40 0 1 4),aq 33 true (av 41 1 40),aq 33 true (bn 42 .geq 39 41),aq 30 false (dD 43 33 42),cU 44 30 43]) (aU 44 (aa [bd 2 false] .ret) .skip)))) (.region [aV 45 .add 7 1,I 7 45])))) (aa [bd 2 true] .ret)))
@[simp] def Wt:List bB:=[.tmp 2]
def Pp:C:=(aa [bd 2 false] (.seq (aa [I 5 0,cg 6 5,bU 7 0] (fp 8 7 6 (.seq (.block 1 (aa [I 9 7,cp 10 2 5 7,aS 11 2 10,c4 (.alloc 4 none (.agg [.int .i64 0,.str []])),I 3 9,bz 2 4 11] (.seq (.drawn true 41 [aB 12 0 1 4,av 13 1 12,aV 14 .lss 13 0,I 15 14,aq 15 false (aB 16 0 1 4),aq 15 false (av 17 1 16),aq 15 false (aV 18 .gtr 17 100000),cU 19 15 18,I 20 19,aq 20 false (aB 21 1 1 4),aq 20 false (av 22 1 21),aq 20 false (cA 23 160 22),aq 20 false (cd 24 23),cU 25 20 24,I 26 25,b6 26 false 27 3,aq 26 false (aV 28 .gtr 27 0),b6 26 false 29 28,b6 29 true 30 0,b6 29 true 31 3,aq 29 true (aV 32 .sub 31 1),aq 29 true (cp 33 2 30 32),aq 29 true (aS 34 2 33),aq 29 true (aS 35 2 4),aq 29 true (b8 36 161 34 35),aq 29 true (cd 37 36),aq 26 false (dD 38 29 37),cU 39 26 38]) (aU 39 (aa [bd 2 false] .ret) .skip)))) (.region [aV 40 .add 7 1,I 7 40])))) (aa [bd 2 true] .ret)))
@[simp] def ME:List bB:=[.tmp 2]
def qF:C:=(aa [cw 6 2,eu 8 2,bd 9 false] (.seq (aa [I 15 0,cA 16 86 15,cd 17 16,I 18 17,aq 18 false (aS 19 4 6),aq 18 false (cA 20 64 19),aq 18 false (cd 21 20),cU 22 18 21,I 23 22,b6 23 false 24 1,aq 23 false (cA 25 87 24),aq 23 false (cd 26 25),cU 27 23 26,I 28 27,b6 28 false 29 3,aq 28 false (aV 30 .neq 29 2),b6 28 false 31 30,b6 31 true 32 3,aq 31 true (aV 33 .neq 32 3),aq 28 false (dD 34 31 33),cU 35 28 34] (aU 35 (aa [eu 8 2,bd 9 false] .ret) .skip)) (aa [I 37 0,aS 38 4 6,b8 39 69 37 38,I 36 39,cn 40 0 36,cn 41 1 36,cO 10 dY,bz 4 10 40,I 11 41] (.seq (aa [I 42 11,cd 43 42] (aU 43 (aa [eu 8 2,bd 9 false] .ret) .skip)) (aa [c4 (.bslm 44 (some 803) 2 98 []),I 45 1,c4 (.appm 46 none 2 98 (.t 44) (.t 45)),c4 (.alloc 12 (some 804) (.slice 2 .nil [])),bz 1 12 46] (.seq (aa [aB 47 0 1 10,av 48 1 47,aV 49 .neq 48 1] (aU 49 (.seq (aa [aB 50 0 1 10,av 51 1 50,I 52 3,bn 53 .neq 51 52] (aU 53 (aa [eu 8 2,bd 9 false] .ret) .skip)) (.seq (.pubB 12 (.region [av 54 1 12,I 8 54,bd 9 true])) .ret)) .skip)) (.seq (aa [I 55 1,cg 56 55,bU 57 0] (fp 58 57 56 (.seq (.block 1 (aa [cp 59 2 55 57,aS 60 2 59,c4 (.alloc 14 none (.agg [.int .i64 0,.int .i64 0])),bz 2 14 60] (aa [aB 61 0 1 14,av 62 1 61,aB 63 1 1 10,av 64 1 63,bn 65 .eql 62 64] (aU 65 (.seq (aa [aB 66 1 1 14,av 67 1 66,I 68 3,bn 69 .neq 67 68] (aU 69 (aa [eu 8 2,bd 9 false] .ret) .skip)) (.seq (.pubB 12 (.region [av 70 1 12,I 8 70,bd 9 true])) .ret)) .skip)))) (.region [aV 71 .add 57 1,I 57 71])))) (aa [av 72 1 12,aB 73 1 1 10,av 74 1 73,I 75 3,b9 76 (.build [.int .i64 0,.int .i64 0] [(0,1,(.t 74)),(1,1,(.t 75))]),eb 77 2 98 [.t 76],c4 (.appm 78 none 2 98 (.t 72) (.t 77)),bz 1 12 78] (aa [av 79 1 12,b9 80 (.mkif 48 (.t 79)),b9 81 (.mkf 183 [.t 12]),b8 82 182 80 81] (.seq (.pubB 12 (.region [av 83 1 12,I 8 83,bd 9 true])) .ret))))))))))
@[simp] def j5:List bB:=[.tmp 8,.tmp 9]
def EI:C:=(aa [cw 6 2,c4 (.box 7 (some 811) (.t 3)),eu 8 2,bd 9 false] (.seq (aa [I 17 0,cA 18 86 17,cd 19 18,I 20 19,aq 20 false (aS 21 4 6),aq 20 false (cA 22 64 21),aq 20 false (cd 23 22),cU 24 20 23,I 25 24,b6 25 false 26 1,aq 25 false (cA 27 88 26),aq 25 false (cd 28 27),cU 29 25 28,I 30 29,aq 30 false (av 31 1 7),aq 30 false (cA 32 160 31),aq 30 false (cd 33 32),cU 34 30 33] (aU 34 (aa [eu 8 2,bd 9 false] .ret) .skip)) (aa [I 36 0,aS 37 4 6,b8 38 69 36 37,I 35 38,cn 39 0 35,cn 40 1 35,cO 10 dY,bz 4 10 39,I 11 40] (.seq (aa [I 41 11,cd 42 41,I 43 42,aq 43 false (aS 44 4 10),aq 43 false (av 45 1 7),aq 43 false (b8 46 177 44 45),cU 47 43 46] (aU 47 (aa [eu 8 2,bd 9 false] .ret) .skip)) (aa [c4 (.mkmap 48 (some 812)),c4 (.alloc 12 (some 813) (.junk)),bz 1 12 48] (.seq (aa [I 49 1,cg 50 49,bU 51 0] (fp 52 51 50 (.seq (.block 1 (aa [cp 53 2 49 51,aS 54 2 53,c4 (.alloc 14 none (.agg [.int .i64 0,.str []])),bz 2 14 54] (.region [av 55 1 12,aS 56 2 14,c4 (.mput (.a [false,true]) (.t 55) (.t 56) (.c (.bool true)))]))) (.region [aV 57 .add 51 1,I 51 57])))) (aa [aS 58 4 10,b9 59 (.mkf 184 [.t 12,.t 7]),b8 60 134 58 59] (aa [c4 (.bslm 61 (some 814) 2 100 []),c4 (.alloc 15 (some 815) (.slice 2 .nil [])),bz 1 15 61] (.seq (aa [av 62 1 12,c4 (.range 63 none (.t 62))] (.block 2 (.loop (aa [⟨none,.next 64 (.t 63)⟩,cn 65 0 64] (.seq (aU 65 .skip (.exit 2)) (.block 3 (aa [b9 66 (.ment (.t 63)),cn 67 0 66,c4 (.alloc 16 none (.agg [.int .i64 0,.str []])),bz 2 16 67] (.region [av 68 1 15,aS 69 2 16,eb 70 2 100 [.t 69],c4 (.appm 71 none 2 100 (.t 68) (.t 70)),bz 1 15 71])))))))) (aa [av 72 1 15,b9 73 (.mkif 49 (.t 72)),b9 74 (.mkf 185 [.t 15]),b8 75 182 73 74] (.seq (.pubB 15 (.region [av 76 1 15,I 8 76,bd 9 true])) .ret)))))))))))
@[simp] def Hb:List bB:=[.tmp 8,.tmp 9]
def EM:C:=(aa [cw 2 0,cw 3 1,bd 4 false] (aa [aB 5 0 1 2,av 6 1 5,aB 7 0 1 3,av 8 1 7,bn 9 .lss 6 8,I 10 9,aq 10 false (aB 11 0 1 2),aq 10 false (av 12 1 11),aq 10 false (aB 13 0 1 3),aq 10 false (av 14 1 13),aq 10 false (bn 15 .eql 12 14),b6 10 false 16 15,aq 16 true (aB 17 1 1 2),aq 16 true (av 18 1 17),aq 16 true (aB 19 1 1 3),aq 16 true (av 20 1 19),aq 16 true (bn 21 .lss 18 20),aq 10 false (dD 22 16 21),cU 23 10 22,I 4 23] .ret))
@[simp] def ak1:List bB:=[.tmp 4]
def EP:C:=(aa [cw 2 0,bd 4 false] (.seq (aa [aB 5 0 1 2,av 6 1 5,aV 7 .eql 6 4] (aU 7 (aa [aB 8 3 1 2,av 9 1 8,jY 10 4 9 0,aS 11 4 10,I 12 1,b8 13 177 11 12,I 14 13,aq 14 false (aB 15 3 1 2),aq 14 false (av 16 1 15),aq 14 false (jY 17 4 16 1),aq 14 false (aS 18 4 17),b6 14 false 19 1,aq 14 false (b8 20 177 18 19),cU 21 14 20,I 4 21] .ret) .skip)) (aa [aB 22 0 1 2,av 23 1 22,aV 24 .eql 23 2,I 25 24,aq 25 true (aB 26 2 1 2),aq 25 true (av 27 1 26),b6 25 true 28 1,aq 25 true (bn 29 .eql 27 28),dD 30 25 29,I 4 30] .ret)))
@[simp] def Hi:List bB:=[.tmp 4]
def Pl:C:=(aa [bd 5 false] (.seq (.drawn true 17 [av 6 1 2,I 7 0,cp 8 2 6 7,aB 9 0 1 8,av 10 1 9,av 11 1 2,I 12 1,cp 13 2 11 12,aB 14 0 1 13,av 15 1 14,bn 16 .lss 10 15,I 5 16]) .ret))
@[simp] def Wp:List bB:=[.tmp 5]
def Pj:C:=(.region [av 4 1 1,I 5 0,av 6 1 2,b9 7 (.build [.int .i64 0,.str []] [(0,1,(.t 5)),(1,1,(.t 6))]),c4 (.mput (.a [false,true]) (.t 4) (.t 7) (.c (.bool true)))])
@[simp] def Wn:List bB:=[]
def Pk:C:=(aa [bd 5 false] (.seq (.drawn true 15 [av 6 1 2,I 7 0,cp 8 2 6 7,aS 9 2 8,av 10 1 2,I 11 1,cp 12 2 10 11,aS 13 2 12,b8 14 161 9 13,I 5 14]) .ret))
@[simp] def Wo:List bB:=[.tmp 5]
def tJ:List (Nat×dI):=[
 (3,⟨1,8,.int .i64,.int .i64 0⟩),
 (9,⟨1,16,.str,.str []⟩),
 (27,⟨1,24,.slice 30,.slice 4 .nil []⟩),
 (30,⟨4,56,.struct [(0,3),(1,3),(2,9),(3,27)],.agg [.int .i64 0,.int .i64 0,.str [],.slice 4 .nil []]⟩),
 (48,⟨1,24,.slice 98,.slice 2 .nil []⟩),
 (49,⟨1,24,.slice 100,.slice 2 .nil []⟩),
 (98,⟨2,16,.struct [(0,3),(1,3)],.agg [.int .i64 0,.int .i64 0]⟩),
 (100,⟨2,24,.struct [(0,3),(1,9)],.agg [.int .i64 0,.str []]⟩),
 (165,⟨1,8,.map 100 4,.junk⟩)]
theorem j7:fU al tJ=true:=by kernel_rfl
theorem aiK:bY tJ Po Wt 1 Tryz.f87=true:=by kernel_rfl
theorem aca:al.funcs[(87:Nat)]? =some Tryz.f87:=Tryz.func87
theorem aiL:bY tJ Pp ME 1 Tryz.f88=true:=by kernel_rfl
theorem acb:al.funcs[(88:Nat)]? =some Tryz.f88:=Tryz.func88
theorem sb:bY tJ qF j5 4 Tryz.f118=true:=by kernel_rfl
theorem rz:al.funcs[(118:Nat)]? =some Tryz.f118:=Tryz.func118
theorem Ma:bY tJ EI Hb 4 Tryz.f120=true:=by kernel_rfl
theorem JD:al.funcs[(120:Nat)]? =some Tryz.f120:=Tryz.func120
theorem Me:bY tJ EM ak1 2 Tryz.f161=true:=by kernel_rfl
theorem JH:al.funcs[(161:Nat)]? =some Tryz.f161:=Tryz.func161
theorem Mh:bY tJ EP Hi 2 Tryz.f177=true:=by kernel_rfl
theorem JK:al.funcs[(177:Nat)]? =some Tryz.f177:=Tryz.func177
theorem aiH:bY tJ Pl Wp 3 Tryz.f183=true:=by kernel_rfl
theorem ab7:al.funcs[(183:Nat)]? =some Tryz.f183:=Tryz.func183
theorem aiF:bY tJ Pj Wn 3 Tryz.f184=true:=by kernel_rfl
theorem ab5:al.funcs[(184:Nat)]? =some Tryz.f184:=Tryz.func184
theorem aiG:bY tJ Pk Wo 3 Tryz.f185=true:=by kernel_rfl
theorem ab6:al.funcs[(185:Nat)]? =some Tryz.f185:=Tryz.func185
def mf(x:bJ):Prop:=(0≤x.v∧x.v≤100000)∧(x.k=2∨x.k=3)
def ny(x y:bJ):Prop:=x.v<y.v
theorem Gt{l:List bJ}:jl l↔∀i,i<l.length→il mf ny l i:=by rw[ON (p:=mf) (r:=ny) (fun a b c J U=>by unfold ny at*;omega)];exact⟨fun h=>⟨h.at',h.asc⟩,fun h=>⟨h.1,h.2⟩⟩
def kn(x:bj):Prop:=(0≤x.v∧x.v≤100000)∧iv x.s=true
def kJ(x y:bj):Prop:=fl x y<0
theorem GJ{l:List bj}:gA l↔∀i,i<l.length→il kn kJ l i:=by rw[ON (p:=kn) (r:=kJ) (fun a b c J U=>by unfold kJ at*;exact lT.ltr J (Int.le_of_lt U))];exact⟨fun h=>⟨h.at',h.asc⟩,fun h=>⟨h.1,h.2⟩⟩
open Classical in
theorem Yl(l:List bJ):bt al 87 [.slice 2 .no (l.map bJ.e)] (.bool (decide (jl l))):=by
 generalize bg:decide (jl l)=R;refine bc j7 aca aiK fun aN=>?_;unfold Po;have eV:l.length≤68719476736:=by simp[ey,ea,en,lim]at aN;omega
 simp;refine dR [0,5,6] (fun i (_:Unit)=>[(7,.int .i64 i)]) l.length (fun i _=> ∀j,j<i→il mf ny l j) () bW (fun k ad=>by omega) (fun _ af _=>?_) (fun i _ hi af _=>?_)
 ·have:R=true:=by rw[←bg,fK,Gt];exact af
  rw[this];exact bO
 ·obtain⟨b,ae⟩:∃b,l[i]? =some b:=⟨_,cl hi⟩;obtain⟨c,ay⟩:∃c,l[i-1]? =some c:=⟨_,cl (by omega)⟩;have cG:∀h,(l[i]'h)=b:=fun h=>by rw[cl hi]at ae;exact fq ae
  have dt:¬il mf ny l i→R=false:=fun h=>by rw[←bg,hR];exact fun cx=>h (Gt.1 cx i hi)
  have cY:il mf ny l i→∀j,j<i+1→il mf ny l j:=fun h j jy=>by
   by_cases e:j=i
   ·rw[e];exact h
   ·exact af j (by omega)
  simp[hi,cG,ay];((with_reducible repeat' first|refine aj ?_|simp[cG,ay,hi]|((first|apply bK|apply bM|apply bL)<;>intro h<;>try simp at h))<;>(try exact cc));all_goals first
   |(have au:¬il mf ny l i:=by(intro cx;have J:=cx b ae;have U:=J.2 c;have ar:=J.1;unfold mf ny at*;first|omega|(have a8:=U (by omega) ay;omega)|(simp_all;done)|(simp_all;omega))
     rw[dt au]
     simp[bu,Wt,aY,aZ,aW]
     done)
   |(refine bT.rng () hi (cY fun bP gb=>?_) ?_
     ·rw[ae]at gb;cases gb
      refine⟨?_,fun ct bD hh=>?_⟩
      ·unfold mf;first|(simp_all;done)|(simp_all;omega)
      ·rw[ay]at hh;cases hh;unfold ny;simp_all
     ·exact bW)
theorem Bj(a b:bj):bt al 161 [a.e,b.e] (.bool (hQ fl a b)):=by
 rw[←VD];have bg:tn a b=(decide (a.v<b.v)||(a.v==b.v&&hC a.s b.s)):=rfl;rcases Int.lt_trichotomy a.v b.v with h|h|h
 ·have:tn a b=true:=by rw[bg];simp[h]
  rw[this];refine bc j7 JH Me fun aN=>?_;unfold EM;exact bO
 ·have J:¬a.v<b.v:=by omega
  have U:(a.v==b.v)=true:=by simp[h]
  have:tn a b=hC a.s b.s:=by rw[bg];simp[h]
  rw[this];refine bc j7 JH Me fun aN=>?_;unfold EM;exact bO
 ·have J:¬a.v<b.v:=by omega
  have U:¬a.v=b.v:=by omega
  have ar:(a.v==b.v)=false:=by simp[U]
  have:tn a b=false:=by rw[bg];simp[J,U]
  rw[this];refine bc j7 JH Me fun aN=>?_;unfold EM;exact bO
open Classical in
theorem Yn(l:List bj):bt al 88 [.slice 2 .no (l.map bj.e)] (.bool (decide (gA l))):=by
 generalize bg:decide (gA l)=R;refine bc j7 acb aiL fun aN=>?_;unfold Pp;have eV:l.length≤68719476736:=by simp[ey,ea,en,lim]at aN;omega
 simp;refine dR [0,5,6] (fun i (_:Unit)=>[(7,.int .i64 i)]) l.length (fun i _=> ∀j,j<i→il kn kJ l j) () bW (fun k ad=>by omega) (fun _ af _=>?_) (fun i _ hi af _=>?_)
 ·have:R=true:=by rw[←bg,fK,GJ];exact af
  rw[this];exact bO
 ·obtain⟨b,ae⟩:∃b,l[i]? =some b:=⟨_,cl hi⟩;obtain⟨c,ay⟩:∃c,l[i-1]? =some c:=⟨_,cl (by omega)⟩;have cG:∀h,(l[i]'h)=b:=fun h=>by rw[cl hi]at ae;exact fq ae
  have dt:¬il kn kJ l i→R=false:=fun h=>by rw[←bg,hR];exact fun cx=>h (GJ.1 cx i hi)
  have cY:il kn kJ l i→∀j,j<i+1→il kn kJ l j:=fun h j jy=>by
   by_cases e:j=i
   ·rw[e];exact h
   ·exact af j (by omega)
  have dB:∀p:Prop,(p→eA)→(il kn kJ l i→p)→R=false:=fun p J U=>dt fun h=>J (U h);have pD:il kn kJ l i→kn b:=fun h=>(h b ae).1;have bE:il kn kJ l i→0<i→hQ fl c b=true:=fun h bD=>by simpa[hQ,kJ]using(h b ae).2 c bD ay
  have eJ:kn b→(0<i→hQ fl c b=true)→il kn kJ l i:=fun J U bP gb=>by rw[ae]at gb;cases gb;exact⟨J,fun ct bD hh=>by rw[ay]at hh;cases hh;simpa[hQ,kJ]using U bD⟩
  unfold kn at pD eJ;by_cases g1:b.v<0
  ·rw[dB _ (fun h=>by omega) (fun h=>(pD h).1.1)];exact bO
  by_cases g2:100000<b.v
  ·rw[dB _ (fun h=>by omega) (fun h=>(pD h).1.2)];exact bO
  cases g3:iv b.s
  ·rw[dB _ (fun h=>by rw[h]at g3;cases g3) (fun h=>(pD h).2)];simp[hi,cG,ay];(with_reducible repeat' first|refine aj ?_|refine aD (tK _) ?_|refine aE (tK _) ?_|simp[cG,ay,hi,g1,g2,g3]);simp[bu,ME,aY,aZ,aW]
  by_cases g4:0<i
  ·cases g5:hQ fl c b
   ·rw[dB _ (fun h=>by rw[h]at g5;cases g5) (fun h=>bE h g4)];simp[hi,cG,ay];(with_reducible repeat' first|refine aj ?_|refine aD (tK _) ?_|refine aE (tK _) ?_|refine aD (Bj _ _) ?_|refine aE (Bj _ _) ?_|simp[cG,ay,hi,g1,g2,g3,g4,g5]);simp[bu,ME,aY,aZ,aW]
   ·simp[hi,cG,ay];(with_reducible repeat' first|refine aj ?_|refine aD (tK _) ?_|refine aE (tK _) ?_|refine aD (Bj _ _) ?_|refine aE (Bj _ _) ?_|simp[cG,ay,hi,g1,g2,g3,g4,g5]);exact bT.rng () hi (cY (eJ ⟨⟨by omega,by omega⟩,g3⟩ fun _=>g5)) bW
  ·obtain rfl:i=0:=by omega
   simp[hi,cG,ay];(with_reducible repeat' first|refine aj ?_|refine aD (tK _) ?_|refine aE (tK _) ?_|simp[cG,ay,hi,g1,g2,g3,g4]);exact bT.rng () hi (cY (eJ ⟨⟨by omega,by omega⟩,g3⟩ fun h=>by omega)) bW
theorem anJ(s:List dm):∀t:T,bt al 177 [t.e,.str s] (.bool (t.has s)):=by
 intro t;induction t with
 |pair a b dW dX=>
  refine bc j7 JK Mh fun aN=>?_;unfold EP;simp;cases br:a.has s<;>cases ae:b.has s<;>rw[br]at dW<;>rw[ae]at dX;all_goals(with_reducible repeat' first|refine aj ?_|refine aD dW ?_|refine aE dW ?_|refine aD dX ?_|refine aE dX ?_|simp)
  all_goals simp[bu,Hi,aY,aZ,aW]
  all_goals simp[T.has,br,ae]
 |sym n=>
  refine bc j7 JK Mh fun aN=>?_;unfold EP;simp;(with_reducible repeat' first|refine aj ?_|simp);all_goals simp[bu,Hi,aY,aZ,aW]
  all_goals simp[T.has]
 |_=>
  refine bc j7 JK Mh fun aN=>?_;unfold EP;simp;(with_reducible repeat' first|refine aj ?_|simp);all_goals simp[bu,Hi,aY,aZ,aW]
  all_goals simp[T.has]
def QE:C:=(aa [cw 2 0] (aa [bU 4 20] (aa [I 8 4,bU 5 0,I 6 8] (.seq (.block 0 (.loop (.seq (aa [I 9 6,I 10 1,bn 11 .leq 9 10] (aU 11 .skip (.exit 0))) (.block 1 (aa [aS 12 2 2,I 13 5,I 14 6,c8 15 231 [.t 12,.t 13,.t 14]] (aa [I 16 6,I 5 16] (.region [I 17 6,I 18 4,bn 19 .add 17 18,I 6 19]))))))) (aa [aS 20 2 2,I 21 5,I 22 1,c8 23 231 [.t 20,.t 21,.t 22]] (.block 2 (.loop (.seq (aa [I 24 4,I 25 1,bn 26 .lss 24 25] (aU 26 .skip (.exit 2))) (.block 3 (aa [I 27 4,b9 28 (.bin .mul false (fI 2) (.t 27)),bU 5 0,I 6 28] (.seq (.block 4 (.loop (.seq (aa [I 29 6,I 30 1,bn 31 .leq 29 30] (aU 31 .skip (.exit 4))) (.block 5 (aa [aS 32 2 2,I 33 5,I 34 5,I 35 4,bn 36 .add 34 35,I 37 6,c8 38 232 [.t 32,.t 33,.t 36,.t 37]] (aa [I 39 6,I 5 39] (.region [I 40 6,I 41 4,b9 42 (.bin .mul false (fI 2) (.t 41)),bn 43 .add 40 42,I 6 43]))))))) (.seq (aa [I 44 5,I 45 4,bn 46 .add 44 45,I 7 46] (aa [I 47 7,I 48 1,bn 49 .lss 47 48] (aU 49 (.region [aS 50 2 2,I 51 5,I 52 7,I 53 1,c8 54 232 [.t 50,.t 51,.t 52,.t 53]]) .skip))) (.region [I 55 4,aV 56 .mul 55 2,I 4 56])))))))))))))
@[simp] def alK:List bB:=[]
def I8:C:=(aa [cw 3 0] (aa [I 8 1,aV 9 .add 8 1,I 6 9] (.block 0 (.loop (.seq (aa [I 10 6,I 11 2,bn 12 .lss 10 11] (aU 12 .skip (.exit 0))) (.seq (.block 1 (aa [I 15 6,I 7 15] (.block 2 (.loop (.seq (aa [I 16 7,I 17 1,bn 18 .gtr 16 17,I 19 18,aq 19 true (aB 20 0 1 3),aq 19 true (av 21 1 20),b6 19 true 22 7,b6 19 true 23 7,aq 19 true (aV 24 .sub 23 1),aq 19 true (gM 25 21 [.t 22,.t 24]),dD 26 19 25] (aU 26 .skip (.exit 2))) (.seq (.block 3 (.region [aB 29 1 1 3,av 30 1 29,I 31 7,I 32 7,aV 33 .sub 32 1,gM 34 30 [.t 31,.t 33]])) (.region [I 27 7,aV 28 .sub 27 1,I 7 28]))))))) (.region [I 13 6,aV 14 .add 13 1,I 6 14])))))))
@[simp] def alG:List bB:=[]
def EX:C:=(aa [I 164 16,I 165 22,bn 166 .lss 164 165,I 167 166,b6 167 true 168 22,b6 167 true 169 3,aq 167 true (bn 170 .lss 168 169),dD 171 167 170] (aU 171 (.region [aS 172 2 4,I 173 16,I 174 22,I 175 3,c8 176 232 [.t 172,.t 173,.t 174,.t 175]]) .skip))
def EY:C:=(.seq (aa [I 151 1,I 152 18,bn 153 .lss 151 152,I 154 153,b6 154 true 155 18,b6 154 true 156 16,aq 154 true (bn 157 .lss 155 156),dD 158 154 157] (aU 158 (.region [aS 159 2 4,I 160 1,I 161 18,I 162 16,c8 163 232 [.t 159,.t 160,.t 161,.t 162]]) .skip)) EX)
def Jc:C:=(.seq (aa [I 138 18,I 139 2,bn 140 .lss 138 139,I 141 140,b6 141 true 142 2,b6 141 true 143 22,aq 141 true (bn 144 .lss 142 143),dD 145 141 144] (aU 145 (.region [aS 146 2 4,I 147 18,I 148 2,I 149 22,c8 150 251 [.t 146,.t 147,.t 148,.t 149]]) .skip)) EY)
def Jd:C:=(aa [I 113 17,aV 114 .sub 113 1,I 20 114] (.seq (.block 8 (.loop (.seq (aa [I 115 18,I 116 19,bn 117 .lss 115 116] (aU 117 .skip (.exit 8))) (.block 9 (aa [I 118 18,I 119 19,bn 120 .add 118 119,b9 121 (.conv .u64 (.t 120)),b9 122 (.bin .shr false (.t 121) (.c (.int .u64 1))),b9 123 (.conv .i64 (.t 122)),I 21 123] (aa [aB 124 0 1 4,av 125 1 124,I 126 20,I 127 21,bn 128 .sub 126 127,I 129 21,gM 130 125 [.t 128,.t 129],cd 131 130] (aU 131 (.region [I 132 21,aV 133 .add 132 1,I 18 133]) (.region [I 134 21,I 19 134])))))))) (aa [I 135 17,I 136 18,bn 137 .sub 135 136,I 22 137] Jc)))
def QG:C:=(aa [cw 4 0] (.seq (aa [I 23 2,I 24 1,bn 25 .sub 23 24,aV 26 .eql 25 1] (aU 26 (aa [I 27 2,I 8 27] (aa [I 28 3,I 9 28] (.seq (.block 0 (.loop (.seq (aa [I 29 8,I 30 9,bn 31 .lss 29 30] (aU 31 .skip (.exit 0))) (.block 1 (aa [I 32 8,I 33 9,bn 34 .add 32 33,b9 35 (.conv .u64 (.t 34)),b9 36 (.bin .shr false (.t 35) (.c (.int .u64 1))),b9 37 (.conv .i64 (.t 36)),I 10 37] (aa [aB 38 0 1 4,av 39 1 38,I 40 10,I 41 1,gM 42 39 [.t 40,.t 41]] (aU 42 (.region [I 43 10,aV 44 .add 43 1,I 8 44]) (.region [I 45 10,I 9 45])))))))) (.seq (aa [I 46 1,I 11 46] (.block 2 (.loop (.seq (aa [I 47 11,I 48 8,aV 49 .sub 48 1,bn 50 .lss 47 49] (aU 50 .skip (.exit 2))) (.seq (.block 3 (.region [aB 53 1 1 4,av 54 1 53,I 55 11,I 56 11,aV 57 .add 56 1,gM 58 54 [.t 55,.t 57]])) (.region [I 51 11,aV 52 .add 51 1,I 11 52])))))) .ret)))) .skip)) (.seq (aa [I 59 3,I 60 2,bn 61 .sub 59 60,aV 62 .eql 61 1] (aU 62 (aa [I 63 1,I 12 63] (aa [I 64 2,I 13 64] (.seq (.block 4 (.loop (.seq (aa [I 65 12,I 66 13,bn 67 .lss 65 66] (aU 67 .skip (.exit 4))) (.block 5 (aa [I 68 12,I 69 13,bn 70 .add 68 69,b9 71 (.conv .u64 (.t 70)),b9 72 (.bin .shr false (.t 71) (.c (.int .u64 1))),b9 73 (.conv .i64 (.t 72)),I 14 73] (aa [aB 74 0 1 4,av 75 1 74,I 76 2,I 77 14,gM 78 75 [.t 76,.t 77],cd 79 78] (aU 79 (.region [I 80 14,aV 81 .add 80 1,I 12 81]) (.region [I 82 14,I 13 82])))))))) (.seq (aa [I 83 2,I 15 83] (.block 6 (.loop (.seq (aa [I 84 15,I 85 12,bn 86 .gtr 84 85] (aU 86 .skip (.exit 6))) (.seq (.block 7 (.region [aB 89 1 1 4,av 90 1 89,I 91 15,I 92 15,aV 93 .sub 92 1,gM 94 90 [.t 91,.t 93]])) (.region [I 87 15,aV 88 .sub 87 1,I 15 88])))))) .ret)))) .skip)) (aa [I 95 1,I 96 3,bn 97 .add 95 96,b9 98 (.conv .u64 (.t 97)),b9 99 (.bin .shr false (.t 98) (.c (.int .u64 1))),b9 100 (.conv .i64 (.t 99)),I 16 100] (aa [I 101 16,I 102 2,bn 103 .add 101 102,I 17 103] (aa [bU 18 0,bU 19 0] (.seq (aa [I 104 2,I 105 16,bn 106 .gtr 104 105] (aU 106 (aa [I 107 17,I 108 3,bn 109 .sub 107 108,I 18 109] (.region [I 110 16,I 19 110])) (aa [I 111 1,I 18 111] (.region [I 112 2,I 19 112])))) Jd)))))))
@[simp] def alL:List bB:=[]
def QC:C:=(aa [cw 4 0] (aa [I 10 2,I 11 1,bn 12 .sub 10 11,I 8 12] (aa [I 13 3,I 14 2,bn 15 .sub 13 14,I 9 15] (.seq (.block 0 (.loop (.seq (aa [I 16 8,I 17 9,bn 18 .neq 16 17] (aU 18 .skip (.exit 0))) (.block 1 (aa [I 19 8,I 20 9,bn 21 .gtr 19 20] (aU 21 (aa [aS 22 2 4,I 23 2,I 24 8,bn 25 .sub 23 24,I 26 2,I 27 9,c8 28 270 [.t 22,.t 25,.t 26,.t 27]] (.region [I 29 8,I 30 9,bn 31 .sub 29 30,I 8 31])) (aa [aS 32 2 4,I 33 2,I 34 8,bn 35 .sub 33 34,I 36 2,I 37 9,bn 38 .add 36 37,I 39 8,bn 40 .sub 38 39,I 41 8,c8 42 270 [.t 32,.t 35,.t 40,.t 41]] (.region [I 43 9,I 44 8,bn 45 .sub 43 44,I 9 45])))))))) (.region [aS 46 2 4,I 47 2,I 48 8,bn 49 .sub 47 48,I 50 2,I 51 8,c8 52 270 [.t 46,.t 49,.t 50,.t 51]])))))
@[simp] def alI:List bB:=[]
def QF:C:=(aa [cw 4 0] (aa [bU 8 0] (.block 0 (.loop (.seq (aa [I 9 8,I 10 3,bn 11 .lss 9 10] (aU 11 .skip (.exit 0))) (.seq (.block 1 (.region [aB 14 1 1 4,av 15 1 14,I 16 1,I 17 8,bn 18 .add 16 17,I 19 2,I 20 8,bn 21 .add 19 20,gM 22 15 [.t 18,.t 21]])) (.region [I 12 8,aV 13 .add 12 1,I 8 13])))))))
@[simp] def WX:List bB:=[]
def Be:List (Nat×dI):=[
 (3,⟨1,8,.int .i64,.int .i64 0⟩),
 (143,⟨1,8,.other,.junk⟩),
 (181,⟨1,8,.other,.junk⟩),
 (185,⟨2,16,.struct [(0,143),(1,181)],.agg [.junk,.junk]⟩),
 (192,⟨1,8,.int .u64,.int .u64 0⟩)]
theorem Bg:fU al Be=true:=by kernel_rfl
theorem ajY:bY Be QE alK 2 Tryz.f199=true:=by kernel_rfl
theorem adt:al.funcs[(199:Nat)]? =some Tryz.f199:=Tryz.func199
theorem V3:bY Be I8 alG 3 Tryz.f231=true:=by kernel_rfl
theorem Se:al.funcs[(231:Nat)]? =some Tryz.f231:=Tryz.func231
theorem aj0:bY Be QG alL 4 Tryz.f232=true:=by kernel_rfl
theorem adv:al.funcs[(232:Nat)]? =some Tryz.f232:=Tryz.func232
theorem ajW:bY Be QC alI 4 Tryz.f251=true:=by kernel_rfl
theorem adr:al.funcs[(251:Nat)]? =some Tryz.f251:=Tryz.func251
theorem ajZ:bY Be QF WX 4 Tryz.f270=true:=by kernel_rfl
theorem adu:al.funcs[(270:Nat)]? =some Tryz.f270:=Tryz.func270
end Go.Proofs.YtahlgcidhnjlbaaGreat
namespace Go.Proofs.YtahlgcidhnjlbaaGreat
open Go Go.Pv
structure e7 {α:Type} (S:List α→cL) (n:Nat) (g cb:Nat) (lc b5:List ah) (lt:α→α→Bool):Prop where
 ok:∀l,ej (S l)
 same:∀l a1,l.length=n→a1.length=n→Same (S l) (S a1)
 klc:∀l,l.length=n→aJ (inObs (S l)) lc
 ksc:∀l,l.length=n→aJ (inObs (S l)) b5
 slc:cW lc=lc
 ssc:cW b5=b5
 le:n≤68719476736
 less:∀l,l.length=n→∀(i j:Nat) x y,l[i]? =some x→l[j]? =some y→bV al g (.int .i64 i:: .int .i64 j::lc) (S l) fun r ai=>r= .bool (lt x y)∧ai=S l
 swap:∀l,l.length=n→2≤n→∀i j:Nat,i<n→j<n→bV al cb (.int .i64 i:: .int .i64 j::b5) (S l) fun r ai=>r= .tuple []∧ai=S (hl l i j)
variable {α:Type} {S:List α→cL} {n g cb:Nat} {lc b5:List ah} {lt:α→α→Bool}
def e1(g cb:Nat)(lc b5:List ah):ah:= .agg [.func g lc,.func cb b5]
theorem Kb(H:e7 S n g cb lc b5 lt)(l:List α)(aw:l.length=n)(a b c:Nat)(aqf:a+c≤b)(S7:b+c≤n):
  bV al 270 [e1 g cb lc b5,.int .i64 a,.int .i64 b,.int .i64 c] (S l) fun r ai=>r= .tuple []∧∃a1,ai=S a1∧gw a (b+c) l a1∧∀k,a1[k]? =l[sp a b c k]?:=by
 have ag:=H.ok l;have au:∀l m,Pv.look (.loc m) (S l).b=none:=fun l=>(H.ok l).obj.1;have hu:∀l m cs,cB (.loc m) cs (S l).b=(S l).b++[(.loc m,cs)]:=fun l m cs=>j9 (au l m);have ax:∀m,aH.loc m∉cV (S l):=j4 ag.obj;have hle:=H.le;refine bV.mk mixed Bg adu ajZ (by simp) ag.obj fun aN cT=>?_;unfold QF;simp[e1,hu,ax,cJ,au,H.slc,H.ssc];refine hH (fun i (lk:List α)=>⟨[(1,.int .i64 a),(2,.int .i64 b),(3,.int .i64 c),(4,.ptr (.loc 0) 0),(8,.int .i64 i)],[(.loc 0,[.func g lc,.func cb b5])]++(S lk).b,(S lk).e,1,cV (S l)⟩) c (fun i lk=>lk.length=n∧gw a (b+c) l lk∧∀k,lk[k]? =l[sp a b i k]?) l
  (iU.obL ag (Same.refl _) (by simp[aF]) (by simp[cJ,au,aF,aJ,AF (H.klc l aw),AF (H.ksc l aw)]) aT aT) ⟨aw,.refl _,fun k=>by simp[sp];split<;>(try split)<;>(try rfl)<;>(exfalso;omega)⟩ ?_ ?_
 ·rintro lk ⟨J,U,ar⟩ _;simp;refine cX.at (S lk) (.inr rfl) (H.ok lk) (H.same _ _ aw J) aT aT ?_;simp[c6,WX,aY,aZ,aW];exact⟨lk,rfl,U,ar⟩
 ·rintro i lk hi ⟨J,U,ar⟩ _;have ak:((a:Int)+i)=(a+i:Nat):=by omega
  have aC:((b:Int)+i)=(b+i:Nat):=by omega
  simp[hi,cJ,au,H.ssc];(with_reducible repeat' first|refine aj ?_|simp);rw[ak,aC];refine c9.ob (H.swap lk J (by omega) (a+i) (b+i) (by omega) (by omega)) (H.ok lk) aT aT (by simp[H.ksc lk J]) ?_;rintro r ai ⟨rfl,rfl⟩;refine⟨H.same _ _ J (by simp[J]),?_⟩;simp[gZ,iO,cz,au];(with_reducible repeat' first|refine aj ?_|simp);refine bT.rng (hl lk (a+i) (b+i)) hi ⟨by simp[J],.step U (by omega) (by omega) (by omega) (by omega) (by omega) (by omega),fun k=>?_⟩ (iU.obL (L:=[(.loc 0,[.func g lc,.func cb b5])]) (H.ok _) (H.same _ _ aw (by simp[J])) (by simp[aF]) (by simp[cJ,au,aF,aJ,AF (H.klc (hl lk (a+i) (b+i)) (by simp[J])),AF (H.ksc (hl lk (a+i) (b+i)) (by simp[J]))]) aT aT);rw[Ar _ _ _ _ (by omega) (by omega),ar,ar,ar];have:sp a b (i+1) k=if k=a+i then sp a b i (b+i)else if k=b+i then sp a b i (a+i)else sp a b i k:=by
   simp only[sp];repeat' split
   all_goals omega
  rw[this];split
  ·rfl
  ·split<;>rfl
section
variable (H:e7 S n g cb lc b5 lt)
include H
theorem e7.loc{l:List α}(m:Nat):Pv.look (.loc m) (S l).b=none:=(H.ok l).obj.1 m
theorem e7.weak{l lk:List α}(aw:l.length=n)(ad:lk.length=n){st:bs}{dE:List (Nat×ah)}(aL:∀x∈dE,Pv.get x.1 st.t=x.2∧aF (mh (S lk) 1) x.2)(bD:Pv.look (.loc 0) st.b=some [.func g lc,.func cb b5])
  (ae:∀k cs,Pv.look k (S lk).b=some cs→Pv.look k st.b=some cs) (he:∀k o,Pv.look k (S lk).e=some o→Pv.look k st.e=some o):
  iU (cV (S l)) st ⟨dE,(.loc 0,[.func g lc,.func cb b5])::(S lk).b,(S lk).e,1,cV (S l)⟩:=
 iU.obL (L:=[(.loc 0,[.func g lc,.func cb b5])]) (H.ok _) (H.same _ _ aw ad) aL (by simp[bD,aF,aJ,AF (H.klc lk ad),AF (H.ksc lk ad)]) ae he
theorem e7.weakC{l lk:List α}(aw:l.length=n)(ad:lk.length=n){t dE:List (Nat×ah)}{q:Nat}{o:List aH}(aL:∀x∈dE,Pv.get x.1 t=x.2∧aF (mh (S lk) 1) x.2):
  iU (cV (S l)) ⟨t,(.loc 0,[.func g lc,.func cb b5])::(S lk).b,(S lk).e,q,o⟩ ⟨dE,(.loc 0,[.func g lc,.func cb b5])::(S lk).b,(S lk).e,1,cV (S l)⟩:=
 H.weak aw ad aL (by simp[Pv.look]) (fun k cs ab=>by
  cases k with
  |loc m=>rw[H.loc m]at ab;cases ab
  |obj m=>simpa[Pv.look]using ab) (fun _ _ ab=>ab)
theorem e7.call{lk:List α}(J:lk.length=n){f:Nat}{args:List ah}{R:ah→List α→Prop}(aI:bV al f args (S lk) fun r ai=> ∃a1,ai=S a1∧R r a1)(bg:∀r a1,R r a1→a1.length=n)(ad:aJ (inObs (S lk)) args){t:List (Nat×ah)}{D:List ah}{o:List aH}{d:Option Nat}{K:bs→Prop}
  (h:∀r a1,R r a1→K ⟨eX d r t,(.loc 0,D)::(S a1).b,(S a1).e,1,o++cV (S a1)⟩):c9 al f args ⟨t,(.loc 0,D)::(S lk).b,(S lk).e,1,o⟩ d K:=by
 refine c9.ob aI (H.ok lk) (fun k cs ab=>?_) (fun _ _ ab=>ab) ad ?_
 ·cases k with
  |loc m=>rw[H.loc m]at ab;cases ab
  |obj m=>simpa[Pv.look]using ab
 ·rintro r ai ⟨a1,rfl,aM⟩;refine⟨H.same _ _ J (bg _ _ aM),?_⟩;have ak:cz (S lk).b ((.loc 0,D)::(S lk).b)=[(.loc 0,D)]:=by have:=iO (S lk).b [(aH.loc 0,D)] (S lk).b;rw[gZ]at this;simpa[cz,H.loc]using this
  have aC:cz (S lk).e (S lk).e=[]:=gZ _;have:=h _ _ aM;simp only[ak,aC];exact this
theorem e7.doSwap{lk:List α}(J:lk.length=n)(i j:Nat)(hi:i<n)(af:j<n)(U:2≤n){t:List (Nat×ah)}{D:List ah}{o:List aH}{d:Option Nat}{K:bs→Prop}
  (h:K ⟨eX d (.tuple []) t,(.loc 0,D)::(S (hl lk i j)).b,(S (hl lk i j)).e,1,o++cV (S (hl lk i j))⟩):c9 al cb (.int .i64 i:: .int .i64 j::b5) ⟨t,(.loc 0,D)::(S lk).b,(S lk).e,1,o⟩ d K:=
 H.call J (R:=fun r a1=>r= .tuple []∧a1=hl lk i j) ((H.swap lk J U i j hi af).mono fun r ai ⟨ak,aC⟩=>⟨_,aC,ak,rfl⟩) (fun r a1 ⟨_,e⟩=>by rw[e];simp[J]) (by simp[aF,aJ,H.ksc lk J]) (by rintro r a1 ⟨rfl,rfl⟩;exact h)
theorem e7.doLess{lk:List α}(J:lk.length=n)(i j:Nat){x y:α}(hi:lk[i]? =some x)(af:lk[j]? =some y){t:List (Nat×ah)}{D:List ah}{o:List aH}{d:Option Nat}{K:bs→Prop}
  (h:K ⟨eX d (.bool (lt x y)) t,(.loc 0,D)::(S lk).b,(S lk).e,1,o++cV (S lk)⟩):c9 al g (.int .i64 i:: .int .i64 j::lc) ⟨t,(.loc 0,D)::(S lk).b,(S lk).e,1,o⟩ d K:=
 H.call J (R:=fun r a1=>r= .bool (lt x y)∧a1=lk) ((H.less lk J i j x y hi af).mono fun r ai ⟨ak,aC⟩=>⟨_,aC,ak,rfl⟩) (fun r a1 ⟨_,e⟩=>by rw[e];exact J) (by simp[aF,aJ,H.klc lk J]) (by rintro r a1 ⟨rfl,rfl⟩;exact h)
theorem e7.doFn{lk:List α}(J:lk.length=n){f:Nat}{args:List ah}{R:List α→Prop}(aI:bV al f args (S lk) fun r ai=>r= .tuple []∧∃a1,ai=S a1∧R a1)(bg:∀a1,R a1→a1.length=n)(ad:aJ (inObs (S lk)) args){t:List (Nat×ah)}{D:List ah}{o:List aH}{d:Option Nat}{K:bs→Prop}
  (h:∀a1,R a1→K ⟨eX d (.tuple []) t,(.loc 0,D)::(S a1).b,(S a1).e,1,o++cV (S a1)⟩):c9 al f args ⟨t,(.loc 0,D)::(S lk).b,(S lk).e,1,o⟩ d K:=
 H.call J (R:=fun r a1=>r= .tuple []∧R a1) (aI.mono fun r ai ⟨ak,a1,aC,bk⟩=>⟨a1,aC,ak,bk⟩) (fun r a1 h=>bg a1 h.2) ad (by rintro r a1 ⟨rfl,aM⟩;exact h a1 aM)
theorem e7.kdata{lk:List α}(J:lk.length=n):aF (inObs (S lk)) (e1 g cb lc b5):=by simp[e1,aF,aJ,H.klc lk J,H.ksc lk J]
theorem e7.ret{l lk:List α}(aw:l.length=n)(J:lk.length=n){Q:ah→cL→Prop}{e:Exit}(he:e= .ret∨e= .normal){t:List (Nat×ah)}{D:List ah}{q:Nat}{o:List aH}(bh:Q (.tuple []) (S lk)):cX [] (S l) Q e ⟨t,(.loc 0,D)::(S lk).b,(S lk).e,q,o⟩:=by
 refine cX.at (S lk) he (H.ok lk) (H.same _ _ aw J) (fun k cs ab=>?_) (fun _ _ ab=>ab) ?_
 ·cases k with
  |loc m=>rw[H.loc m]at ab;cases ab
  |obj m=>simpa[Pv.look]using ab
 ·simp[c6,aY,aW,aF,aJ,bh]
end
theorem iy(H:e7 S n g cb lc b5 lt):dr (e1 g cb lc b5)=e1 g cb lc b5:=by simp[e1,dr,cW,H.slc,H.ssc]
theorem im:ah.agg [.func g lc,.func cb b5]=e1 g cb lc b5:=rfl
theorem aeK(H:e7 S n g cb lc b5 lt)(l:List α)(aw:l.length=n)(a m b:Nat)(Ci:a<m)(l9:m<b)(ae:b≤n):
  bV al 251 [e1 g cb lc b5,.int .i64 a,.int .i64 m,.int .i64 b] (S l) fun r ai=>r= .tuple []∧∃a1,ai=S a1∧gw a b l a1∧∀k,a1[k]? =l[h4 a m b k]?:=by
 have ag:=H.ok l;have au:∀l m,Pv.look (.loc m) (S l).b=none:=fun l=>(H.ok l).obj.1;have hu:∀l m cs,cB (.loc m) cs (S l).b=(S l).b++[(.loc m,cs)]:=fun l m cs=>j9 (au l m);have ax:∀m,aH.loc m∉cV (S l):=j4 ag.obj;have hle:=H.le;refine bV.mk mixed Bg adr ajW (by simp) ag.obj fun aN cT=>?_;unfold QC;simp[e1,hu,ax,cJ,au];(with_reducible repeat' first|refine aj ?_|simp[hu,ax,cJ,au]);refine oC (fun(x:(Nat×Nat)×List α)=>⟨[(2,.int .i64 m),(4,.ptr (.loc 0) 0),(8,.int .i64 x.1.1),(9,.int .i64 x.1.2)],(.loc 0,[.func g lc,.func cb b5])::(S x.2).b,(S x.2).e,1,cV (S l)⟩) (fun x=>x.1.1+x.1.2)
  (fun x=>x.2.length=n∧0<x.1.1∧0<x.1.2∧a+x.1.1≤m∧m+x.1.2≤b∧gw a b l x.2∧∀k,l[h4 a m b k]? =x.2[h4 (m-x.1.1) m (m+x.1.2) k]?) ((m-a,b-m),l)
  (H.weak aw aw (by simp[aF];omega) (by simp[cJ,au]) aT aT) ⟨aw,by simp;omega,by simp;omega,by simp;omega,by simp;omega,.refl _,fun k=>by simp[show m-(m-a)=a by omega,show m+(b-m)=b by omega]⟩ ?_
 rintro⟨⟨i,j⟩,lk⟩ ⟨J,hi,af,gq,FT,U,ar⟩ _;simp only at J hi af gq FT U ar;simp[Pv.look];((with_reducible repeat' first|refine aj ?_|simp[Pv.look]|((first|apply bK|apply bM|apply bL)<;>intro h<;>try simp at h))<;>(try exact cc))
 ·have ak:((m:Int)-i)=(m-i:Nat):=by omega
  simp only[iy H,H.slc,H.ssc,ak,im];refine H.doFn J (Kb H lk J (m-i) m j (by omega) (by omega)) (fun a1 h=>by rw[h.1.length];exact J) (by simp[aJ,aF,H.kdata J]) ?_;rintro a1 ⟨a7,bF⟩;have b0:a1.length=n:=by rw[a7.length];exact J
  simp;((with_reducible repeat' first|refine aj ?_|simp|((first|apply bK|apply bM|apply bL)<;>intro h<;>try simp at h))<;>(try exact cc));refine bT.whl ((i-j,j),a1) (by simp;omega) ⟨b0,by simp;omega,af,by simp;omega,FT,U.trans (a7.mono (by omega) (by omega)),fun k=>?_⟩ (H.weakC aw b0 (by simp[aF];omega));rw[ar,bF];congr 1;simp only[h4,sp];repeat' split
  all_goals omega
 ·have ak:((m:Int)-i)=(m-i:Nat):=by omega
  have aC:((m:Int)+j-i)=(m+j-i:Nat):=by omega
  simp only[iy H,H.slc,H.ssc,ak,aC,im];refine H.doFn J (Kb H lk J (m-i) (m+j-i) i (by omega) (by omega)) (fun a1 h=>by rw[h.1.length];exact J) (by simp[aJ,aF,H.kdata J]) ?_;rintro a1 ⟨a7,bF⟩;have b0:a1.length=n:=by rw[a7.length];exact J
  simp;(with_reducible repeat' first|refine aj ?_|simp);refine bT.whl ((i,j-i),a1) (by simp;omega) ⟨b0,hi,by simp;omega,gq,by simp;omega,U.trans (a7.mono (by omega) (by omega)),fun k=>?_⟩ (H.weakC aw b0 (by simp[aF];omega));rw[ar,bF];congr 1;simp only[h4,sp];repeat' split
  all_goals omega
 ·have ak:((m:Int)-i)=(m-i:Nat):=by omega
  simp only[iy H,H.slc,H.ssc,ak,im];refine H.doFn J (Kb H lk J (m-i) m i (by omega) (by omega)) (fun a1 h=>by rw[h.1.length];exact J) (by simp[aJ,aF,H.kdata J]) ?_;rintro a1 ⟨a7,bF⟩;have b0:a1.length=n:=by rw[a7.length];exact J
  simp;refine H.ret aw b0 (.inr rfl) ⟨rfl,a1,rfl,U.trans (a7.mono (by omega) (by omega)),fun k=>?_⟩;rw[ar,bF];congr 1;simp only[h4,sp];repeat' split
  all_goals omega
end Go.Proofs.YtahlgcidhnjlbaaGreat
namespace Go.Proofs.YtahlgcidhnjlbaaGreat
open Go Go.Pv
variable {α:Type} {S:List α→cL} {n g cb:Nat} {lc b5:List ah} {lt:α→α→Bool}
def tX(lt:α→α→Bool)(a b j:Nat)(l:List α):Prop:= ∀p q x y,a≤p→p<q→q<b→q≠j→l[p]? =some x→l[q]? =some y→lt y x=false
theorem tX.swap(bE:qy lt){a b j:Nat}{l:List α}(h:tX lt a b (j+1) l)(S6:a≤j)(FT:j+1<b)(af:j+1<l.length){x y:α}(ab:l[j+1]? =some x)(aG:l[j]? =some y)(hZ:lt x y=true):tX lt a b j (hl l (j+1) j):=by
 intro p q u v bQ kC bh aqv hu aK;rw[Ar _ _ _ _ af (by omega)]at hu aK;rw[if_neg (by omega:¬(q=j))]at aK;split at aK
 ·rename_i e;subst e;rw[aG]at aK;cases aK;split at hu
  ·omega
  ·split at hu
   ·rw[ab]at hu;cases hu;exact bE.asym _ _ hZ
   ·exact h p j u y bQ (by omega) (by omega) (by omega) hu aG
 ·split at hu
  ·rename_i e;subst e;rw[aG]at hu;cases hu;exact h j q y v S6 (by omega) bh (by omega) aG aK
  ·split at hu
   ·rename_i e;subst e;rw[ab]at hu;cases hu;exact h (p+1) q x v (by omega) (by omega) bh (by omega) ab aK
   ·exact h p q u v bQ kC bh (by omega) hu aK
theorem tX.done(bE:qy lt){a b j:Nat}{l:List α}(h:tX lt a b (j+1) l)(S6:a≤j)(FT:j+1<b){x y:α}(ab:l[j+1]? =some x)(aG:l[j]? =some y)(hZ:lt x y=false):fj lt a b l:=by
 intro p q u v bQ kC bh hu aK;by_cases e:q=j+1
 ·subst e;rw[ab]at aK;cases aK;by_cases aC:p=j
  ·subst aC;rw[aG]at hu;cases hu;exact hZ
  ·exact bE.ntr _ _ _ (h p j u y bQ (by omega) (by omega) (by omega) hu aG) hZ
 ·exact h p q u v bQ kC bh e hu aK
theorem tX.first{a b:Nat}{l:List α}(h:tX lt a b a l):fj lt a b l:=fun p q u v bQ kC bh hu aK=>h p q u v bQ kC bh (by omega) hu aK
theorem fj.but{a b:Nat}{l:List α}(h:fj lt a b l):tX lt a (b+1) b l:=fun p q u v bQ kC bh KQ hu aK=>h p q u v bQ kC (by omega) hu aK
theorem SE(H:e7 S n g cb lc b5 lt)(bE:qy lt)(l:List α)(aw:l.length=n)(a b:Nat)(nn:a≤b)(ae:b≤n):
  bV al 231 [e1 g cb lc b5,.int .i64 a,.int .i64 b] (S l) fun r ai=>r= .tuple []∧∃a1,ai=S a1∧gw a b l a1∧fj lt a b a1:=by
 have ag:=H.ok l;have au:∀l m,Pv.look (.loc m) (S l).b=none:=fun l=>(H.ok l).obj.1;have hu:∀l m cs,cB (.loc m) cs (S l).b=(S l).b++[(.loc m,cs)]:=fun l m cs=>j9 (au l m);have ax:∀m,aH.loc m∉cV (S l):=j4 ag.obj;have hle:=H.le;refine bV.mk mixed Bg Se V3 (by simp) ag.obj fun aN cT=>?_;unfold I8;simp[e1,hu,ax,cJ,au];(with_reducible repeat' first|refine aj ?_|simp[hu,ax,cJ,au]);refine oC (fun(x:Nat×List α)=>⟨[(1,.int .i64 a),(2,.int .i64 b),(3,.ptr (.loc 0) 0),(6,.int .i64 x.1)],(.loc 0,[.func g lc,.func cb b5])::(S x.2).b,(S x.2).e,1,cV (S l)⟩) (fun x=>b+1-x.1)
  (fun x=>x.2.length=n∧a<x.1∧x.1≤b+1∧(x.1≤b∨x.1=a+1)∧gw a b l x.2∧fj lt a x.1 x.2) (a+1,l)
  (H.weak aw aw (by simp[aF]) (by simp[cJ,au]) aT aT) ⟨aw,by simp,by simp;omega,.inr rfl,.refl _,fun i j x y J U ar=>by simp at ar;omega⟩ ?_
 rintro⟨i,lk⟩ ⟨J,np,zM,s6,U,ar⟩ _;simp only at J np zM s6 U ar;simp;((with_reducible repeat' first|refine aj ?_|simp|((first|apply bK|apply bM|apply bL)<;>intro h<;>try simp at h))<;>(try exact cc))
 ·refine oC (fun(x:Nat×List α)=>⟨[(1,.int .i64 a),(2,.int .i64 b),(3,.ptr (.loc 0) 0),(6,.int .i64 i),(7,.int .i64 x.1)],(.loc 0,[.func g lc,.func cb b5])::(S x.2).b,(S x.2).e,1,cV (S l)⟩) (fun x=>x.1)
   (fun x=>x.2.length=n∧a≤x.1∧x.1≤i∧gw a b l x.2∧tX lt a (i+1) x.1 x.2) (i,lk)
   (H.weakC aw J (by simp[aF])) ⟨J,by simp;omega,by simp,U,fj.but ar⟩ ?_
  rintro⟨j,C5⟩ ⟨aP,ahq,ahF,a6,bR⟩ _;simp only at aP ahq ahF a6 bR;simp[Pv.look];((with_reducible repeat' first|refine aj ?_|simp[Pv.look]|((first|apply bK|apply bM|apply bL)<;>intro h<;>try simp at h))<;>(try exact cc))
  ·obtain⟨dJ,rfl⟩:∃dJ,j=dJ+1:=⟨j-1,by omega⟩;obtain⟨x,ab⟩:∃x,C5[dJ+1]? =some x:=⟨_,cl (by omega)⟩;obtain⟨y,aG⟩:∃y,C5[dJ]? =some y:=⟨_,cl (by omega)⟩;have ak:(((dJ+1:Nat):Int)-1)=(dJ:Nat):=by omega
   rw[H.slc,ak];refine H.doLess aP (dJ+1) dJ ab aG ?_;simp;cases hZ:lt x y with
   |true=>
    simp[Pv.look];(with_reducible repeat' first|refine aj ?_|simp[Pv.look]);have bk:((dJ:Int)+1)=(dJ+1:Nat):=by omega
    rw[H.ssc,bk];refine H.doSwap aP (dJ+1) dJ (by omega) (by omega) (by omega) ?_;simp;(with_reducible repeat' first|refine aj ?_|simp);refine bT.whl (dJ,hl C5 (dJ+1) dJ) (by simp) ⟨by simp[aP],by simp;omega,by simp;omega,.step a6 (by omega) (by omega) (by omega) (by omega) (by omega) (by omega),bR.swap bE (by omega) (by omega) (by omega) ab aG hZ⟩ (H.weakC aw (by simp[aP]) (by simp[aF]))
   |false=>simp;((with_reducible repeat' first|refine aj ?_|simp|((first|apply bK|apply bM|apply bL)<;>intro h<;>try simp at h))<;>(try exact cc));refine bT.whl (i+1,C5) (by simp;omega) ⟨aP,by simp;omega,by simp;omega,by simp;omega,a6,bR.done bE (by omega) (by omega) ab aG hZ⟩ (H.weakC aw aP (by simp[aF]))
  ·obtain rfl:j=a:=by omega
   refine bT.whl (i+1,C5) (by simp;omega) ⟨aP,by simp;omega,by simp;omega,by simp;omega,a6,bR.first⟩ (H.weakC aw aP (by simp[aF]))
 ·refine H.ret aw J (.inr rfl) ⟨rfl,lk,rfl,U,fun p q x y bQ kC bh=>ar p q x y bQ kC (by omega)⟩
end Go.Proofs.YtahlgcidhnjlbaaGreat
namespace Go.Proofs.YtahlgcidhnjlbaaGreat
open Go Go.Pv
variable {α:Type} [Inhabited α] {S:List α→cL} {n g cb:Nat} {lc b5:List ah} {lt:α→α→Bool}
theorem y9{d:Array α}{i:Nat}(h:i<d.size):d.toList[i]? =some d[i]!:=by simp[getElem!_pos,h]
theorem GI(d:Array α){i j:Nat}(hi:i<d.size)(af:j<d.size):hl d.toList i j=(Sort.swp d i j).toList:=by simp[hl,Sort.swp,y9 hi,y9 af]
section
variable (H:e7 S n g cb lc b5 lt)
include H
theorem e7.swapA{d:Array α}(J:d.size=n)(U:2≤n)(i j:Nat)(hi:i<n)(af:j<n){t:List (Nat×ah)}{D:List ah}{o:List aH}{ca:Option Nat}{K:bs→Prop}
  (h:∀o,K ⟨eX ca (.tuple []) t,(.loc 0,D)::(S (Sort.swp d i j).toList).b,(S (Sort.swp d i j).toList).e,1,o⟩):c9 al cb (.int .i64 i:: .int .i64 j::b5) ⟨t,(.loc 0,D)::(S d.toList).b,(S d.toList).e,1,o⟩ ca K:=by
 refine H.doSwap (by simpa using J) i j hi af U ?_;rw[GI d (by omega) (by omega)];exact h _
theorem e7.lessA{d:Array α}(J:d.size=n)(i j:Nat)(hi:i<n)(af:j<n){t:List (Nat×ah)}{D:List ah}{o:List aH}{ca:Option Nat}{K:bs→Prop}
  (h:∀o,K ⟨eX ca (.bool (lt d[i]! d[j]!)) t,(.loc 0,D)::(S d.toList).b,(S d.toList).e,1,o⟩):c9 al g (.int .i64 i:: .int .i64 j::lc) ⟨t,(.loc 0,D)::(S d.toList).b,(S d.toList).e,1,o⟩ ca K:=
 H.doLess (by simpa using J) i j (y9 (by omega)) (y9 (by omega)) (h _)
theorem e7.fnA{d d2:Array α}(J:d.size=n)(U:d2.size=n){f:Nat}{args:List ah}{r:ah}(aI:bV al f args (S d.toList) fun eS ai=>eS=r∧ai=S d2.toList)(ad:aJ (inObs (S d.toList)) args){t:List (Nat×ah)}{D:List ah}{o:List aH}{ca:Option Nat}{K:bs→Prop}
  (h:∀o,K ⟨eX ca r t,(.loc 0,D)::(S d2.toList).b,(S d2.toList).e,1,o⟩):c9 al f args ⟨t,(.loc 0,D)::(S d.toList).b,(S d.toList).e,1,o⟩ ca K:=
 H.call (by simpa using J) (R:=fun eS a1=>eS=r∧a1=d2.toList) (aI.mono fun r ai ⟨ak,aC⟩=>⟨_,aC,ak,rfl⟩) (fun r a1 ⟨_,e⟩=>by rw[e];simpa using U) ad (by rintro eS a1 ⟨rfl,rfl⟩;exact h _)
end
section
variable (H:e7 S n g cb lc b5 lt)
include H
theorem e7.loopA{β:Type}{yg:List α}(aw:yg.length=n){t:List (Nat×ah)}{b:List (aH×List ah)}{e:List (aH×fL)}{q:Nat}{o:List aH}(cf:List Nat)(cs:β→List (Nat×ah))(A:β→Array α)(μ:β→Nat)(gV:β→Prop)(a0:β)(bm:(A a0).size=n)(bD:gV a0)
  (vP:Pv.look (.loc 0) b=some [.func g lc,.func cb b5]) (ae:∀k cs,Pv.look k (S (A a0).toList).b=some cs→Pv.look k b=some cs) (he:∀k o,Pv.look k (S (A a0).toList).e=some o→Pv.look k e=some o)
  (aL:∀x∈uP t cf++cs a0,Pv.get x.1 t=x.2∧aF (mh (S (A a0).toList) 1) x.2) {c:C} {Q:Exit→bs→Prop}
  (ag:∀a,gV a→c0 al (cV (S yg)) c (bT (cV (S yg)) (Bs (fun a=>⟨uP t cf++cs a,(.loc 0,[.func g lc,.func cb b5])::(S (A a).toList).b,(S (A a).toList).e,1,cV (S yg)⟩) μ gV) (μ a) Q) ⟨uP t cf++cs a,(.loc 0,[.func g lc,.func cb b5])::(S (A a).toList).b,(S (A a).toList).e,1,cV (S yg)⟩):
  c0 al (cV (S yg)) (.loop c) Q ⟨t,b,e,q,o⟩:=
 oC (fun a=>⟨uP t cf++cs a,(.loc 0,[.func g lc,.func cb b5])::(S (A a).toList).b,(S (A a).toList).e,1,cV (S yg)⟩) μ gV a0 (H.weak aw (by simpa using bm) aL vP ae he) bD fun a af _=>ag a af
theorem e7.callA0{lk:List α}(J:lk.length=n){f:Nat}{args:List ah}{R:ah→List α→Prop}(aI:bV al f args (S lk) fun r ai=> ∃a1,ai=S a1∧R r a1)(bg:∀r a1,R r a1→a1.length=n)(ad:aJ (inObs (S lk)) args){t:List (Nat×ah)}{D:List ah}{o:List aH}{d:Option Nat}{K:bs→Prop}
  (h:∀r a1,R r a1→∀o,K ⟨eX d r t,(.loc 0,D)::(S a1).b,(S a1).e,1,o⟩):c9 al f args ⟨t,(S lk).b++[(.loc 0,D)],(S lk).e,1,o⟩ d K:=by
 refine c9.ob aI (H.ok lk) (fun k cs ab=>by rw[cJ,ab]) (fun _ _ ab=>ab) ad ?_;rintro r ai ⟨a1,rfl,aM⟩;refine⟨H.same _ _ J (bg _ _ aM),?_⟩;have ak:cz (S lk).b ((S lk).b++[(.loc 0,D)])=[(.loc 0,D)]:=by rw[iO,gZ];simp[cz,H.loc]
 have aC:cz (S lk).e (S lk).e=[]:=gZ _;have:=h _ _ aM (o++cV (S a1));simp only[ak,aC];exact this
theorem e7.swapA0{d:Array α}(J:d.size=n)(U:2≤n)(i j:Nat)(hi:i<n)(af:j<n){t:List (Nat×ah)}{D:List ah}{o:List aH}{ca:Option Nat}{K:bs→Prop}
  (h:∀o,K ⟨eX ca (.tuple []) t,(.loc 0,D)::(S (Sort.swp d i j).toList).b,(S (Sort.swp d i j).toList).e,1,o⟩):c9 al cb (.int .i64 i:: .int .i64 j::b5) ⟨t,(S d.toList).b++[(.loc 0,D)],(S d.toList).e,1,o⟩ ca K:=by
 refine H.callA0 (by simpa using J) (R:=fun r a1=>r= .tuple []∧a1=(Sort.swp d i j).toList) ((H.swap d.toList (by simpa using J) U i j hi af).mono fun r ai ⟨ak,aC⟩=>⟨_,aC,ak,GI d (by omega) (by omega)⟩) (fun r a1 ⟨_,e⟩=>by rw[e];simp[Sort.swp,J]) (by simp[aF,aJ,H.ksc d.toList (by simpa using J)]) ?_;rintro r a1 ⟨rfl,rfl⟩ o;exact h o
theorem e7.retA{l:List α}{d:Array α}(aw:l.length=n)(J:d.size=n){Q:ah→cL→Prop}{e:Exit}(he:e= .ret∨e= .normal){t:List (Nat×ah)}{D:List ah}{q:Nat}{o:List aH}(bh:Q (.tuple []) (S d.toList)):cX [] (S l) Q e ⟨t,(.loc 0,D)::(S d.toList).b,(S d.toList).e,q,o⟩:=H.ret aw (by simpa using J) he bh
theorem e7.retR{eN:List bB}{l:List α}{d:Array α}(aw:l.length=n)(J:d.size=n){Q:ah→cL→Prop}{e:Exit}(he:e= .ret∨e= .normal){t:List (Nat×ah)}{D:List ah}{q:Nat}{o:List aH}(h:c6 ⟨t,(.loc 0,D)::(S d.toList).b,(S d.toList).e,q,o⟩ eN fun r=>aF (inObs (S d.toList)) r∧Q r (S d.toList)):cX eN (S l) Q e ⟨t,(.loc 0,D)::(S d.toList).b,(S d.toList).e,q,o⟩:=by
 refine cX.at (S d.toList) he (H.ok _) (H.same _ _ aw (by simpa using J)) (fun k cs ab=>?_) (fun _ _ ab=>ab) h;cases k with
 |loc m=>rw[H.loc m]at ab;cases ab
 |obj m=>simpa[Pv.look]using ab
end
theorem gO(d:Array α)(i j:Nat):(Sort.swp d i j).size=d.size:=by simp[Sort.swp]
end Go.Proofs.YtahlgcidhnjlbaaGreat
namespace Go.Proofs.YtahlgcidhnjlbaaGreat
open Go Go.Pv
def Qn:C:=(aa [bU 2 0] (.seq (.cond (.c (.bool false)) (aa [I 3 0,b9 4 (.conv .u32 (.t 3)),cA 5 236 4,I 2 5] .ret) .skip) (aa [I 6 0,cA 7 237 6,I 2 7] .ret)))
@[simp] def alE:List bB:=[.tmp 2]
def I9:C:=(aa [aS 91 2 4,I 92 1,I 93 2,I 94 11,c8 95 244 [.t 91,.t 92,.t 93,.t 94],I 90 95,cn 96 0 90,cn 97 1 90,I 14 96,I 15 97] (aa [I 98 15,I 9 98] (aa [I 99 14,I 100 1,bn 101 .sub 99 100,I 102 2,I 103 14,bn 104 .sub 102 103,I 16 101,I 17 104] (aa [I 105 10,aV 106 .quo 105 8,I 18 106] (aa [I 107 16,I 108 17,bn 109 .lss 107 108] (aU 109 (aa [I 110 16,I 111 18,bn 112 .geq 110 111,I 8 112] (aa [aS 113 2 4,I 114 1,I 115 14,I 116 3,c8 117 214 [.t 113,.t 114,.t 115,.t 116]] (.region [I 118 14,aV 119 .add 118 1,I 1 119]))) (aa [I 120 17,I 121 18,bn 122 .geq 120 121,I 8 122] (aa [aS 123 2 4,I 124 14,aV 125 .add 124 1,I 126 2,I 127 3,c8 128 214 [.t 123,.t 125,.t 126,.t 127]] (.region [I 129 14,I 2 129])))))))))
def BK:C:=(.seq (aa [I 73 1,aV 74 .gtr 73 0,I 75 74,aq 75 true (aB 76 0 1 4),aq 75 true (av 77 1 76),b6 75 true 78 1,aq 75 true (aV 79 .sub 78 1),b6 75 true 80 11,aq 75 true (gM 81 77 [.t 79,.t 80]),aq 75 true (cd 82 81),dD 83 75 82] (aU 83 (aa [aS 84 2 4,I 85 1,I 86 2,I 87 11,c8 88 243 [.t 84,.t 85,.t 86,.t 87],I 13 88] (aa [I 89 13,I 1 89] (.exit 1))) .skip)) I9)
def Ja:C:=(.seq (aa [I 61 8,I 62 61,b6 62 true 63 9,dD 64 62 63,I 65 64,b6 65 true 66 12,aq 65 true (aV 67 .eql 66 1),dD 68 65 67] (aU 68 (aa [aS 69 2 4,I 70 1,I 71 2,c8 72 242 [.t 69,.t 70,.t 71]] (aU 72 .ret .skip)) .skip)) BK)
def Jb:C:=(aa [aS 43 2 4,I 44 1,I 45 2,c8 46 240 [.t 43,.t 44,.t 45],I 42 46,cn 47 0 42,cn 48 1 42,I 11 47,I 12 48] (.seq (aa [I 49 12,aV 50 .eql 49 2] (aU 50 (aa [aS 51 2 4,I 52 1,I 53 2,c8 54 241 [.t 51,.t 52,.t 53]] (aa [I 55 2,aV 56 .sub 55 1,I 57 11,I 58 1,bn 59 .sub 57 58,bn 60 .sub 56 59,I 11 60] (.region [bU 12 1]))) .skip)) Ja))
def QA:C:=(aa [cw 4 0] (aa [bd 8 true] (aa [bd 9 true] (.block 0 (.loop (.block 1 (aa [I 19 2,I 20 1,bn 21 .sub 19 20,I 10 21] (.seq (aa [I 22 10,aV 23 .leq 22 12] (aU 23 (aa [aS 24 2 4,I 25 1,I 26 2,c8 27 231 [.t 24,.t 25,.t 26]] .ret) .skip)) (.seq (aa [I 28 3,aV 29 .eql 28 0] (aU 29 (aa [aS 30 2 4,I 31 1,I 32 2,c8 33 238 [.t 30,.t 31,.t 32]] .ret) .skip)) (.seq (aa [I 34 8,cd 35 34] (aU 35 (aa [aS 36 2 4,I 37 1,I 38 2,c8 39 239 [.t 36,.t 37,.t 38]] (.region [I 40 3,aV 41 .sub 40 1,I 3 41])) .skip)) Jb))))))))))
@[simp] def WW:List bB:=[]
@[simp] def asJ:List bB:=[.tmp 2]
def Qo:C:=(aa [bU 2 0] (.seq (aa [I 3 0,b9 4 (.bin .geq false (.t 3) (.c (.int .u64 4294967296)))] (aU 4 (aa [I 5 0,b9 6 (.bin .shr false (.t 5) (.c (.int .u64 32))),I 0 6] (.region [bU 2 32])) .skip)) (.seq (aa [I 7 0,b9 8 (.bin .geq false (.t 7) (.c (.int .u64 65536)))] (aU 8 (aa [I 9 0,b9 10 (.bin .shr false (.t 9) (.c (.int .u64 16))),I 0 10] (.region [I 11 2,aV 12 .add 11 16,I 2 12])) .skip)) (.seq (aa [I 13 0,b9 14 (.bin .geq false (.t 13) (.c (.int .u64 256)))] (aU 14 (aa [I 15 0,b9 16 (.bin .shr false (.t 15) (.c (.int .u64 8))),I 0 16] (.region [I 17 2,aV 18 .add 17 8,I 2 18])) .skip)) (aa [I 19 2,I 20 0,b9 21 (.conv .u8 (.t 20)),b9 22 (.sidx (.c (.str [0,1,2,2,3,3,3,3,4,4,4,4,4,4,4,4,5,5,5,5,5,5,5,5,5,5,5,5,5,5,5,5,6,6,6,6,6,6,6,6,6,6,6,6,6,6,6,6,6,6,6,6,6,6,6,6,6,6,6,6,6,6,6,6,7,7,7,7,7,7,7,7,7,7,7,7,7,7,7,7,7,7,7,7,7,7,7,7,7,7,7,7,7,7,7,7,7,7,7,7,7,7,7,7,7,7,7,7,7,7,7,7,7,7,7,7,7,7,7,7,7,7,7,7,7,7,7,7,8,8,8,8,8,8,8,8,8,8,8,8,8,8,8,8,8,8,8,8,8,8,8,8,8,8,8,8,8,8,8,8,8,8,8,8,8,8,8,8,8,8,8,8,8,8,8,8,8,8,8,8,8,8,8,8,8,8,8,8,8,8,8,8,8,8,8,8,8,8,8,8,8,8,8,8,8,8,8,8,8,8,8,8,8,8,8,8,8,8,8,8,8,8,8,8,8,8,8,8,8,8,8,8,8,8,8,8,8,8,8,8,8,8,8,8,8,8,8,8,8,8,8,8,8,8,8,8])) (.t 21)),b9 23 (.conv .i64 (.t 22)),bn 24 .add 19 23,I 2 24] .ret)))))
@[simp] def AX:List bB:=[.tmp 2]
def Qs:C:=(aa [cw 3 0] (aa [I 11 1,I 6 11] (aa [bU 7 0] (aa [I 12 2,I 13 1,bn 14 .sub 12 13,I 8 14] (.seq (aa [I 15 8,aV 16 .sub 15 1,aV 17 .quo 16 2,I 9 17] (.block 0 (.loop (.seq (aa [I 18 9,aV 19 .geq 18 0] (aU 19 .skip (.exit 0))) (.seq (.block 1 (.region [aS 22 2 3,I 23 9,I 24 8,I 25 6,c8 26 252 [.t 22,.t 23,.t 24,.t 25]])) (.region [I 20 9,aV 21 .sub 20 1,I 9 21])))))) (aa [I 27 8,aV 28 .sub 27 1,I 10 28] (.block 2 (.loop (.seq (aa [I 29 10,aV 30 .geq 29 0] (aU 30 .skip (.exit 2))) (.seq (.block 3 (aa [aB 33 1 1 3,av 34 1 33,I 35 6,I 36 6,I 37 10,bn 38 .add 36 37,gM 39 34 [.t 35,.t 38]] (.region [aS 40 2 3,I 41 7,I 42 10,I 43 6,c8 44 252 [.t 40,.t 41,.t 42,.t 43]]))) (.region [I 31 10,aV 32 .sub 31 1,I 10 32])))))))))))
@[simp] def alF:List bB:=[]
def Qq:C:=(aa [cw 3 0] (aa [I 11 2,I 12 1,bn 13 .sub 11 12,I 6 13] (aa [I 14 6,aV 15 .geq 14 8] (aU 15 (aa [I 16 6,b9 17 (.conv .u64 (.t 16)),c4 (.alloc 7 (some 902) (.int .u64 0)),bz 1 7 17] (aa [I 18 6,cA 19 253 18,I 8 19] (aa [I 20 1,I 21 6,aV 22 .quo 21 4,aV 23 .mul 22 2,bn 24 .add 20 23,aV 25 .sub 24 1,I 9 25] (.block 0 (.loop (.seq (aa [I 26 9,I 27 1,I 28 6,aV 29 .quo 28 4,aV 30 .mul 29 2,bn 31 .add 27 30,aV 32 .add 31 1,bn 33 .leq 26 32] (aU 33 .skip (.exit 0))) (.seq (.block 1 (aa [cA 36 254 7,I 37 8,b9 38 (.bin .sub true (.t 37) (.c (.int .u64 1))),bn 39 .and 36 38,b9 40 (.conv .i64 (.t 39)),I 10 40] (.seq (aa [I 41 10,I 42 6,bn 43 .geq 41 42] (aU 43 (.region [I 44 10,I 45 6,bn 46 .sub 44 45,I 10 46]) .skip)) (.region [aB 47 1 1 3,av 48 1 47,I 49 9,I 50 1,I 51 10,bn 52 .add 50 51,gM 53 48 [.t 49,.t 52]])))) (.region [I 34 9,aV 35 .add 34 1,I 9 35])))))))) .skip))))
@[simp] def WS:List bB:=[]
def Qr:C:=(aa [cw 3 0,bU 6 0,bU 7 0] (aa [I 13 2,I 14 1,bn 15 .sub 13 14,I 8 15] (aa [c4 (.alloc 9 (some 901) (.int .i64 0))] (aa [I 16 1,I 17 8,aV 18 .quo 17 4,aV 19 .mul 18 1,bn 20 .add 16 19,I 10 20] (aa [I 21 1,I 22 8,aV 23 .quo 22 4,aV 24 .mul 23 2,bn 25 .add 21 24,I 11 25] (aa [I 26 1,I 27 8,aV 28 .quo 27 4,aV 29 .mul 28 3,bn 30 .add 26 29,I 12 30] (.seq (aa [I 31 8,aV 32 .geq 31 8] (aU 32 (.seq (aa [I 33 8,aV 34 .geq 33 50] (aU 34 (aa [aS 35 2 3,I 36 10,c8 37 255 [.t 35,.t 36,.t 9],I 10 37] (aa [aS 38 2 3,I 39 11,c8 40 255 [.t 38,.t 39,.t 9],I 11 40] (.region [aS 41 2 3,I 42 12,c8 43 255 [.t 41,.t 42,.t 9],I 12 43]))) .skip)) (.region [aS 44 2 3,I 45 10,I 46 11,I 47 12,c8 48 256 [.t 44,.t 45,.t 46,.t 47,.t 9],I 11 48])) .skip)) (aa [av 49 1 9] (.block 0 (aa [aV 52 .eql 49 0,I 51 52] (aU 51 (aa [I 53 11,I 6 53,bU 7 1] .ret) (aa [aV 55 .eql 49 12,I 54 55] (aU 54 (aa [I 56 11,I 6 56,bU 7 2] .ret) (aa [I 50 11,I 6 50,bU 7 0] .ret))))))))))))))
@[simp] def MO:List bB:=[.tmp 6,.tmp 7]
def QB:C:=(aa [cw 3 0] (aa [I 8 1,I 6 8] (aa [I 9 2,aV 10 .sub 9 1,I 7 10] (.block 0 (.loop (.seq (aa [I 11 6,I 12 7,bn 13 .lss 11 12] (aU 13 .skip (.exit 0))) (.block 1 (aa [aB 14 1 1 3,av 15 1 14,I 16 6,I 17 7,gM 18 15 [.t 16,.t 17]] (aa [I 19 6,aV 20 .add 19 1,I 6 20] (.region [I 21 7,aV 22 .sub 21 1,I 7 22]))))))))))
@[simp] def alH:List bB:=[]
def Qx:C:=(aa [cw 3 0,bd 6 false] (aa [I 11 1,aV 12 .add 11 1,I 7 12] (.seq (aa [bU 8 0] (.block 0 (.loop (.seq (aa [I 13 8,aV 14 .lss 13 5] (aU 14 .skip (.exit 0))) (.seq (.block 1 (.seq (.block 2 (.loop (.seq (aa [I 17 7,I 18 2,bn 19 .lss 17 18,I 20 19,aq 20 true (aB 21 0 1 3),aq 20 true (av 22 1 21),b6 20 true 23 7,b6 20 true 24 7,aq 20 true (aV 25 .sub 24 1),aq 20 true (gM 26 22 [.t 23,.t 25]),aq 20 true (cd 27 26),dD 28 20 27] (aU 28 .skip (.exit 2))) (.block 3 (.region [I 29 7,aV 30 .add 29 1,I 7 30]))))) (.seq (aa [I 31 7,I 32 2,bn 33 .eql 31 32] (aU 33 (aa [bd 6 true] .ret) .skip)) (.seq (aa [I 34 2,I 35 1,bn 36 .sub 34 35,aV 37 .lss 36 50] (aU 37 (aa [bd 6 false] .ret) .skip)) (aa [aB 38 1 1 3,av 39 1 38,I 40 7,I 41 7,aV 42 .sub 41 1,gM 43 39 [.t 40,.t 42]] (.seq (aa [I 44 7,I 45 1,bn 46 .sub 44 45,aV 47 .geq 46 2] (aU 47 (aa [I 48 7,aV 49 .sub 48 1,I 9 49] (.block 4 (.loop (.seq (aa [I 50 9,aV 51 .geq 50 1] (aU 51 .skip (.exit 4))) (.seq (.block 5 (.seq (aa [aB 54 0 1 3,av 55 1 54,I 56 9,I 57 9,aV 58 .sub 57 1,gM 59 55 [.t 56,.t 58],cd 60 59] (aU 60 (.exit 4) .skip)) (.region [aB 61 1 1 3,av 62 1 61,I 63 9,I 64 9,aV 65 .sub 64 1,gM 66 62 [.t 63,.t 65]]))) (.region [I 52 9,aV 53 .sub 52 1,I 9 53])))))) .skip)) (aa [I 67 2,I 68 7,bn 69 .sub 67 68,aV 70 .geq 69 2] (aU 70 (aa [I 71 7,aV 72 .add 71 1,I 10 72] (.block 6 (.loop (.seq (aa [I 73 10,I 74 2,bn 75 .lss 73 74] (aU 75 .skip (.exit 6))) (.seq (.block 7 (.seq (aa [aB 78 0 1 3,av 79 1 78,I 80 10,I 81 10,aV 82 .sub 81 1,gM 83 79 [.t 80,.t 82],cd 84 83] (aU 84 (.exit 6) .skip)) (.region [aB 85 1 1 3,av 86 1 85,I 87 10,I 88 10,aV 89 .sub 88 1,gM 90 86 [.t 87,.t 89]]))) (.region [I 76 10,aV 77 .add 76 1,I 10 77])))))) .skip)))))))) (.region [I 15 8,aV 16 .add 15 1,I 8 16])))))) (aa [bd 6 false] .ret))))
@[simp] def Hm:List bB:=[.tmp 6]
def Qy:C:=(aa [cw 4 0,bU 8 0] (aa [aB 11 1 1 4,av 12 1 11,I 13 1,I 14 3,gM 15 12 [.t 13,.t 14]] (aa [I 16 1,aV 17 .add 16 1,I 18 2,aV 19 .sub 18 1,I 9 17,I 10 19] (.seq (.block 0 (.loop (.block 1 (.seq (.block 2 (.loop (.seq (aa [I 20 9,I 21 10,bn 22 .leq 20 21,I 23 22,aq 23 true (aB 24 0 1 4),aq 23 true (av 25 1 24),b6 23 true 26 1,b6 23 true 27 9,aq 23 true (gM 28 25 [.t 26,.t 27]),aq 23 true (cd 29 28),dD 30 23 29] (aU 30 .skip (.exit 2))) (.block 3 (.region [I 31 9,aV 32 .add 31 1,I 9 32]))))) (.seq (.block 4 (.loop (.seq (aa [I 33 9,I 34 10,bn 35 .leq 33 34,I 36 35,aq 36 true (aB 37 0 1 4),aq 36 true (av 38 1 37),b6 36 true 39 1,b6 36 true 40 10,aq 36 true (gM 41 38 [.t 39,.t 40]),dD 42 36 41] (aU 42 .skip (.exit 4))) (.block 5 (.region [I 43 10,aV 44 .sub 43 1,I 10 44]))))) (.seq (aa [I 45 9,I 46 10,bn 47 .gtr 45 46] (aU 47 (.exit 0) .skip)) (aa [aB 48 1 1 4,av 49 1 48,I 50 9,I 51 10,gM 52 49 [.t 50,.t 51]] (aa [I 53 9,aV 54 .add 53 1,I 9 54] (.region [I 55 10,aV 56 .sub 55 1,I 10 56]))))))))) (aa [I 57 9,I 8 57] .ret)))))
@[simp] def MQ:List bB:=[.tmp 8]
def Qz:C:=(aa [cw 4 0,bU 8 0,bd 9 false] (aa [aB 12 1 1 4,av 13 1 12,I 14 1,I 15 3,gM 16 13 [.t 14,.t 15]] (aa [I 17 1,aV 18 .add 17 1,I 19 2,aV 20 .sub 19 1,I 10 18,I 11 20] (.seq (.block 0 (.loop (.seq (aa [I 21 10,I 22 11,bn 23 .leq 21 22,I 24 23,aq 24 true (aB 25 0 1 4),aq 24 true (av 26 1 25),b6 24 true 27 10,b6 24 true 28 1,aq 24 true (gM 29 26 [.t 27,.t 28]),dD 30 24 29] (aU 30 .skip (.exit 0))) (.block 1 (.region [I 31 10,aV 32 .add 31 1,I 10 32]))))) (.seq (.block 2 (.loop (.seq (aa [I 33 10,I 34 11,bn 35 .leq 33 34,I 36 35,aq 36 true (aB 37 0 1 4),aq 36 true (av 38 1 37),b6 36 true 39 11,b6 36 true 40 1,aq 36 true (gM 41 38 [.t 39,.t 40]),aq 36 true (cd 42 41),dD 43 36 42] (aU 43 .skip (.exit 2))) (.block 3 (.region [I 44 11,aV 45 .sub 44 1,I 11 45]))))) (.seq (aa [I 46 10,I 47 11,bn 48 .gtr 46 47] (aU 48 (aa [aB 49 1 1 4,av 50 1 49,I 51 11,I 52 1,gM 53 50 [.t 51,.t 52]] (aa [I 54 11,I 8 54,bd 9 true] .ret)) .skip)) (aa [aB 55 1 1 4,av 56 1 55,I 57 10,I 58 11,gM 59 56 [.t 57,.t 58]] (aa [I 60 10,aV 61 .add 60 1,I 10 61] (aa [I 62 11,aV 63 .sub 62 1,I 11 63] (.seq (.block 4 (.loop (.block 5 (.seq (.block 6 (.loop (.seq (aa [I 64 10,I 65 11,bn 66 .leq 64 65,I 67 66,aq 67 true (aB 68 0 1 4),aq 67 true (av 69 1 68),b6 67 true 70 10,b6 67 true 71 1,aq 67 true (gM 72 69 [.t 70,.t 71]),dD 73 67 72] (aU 73 .skip (.exit 6))) (.block 7 (.region [I 74 10,aV 75 .add 74 1,I 10 75]))))) (.seq (.block 8 (.loop (.seq (aa [I 76 10,I 77 11,bn 78 .leq 76 77,I 79 78,aq 79 true (aB 80 0 1 4),aq 79 true (av 81 1 80),b6 79 true 82 11,b6 79 true 83 1,aq 79 true (gM 84 81 [.t 82,.t 83]),aq 79 true (cd 85 84),dD 86 79 85] (aU 86 .skip (.exit 8))) (.block 9 (.region [I 87 11,aV 88 .sub 87 1,I 11 88]))))) (.seq (aa [I 89 10,I 90 11,bn 91 .gtr 89 90] (aU 91 (.exit 4) .skip)) (aa [aB 92 1 1 4,av 93 1 92,I 94 10,I 95 11,gM 96 93 [.t 94,.t 95]] (aa [I 97 10,aV 98 .add 97 1,I 10 98] (.region [I 99 11,aV 100 .sub 99 1,I 11 100]))))))))) (aa [aB 101 1 1 4,av 102 1 101,I 103 11,I 104 1,gM 105 102 [.t 103,.t 104]] (aa [I 106 11,I 8 106,bd 9 false] .ret))))))))))))
@[simp] def DB:List bB:=[.tmp 8,.tmp 9]
def QD:C:=(aa [cw 4 0] (aa [I 10 1,I 8 10] (.block 0 (.loop (.block 1 (aa [I 11 8,b9 12 (.bin .mul false (fI 2) (.t 11)),aV 13 .add 12 1,I 9 13] (.seq (aa [I 14 9,I 15 2,bn 16 .geq 14 15] (aU 16 (.exit 0) .skip)) (.seq (aa [I 17 9,aV 18 .add 17 1,I 19 2,bn 20 .lss 18 19,I 21 20,aq 21 true (aB 22 0 1 4),aq 21 true (av 23 1 22),b6 21 true 24 3,b6 21 true 25 9,aq 21 true (bn 26 .add 24 25),b6 21 true 27 3,b6 21 true 28 9,aq 21 true (bn 29 .add 27 28),aq 21 true (aV 30 .add 29 1),aq 21 true (gM 31 23 [.t 26,.t 30]),dD 32 21 31] (aU 32 (.region [I 33 9,aV 34 .add 33 1,I 9 34]) .skip)) (.seq (aa [aB 35 0 1 4,av 36 1 35,I 37 3,I 38 8,bn 39 .add 37 38,I 40 3,I 41 9,bn 42 .add 40 41,gM 43 36 [.t 39,.t 42],cd 44 43] (aU 44 .ret .skip)) (aa [aB 45 1 1 4,av 46 1 45,I 47 3,I 48 8,bn 49 .add 47 48,I 50 3,I 51 9,bn 52 .add 50 51,gM 53 46 [.t 49,.t 52]] (.region [I 54 9,I 8 54])))))))))))
@[simp] def alJ:List bB:=[]
def Qv:C:=(aa [b9 2 (.mov (.c (.int .u64 0)))] (aa [I 4 0,b9 5 (.conv .u64 (.t 4)),cA 6 213 5,b9 7 (.conv .u64 (.t 6)),I 3 7] (aa [I 8 3,b9 9 (.bin .shl false (.c (.int .u64 1)) (.t 8)),I 2 9] .ret)))
@[simp] def WV:List bB:=[.tmp 2]
def QH:C:=(aa [b9 2 (.mov (.c (.int .u64 0)))] (.seq (.drawn true 33 [I 3 0,fD 4 3,av 5 1 4,I 6 0,fD 7 6,av 8 1 7,b9 9 (.bin .shl false (.t 8) (.c (.int .u64 13))),bn 10 .xor 5 9,fD 11 3,bz 1 11 10]) (.seq (.drawn true 33 [I 12 0,fD 13 12,av 14 1 13,I 15 0,fD 16 15,av 17 1 16,b9 18 (.bin .shr false (.t 17) (.c (.int .u64 7))),bn 19 .xor 14 18,fD 20 12,bz 1 20 19]) (.seq (.drawn true 33 [I 21 0,fD 22 21,av 23 1 22,I 24 0,fD 25 24,av 26 1 25,b9 27 (.bin .shl false (.t 26) (.c (.int .u64 17))),bn 28 .xor 23 27,fD 29 21,bz 1 29 28]) (aa [I 30 0,fD 31 30,av 32 1 31,I 2 32] .ret)))))
@[simp] def WY:List bB:=[.tmp 2]
def Qt:C:=(aa [cw 3 0,bU 6 0] (aa [aS 7 2 3,I 8 1,aV 9 .sub 8 1,I 10 1,I 11 1,aV 12 .add 11 1,I 13 2,c8 14 256 [.t 7,.t 9,.t 10,.t 12,.t 13],I 6 14] .ret))
@[simp] def WT:List bB:=[.tmp 6]
def Qu:C:=(aa [cw 5 0,bU 10 0] (aa [aS 12 2 5,I 13 1,I 14 2,I 15 4,c8 16 271 [.t 12,.t 13,.t 14,.t 15],I 11 16,cn 17 0 11,cn 18 1 11,I 1 17,I 2 18] (aa [aS 20 2 5,I 21 2,I 22 3,I 23 4,c8 24 271 [.t 20,.t 21,.t 22,.t 23],I 19 24,cn 25 0 19,cn 26 1 19,I 2 25,I 3 26] (aa [aS 28 2 5,I 29 1,I 30 2,I 31 4,c8 32 271 [.t 28,.t 29,.t 30,.t 31],I 27 32,cn 33 0 27,cn 34 1 27,I 1 33,I 2 34] (aa [I 35 2,I 10 35] .ret)))))
@[simp] def WU:List bB:=[.tmp 10]
def Qw:C:=(aa [cw 4 0,bU 8 0,bU 9 0] (.seq (aa [aB 10 0 1 4,av 11 1 10,I 12 2,I 13 1,gM 14 11 [.t 12,.t 13]] (aU 14 (aa [I 15 3,fD 16 15,av 17 1 16,aV 18 .add 17 1,fD 19 15,bz 1 19 18] (aa [I 20 2,I 21 1,I 8 20,I 9 21] .ret)) .skip)) (aa [I 22 1,I 23 2,I 8 22,I 9 23] .ret)))
@[simp] def MP:List bB:=[.tmp 8,.tmp 9]
def nK:List (Nat×dI):=[
 (3,⟨1,8,.int .i64,.int .i64 0⟩),
 (5,⟨1,1,.int .u8,.int .u8 0⟩),
 (9,⟨1,16,.str,.str []⟩),
 (143,⟨1,8,.other,.junk⟩),
 (181,⟨1,8,.other,.junk⟩),
 (185,⟨2,16,.struct [(0,143),(1,181)],.agg [.junk,.junk]⟩),
 (192,⟨1,8,.int .u64,.int .u64 0⟩),
 (206,⟨1,4,.int .u32,.int .u32 0⟩),
 (208,⟨1,8,.int .u64,.int .u64 0⟩),
 (222,⟨1,8,.int .u64,.int .u64 0⟩)]
theorem oa:fU al nK=true:=by kernel_rfl
theorem ajH:bY nK Qn alE 1 Tryz.f213=true:=by kernel_rfl
theorem ada:al.funcs[(213:Nat)]? =some Tryz.f213:=Tryz.func213
theorem ajU:bY nK QA WW 4 Tryz.f214=true:=by kernel_rfl
theorem adp:al.funcs[(214:Nat)]? =some Tryz.f214:=Tryz.func214
theorem ajI:bY nK Qo AX 1 Tryz.f237=true:=by kernel_rfl
theorem adb:al.funcs[(237:Nat)]? =some Tryz.f237:=Tryz.func237
theorem ajM:bY nK Qs alF 3 Tryz.f238=true:=by kernel_rfl
theorem adh:al.funcs[(238:Nat)]? =some Tryz.f238:=Tryz.func238
theorem ajK:bY nK Qq WS 3 Tryz.f239=true:=by kernel_rfl
theorem adf:al.funcs[(239:Nat)]? =some Tryz.f239:=Tryz.func239
theorem ajL:bY nK Qr MO 3 Tryz.f240=true:=by kernel_rfl
theorem adg:al.funcs[(240:Nat)]? =some Tryz.f240:=Tryz.func240
theorem ajV:bY nK QB alH 3 Tryz.f241=true:=by kernel_rfl
theorem adq:al.funcs[(241:Nat)]? =some Tryz.f241:=Tryz.func241
theorem ajR:bY nK Qx Hm 3 Tryz.f242=true:=by kernel_rfl
theorem adm:al.funcs[(242:Nat)]? =some Tryz.f242:=Tryz.func242
theorem ajS:bY nK Qy MQ 4 Tryz.f243=true:=by kernel_rfl
theorem adn:al.funcs[(243:Nat)]? =some Tryz.f243:=Tryz.func243
theorem ajT:bY nK Qz DB 4 Tryz.f244=true:=by kernel_rfl
theorem ado:al.funcs[(244:Nat)]? =some Tryz.f244:=Tryz.func244
theorem ajX:bY nK QD alJ 4 Tryz.f252=true:=by kernel_rfl
theorem ads:al.funcs[(252:Nat)]? =some Tryz.f252:=Tryz.func252
theorem ajP:bY nK Qv WV 1 Tryz.f253=true:=by kernel_rfl
theorem adk:al.funcs[(253:Nat)]? =some Tryz.f253:=Tryz.func253
theorem aj1:bY nK QH WY 1 Tryz.f254=true:=by kernel_rfl
theorem adw:al.funcs[(254:Nat)]? =some Tryz.f254:=Tryz.func254
theorem ajN:bY nK Qt WT 3 Tryz.f255=true:=by kernel_rfl
theorem adi:al.funcs[(255:Nat)]? =some Tryz.f255:=Tryz.func255
theorem ajO:bY nK Qu WU 5 Tryz.f256=true:=by kernel_rfl
theorem adj:al.funcs[(256:Nat)]? =some Tryz.f256:=Tryz.func256
theorem ajQ:bY nK Qw MP 4 Tryz.f271=true:=by kernel_rfl
theorem adl:al.funcs[(271:Nat)]? =some Tryz.f271:=Tryz.func271
end Go.Proofs.YtahlgcidhnjlbaaGreat
