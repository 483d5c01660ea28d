/- made by mk2.py: the code of the functions, and the checks against the program's own form. -/
import Derived.Test.YtahlgcidhnjlbaaGreatProg
import Derived.Shelf.Sort.Plain
import Derived.Ground.NamesProg
import Derived.Sort.OwnSortedInts
import Derived.Lib.OwnBridge
import Derived.Sort.AssemblyPlain
import Derived.Sort.LotD5
import Derived.Test.YtahlgcidhnjlbaaGreatY2
set_option linter.all false
set_option maxHeartbeats 4000000
open Bool renaming and_eq_true→cA,eq_iff_iff→pZ,false_eq_true→gP,or_eq_true→mB
open Go renaming Program→cC
open Go.IntKind renaming bits→nJ,signed→rP,u64→hb,wrap→rQ
open Go.IntWalk renaming i64_in→oC
open Go.Op renaming bytesLess→hk
open Go.Proofs.Tryz renaming prog→al
open Go.Value renaming cells→pc
open List renaming all_eq_true→jb,cons_append→bU,drop→nh,drop_eq_getElem_cons→k7,getElem?_eq_getElem→cf,getElem?_eq_none→p1,getElem?_eq_some_iff→fL,getElem_of_mem→ni,length_append→pd,length_cons→p2,length_drop→rS,map_cons→gE,mem_append→kx,mem_cons→fU,mem_filter→nj,mem_map→h8,mem_of_getElem?→eG,nil_append→bX,pairwise_cons→mC,pairwise_iff_getElem→pg,take_of_length_le→hl
open List.Nodup renaming length_le_of_subset→MK
open List.Pairwise renaming filter→Xd,imp_of_mem→amA,sublist→arW
open List.Perm renaming eq_of_pairwise→ML,swap→arX
open List.cons renaming injEq→p0
open Nat renaming le_refl→eR,le_trans→j4
open Ne renaming symm→kP
open Option renaming bind_eq_some_iff→lH,getD_none→kQ,getD_some→ky,map_eq_some_iff→gF,map_some→nM
open Option.some renaming inj→fB,injEq→dG
open Prod.mk renaming injEq→jj
open _root_ renaming False→eQ,Option→aY,UInt8→dz,beq_iff_eq→dL,congrArg→e5,decide_eq_false→jH,decide_eq_false_iff_not→hE,decide_eq_true→jk,decide_eq_true_eq→fH
namespace Go.Pv
open Go
structure bK where
 v:Int
 k:Int
 deriving DecidableEq,Inhabited
def bK.e(b:bK):ah:= .agg [.int .i64 b.v,.int .i64 b.k]
@[simp] theorem bK.eta(b:bK):bK.mk b.v b.k=b:=rfl
@[simp] theorem M4(v k:Int):ah.agg [.int .i64 v,.int .i64 k]=(bK.mk v k).e:=rfl
@[simp] theorem ao2(S:aH→Prop)(b:bK):aC S b.e=True:=by simp[bK.e,-M4]
@[simp] theorem arD(b:bK):ds b.e=b.e:=by simp[bK.e,-M4]
theorem S7(S:aH→Prop):∀l:List bK,aK S (l.map bK.e)
 |[]=>by simp[aK]
 |x::xs=>by simp[aK,S7 S xs]
@[simp] theorem aoL(S:aH→Prop)(l:List bK):aK S (l.map bK.e)=True:=eq_true (S7 S l)
@[simp] theorem L1:∀l:List bK,cY (l.map bK.e)=l.map bK.e
 |[]=>rfl
 |x::xs=>by simp[cY,L1 xs]
@[simp] theorem ara(b:bK):dY b.e=true:=rfl
@[simp] theorem ane(b:bK):cells b.e=[.int .i64 b.v,.int .i64 b.k]:=rfl
@[simp] theorem aot(b:bK):Pv.isAgg 2 b.e:=⟨_,rfl,rfl⟩
@[simp] theorem anO(off:Nat)(e1:Bool)(sz:Nat)(b:bK):qV off e1 sz b.e=if e1 then some (off+sz≤2,.agg (([.int .i64 b.v,.int .i64 b.k].drop off).take sz))else(([.int .i64 b.v,.int .i64 b.k]:List ah)[off]?).map fun p=>(True,p):=rfl
@[simp] theorem anE(off:Nat)(e1:Bool)(sz:Nat)(b:bK):pw off e1 sz (.eptr b.e)=if e1 then some (off+sz≤2,.eptr (.agg (([.int .i64 b.v,.int .i64 b.k].drop off).take sz)))else(([.int .i64 b.v,.int .i64 b.k]:List ah)[off]?).map fun p=>(dY p=true∧cells p=[p],.eptr p):=rfl
structure bk where
 v:Int
 s:List dz
 deriving DecidableEq,Inhabited
def bk.e(b:bk):ah:= .agg [.int .i64 b.v,.str b.s]
@[simp] theorem bk.eta(b:bk):bk.mk b.v b.s=b:=rfl
@[simp] theorem Hm(v:Int)(s:List dz):ah.agg [.int .i64 v,.str s]=(bk.mk v s).e:=rfl
@[simp] theorem afq(S:aH→Prop)(b:bk):aC S b.e=True:=by simp[bk.e,-Hm]
@[simp] theorem arH(b:bk):ds b.e=b.e:=by simp[bk.e,-Hm]
theorem J2(S:aH→Prop):∀l:List bk,aK S (l.map bk.e)
 |[]=>by simp[aK]
 |x::xs=>by simp[aK,J2 S xs]
@[simp] theorem S9(S:aH→Prop)(l:List bk):aK S (l.map bk.e)=True:=eq_true (J2 S l)
@[simp] theorem L2:∀l:List bk,cY (l.map bk.e)=l.map bk.e
 |[]=>rfl
 |x::xs=>by simp[cY,L2 xs]
@[simp] theorem arf(b:bk):dY b.e=true:=rfl
@[simp] theorem ani(b:bk):cells b.e=[.int .i64 b.v,.str b.s]:=rfl
@[simp] theorem aov(b:bk):Pv.isAgg 2 b.e:=⟨_,rfl,rfl⟩
@[simp] theorem anP(off:Nat)(e1:Bool)(sz:Nat)(b:bk):qV off e1 sz b.e=if e1 then some (off+sz≤2,.agg (([.int .i64 b.v,.str b.s].drop off).take sz))else(([.int .i64 b.v,.str b.s]:List ah)[off]?).map fun p=>(True,p):=rfl
@[simp] theorem anF(off:Nat)(e1:Bool)(sz:Nat)(b:bk):pw off e1 sz (.eptr b.e)=if e1 then some (off+sz≤2,.eptr (.agg (([.int .i64 b.v,.str b.s].drop off).take sz)))else(([.int .i64 b.v,.str b.s]:List ah)[off]?).map fun p=>(dY p=true∧cells p=[p],.eptr p):=rfl
def e9(x y:bk):Int:=if ev x.v y.v=0 then kr x.s y.s else ev x.v y.v
theorem lz:jl e9:=by
 refine⟨fun x y=>?_,fun x y z J U=>?_,fun x y=>?_⟩
 ·unfold e9;have:=j1.neg x.v y.v;have:=CA.neg x.s y.s;by_cases e:ev x.v y.v=0
  ·rw[if_pos e,if_pos (by omega)];omega
  ·rw[if_neg e,if_neg (by omega)];omega
 ·unfold e9 at J U⊢;by_cases ak:ev x.v y.v=0
  ·rw[if_pos ak]at J;rw[(j1.zero _ _).1 ak];by_cases aB:ev y.v z.v=0
   ·rw[if_pos aB]at U⊢;exact CA.tr _ _ _ J U
   ·rw[if_neg aB]at U⊢;exact U
  ·rw[if_neg ak]at J;have bC:ev x.v y.v<0:=by omega
   by_cases aB:ev y.v z.v=0
   ·rw[←(j1.zero _ _).1 aB,if_neg ak];exact J
   ·rw[if_neg aB]at U;have:=j1.ltr bC U;rw[if_neg (by omega)];omega
 ·unfold e9;by_cases e:ev x.v y.v=0
  ·rw[if_pos e,CA.zero];have:=(j1.zero _ _).1 e;cases x;cases y;simp_all
  ·rw[if_neg e];exact⟨fun h=>absurd h e,fun h=>by rw[h]at e;exact absurd (j1.refl _) e⟩
def sD(x y:bk):Bool:=decide (x.v<y.v)||(x.v==y.v&&hk x.s y.s)
theorem X3(a:List dz):hk a a=false:=by
 cases h:hk a a with
 |false=>rfl
 |true=>rw[Hs a a h]at h;cases h
theorem TT(x y:bk):sD x y=hA e9 x y:=by
 unfold sD hA e9;rw[pZ];simp only[mB,fH,cA,dL];by_cases e:x.v=y.v
 ·have:ev x.v y.v=0:=(j1.zero _ _).2 e;rw[if_pos this];simp only[e,Int.lt_irrefl,false_or,true_and,kr];by_cases aB:x.s=y.s
  ·rw[if_pos aB,aB,X3];simp
  ·rw[if_neg aB];split<;>simp_all
 ·have bA:¬ev x.v y.v=0:=fun h=>e ((j1.zero _ _).1 h);rw[if_neg bA];simp only[e,false_and,or_false];unfold ev;(repeat' split)<;>omega
def h0{α:Type}(p:α→Prop)(r:α→α→Prop)(l:List α)(i:Nat):Prop:= ∀b,l[i]? =some b→p b∧∀c,0<i→l[i-1]? =some c→r c b
theorem M0{α:Type}{p:α→Prop}{r:α→α→Prop}(aN:∀a b c,r a b→r b c→r a c){l:List α}:(∀i,i<l.length→h0 p r l i)↔(∀b∈l,p b)∧l.Pairwise r:=by
 constructor
 ·intro h;refine⟨fun b ae=>?_,?_⟩
  ·obtain⟨i,hi,e⟩:=ni ae;exact(h i hi b (by rw[cf hi,e])).1
  ·rw[pg];have jv:∀i (h:i+1<l.length),r l[i] l[i+1]:=fun i hi=>(h (i+1) hi l[i+1] (by simp[cf hi])).2 l[i] (by omega) (by simp[cf (show i<l.length by omega)]);have:∀(d i:Nat) (h:i+d+1<l.length),r l[i] l[i+d+1]:=by
    intro d;induction d with
    |zero=>intro i h;exact jv i h
    |succ d bT=>intro i h;exact aN _ _ _ (bT i (by omega)) (jv (i+d+1) (by omega))
   intro i j hi af lR;have:=this (j-i-1) i (by omega);simpa[show i+(j-i-1)+1=j from by omega]using this
 ·rintro⟨J,U⟩ i hi b ae;refine⟨J b (eG ae),fun c bA ax=>?_⟩;obtain⟨g1,ak⟩:=fL.1 ax;obtain⟨g2,aB⟩:=fL.1 ae;have:=pg.1 U (i-1) i g1 g2 (by omega);rw[ak,aB]at this;exact this
def jZ{α:Type}(c:α→α→Int)(x:α):List α→List α
 |[]=>[x]
 |y::l=>if c y x<0 then y::jZ c x l else if c y x=0 then y::l else x::y::l
section
variable {α:Type} {c:α→α→Int}
theorem Fu(ax:jl c){x z:α}:∀{l:List α},z∈jZ c x l↔z=x∨z∈l
 |[]=>by simp[jZ]
 |y::l=>by
  simp only[jZ];split
  ·simp only[fU,Fu ax (l:=l)];constructor
   ·rintro(h|h|h)
    ·exact .inr (.inl h)
    ·exact .inl h
    ·exact .inr (.inr h)
   ·rintro(h|h|h)
    ·exact .inr (.inl h)
    ·exact .inl h
    ·exact .inr (.inr h)
  ·split
   ·rename_i h;obtain rfl:=(ax.zero _ _).1 h;simp
   ·simp
theorem JN(ax:jl c){x:α}:∀{l:List α},hF c l→hF c (jZ c x l)
 |[],_=>by simp[jZ,hF]
 |y::l,h=>by
  obtain⟨J,U⟩:=mC.1 h;simp only[jZ];split
  ·rename_i ao;refine mC.2 ⟨fun z bD=>?_,JN ax U⟩;rcases(Fu ax).1 bD with rfl|bD
   ·exact ao
   ·exact J z bD
  ·split
   ·exact h
   ·rename_i ao a8;have hJ:c x y<0:=by have:=ax.neg x y;omega
    refine mC.2 ⟨fun z bD=>?_,h⟩;rcases fU.1 bD with rfl|bD
    ·exact hJ
    ·exact ax.ltr hJ (by have:=J z bD;omega)
theorem JP(x:α):∀l:List α,(jZ c x l).length≤l.length+1
 |[]=>by simp[jZ]
 |y::l=>by
  have:=JP x l;simp only[jZ];split
  ·simp;omega
  ·split<;>simp
theorem JO(ax:jl c)(x:α):∀(l:List α) (k:Nat),(∀i y,i<k→l[i]? =some y→c y x<0)→(∀y,l[k]? =some y→0≤c y x)→k≤l.length→jZ c x l=if(match l[k]? with|some y=>decide (c y x=0)|none=>false)=true then l else l.take k++x::l.drop k
 |[],k,_,_,ad=>by simp at ad;subst ad;simp[jZ]
 |y::l,0,_,U,_=>by
  have:=U y rfl;by_cases e:c y x=0
  ·simp[jZ,e]
  ·have ao:¬c y x<0:=by omega
   simp[jZ,ao,e]
 |y::l,k+1,J,U,ad=>by
  have bA:=J 0 y (by omega) rfl;simp only[jZ,if_pos bA,List.take_succ_cons,List.drop_succ_cons,bU,List.getElem?_cons_succ];rw[JO ax x l k (fun i d hi aQ=>J (i+1) d (by omega) (by simpa using aQ)) (fun d aQ=>U d (by simpa using aQ)) (by simpa using ad)];cases l[k]? with
  |none=>rfl
  |some z=>simp only[];split<;>rfl
end
structure iU (l:List bK):Prop where
 at':∀x∈l,(0≤x.v∧x.v≤100000)∧(x.k=2∨x.k=3)
 asc:l.Pairwise fun x y=>x.v<y.v
def k0(l:List bK)(v:Int):aY Int:=(l.find? fun x=>x.v==v).map (·.k)
def lu(x:bK):List bK→List bK
 |[]=>[x]
 |y::l=>if y.v<x.v then y::lu x l else x::y::l
theorem Fv{x z:bK}:∀{l:List bK},z∈lu x l↔z=x∨z∈l
 |[]=>by simp[lu]
 |y::l=>by
  simp only[lu];split
  ·simp only[fU,Fv (l:=l)];constructor
   ·rintro(h|h|h)
    ·exact .inr (.inl h)
    ·exact .inl h
    ·exact .inr (.inr h)
   ·rintro(h|h|h)
    ·exact .inr (.inl h)
    ·exact .inl h
    ·exact .inr (.inr h)
  ·simp
theorem JQ(x:bK):∀l:List bK,(lu x l).Perm (x::l)
 |[]=>.refl _
 |y::l=>by
  simp only[lu];split
  ·exact((JQ x l).cons y).trans (arX _ _ _)
  ·exact .refl _
theorem EY{x:bK}:∀{l:List bK},l.Pairwise (fun x y=>x.v<y.v)→(∀y∈l,y.v≠x.v)→(lu x l).Pairwise fun x y=>x.v<y.v
 |[],_,_=>by simp[lu]
 |y::l,h,aA=>by
  obtain⟨J,U⟩:=mC.1 h;have aG:=aA y (by simp);simp only[lu];split
  ·rename_i ao;refine mC.2 ⟨fun z bD=>?_,EY U fun z bD=>aA z (by simp[bD])⟩;rcases Fv.1 bD with rfl|bD
   ·exact ao
   ·exact J z bD
  ·refine mC.2 ⟨fun z bD=>?_,h⟩;rcases fU.1 bD with rfl|bD
   ·omega
   ·have:=J z bD;omega
theorem Sw(x:bK):∀(l:List bK) (k:Nat),(∀i y,i<k→l[i]? =some y→y.v<x.v)→(∀y,l[k]? =some y→¬y.v<x.v)→k≤l.length→lu x l=l.take k++x::l.drop k
 |[],k,_,_,ad=>by simp at ad;subst ad;rfl
 |y::l,0,_,U,_=>by have:=U y rfl;simp[lu,this]
 |y::l,k+1,J,U,ad=>by have bA:=J 0 y (by omega) rfl;simp only[lu,if_pos bA,List.take_succ_cons,List.drop_succ_cons,bU];rw[Sw x l k (fun i d hi aQ=>J (i+1) d (by omega) (by simpa using aQ)) (fun d aQ=>U d (by simpa using aQ)) (by simpa using ad)]
theorem SN{l a1:List bK}(bJ:a1.Perm l)(aQ:l.Pairwise fun x y=>x.v<y.v)(ag:a1.Pairwise fun x y=>decide (y.v<x.v)=false):a1=l:=by
 refine ML (le:=fun x y:bK=>x.v≤y.v) (fun x y ab aG J U=>?_) (ag.imp (by simp)) (aQ.imp (by omega)) bJ;have h3:x∈l:=bJ.mem_iff.1 ab;have ri:y∈l:=aG;obtain⟨i,hi,rfl⟩:=ni h3;obtain⟨j,af,rfl⟩:=ni ri;have:=pg.1 aQ;rcases Nat.lt_trichotomy i j with h|h|h
 ·have:=this i j hi af h;omega
 ·subst h;rfl
 ·have:=this j i af hi h;omega
theorem xq{l:List bK}{v:Int}:k0 l v=none↔∀x∈l,x.v≠v:=by simp[k0]
theorem SY{l:List bK}{v k:Int}(h:k0 l v=some k):(⟨v,k⟩:bK)∈l:=by unfold k0 at h;rw[gF]at h;obtain⟨x,J,rfl⟩:=h;have U:=List.find?_some J;simp at U;subst U;exact List.mem_of_find?_eq_some J
theorem Fb{l:List bK}(bF:l.Pairwise fun x y=>x.v<y.v){x:bK}(h:x∈l):k0 l x.v=some x.k:=by
 induction l with
 |nil=>simp at h
 |cons y l bT=>
  obtain⟨J,U⟩:=mC.1 bF;rcases fU.1 h with rfl|h
  ·simp[k0]
  ·have:=J x h;have e:=bT U h;unfold k0 at e⊢;rw[List.find?_cons_of_neg (by simp;omega)];exact e
def j7(l:List bK)(t:T)(k:Int):aY (List bK):=match t with
 | .var n=>match k0 l n with
  |some bM=>if bM=k then some l else none
  |none=>some (lu ⟨n,k⟩ l)
 |t=>if t.kind=k then some l else none
theorem Hg{l a1:List bK}{t:T}{k:Int}(h:iU l)(aN:t.ok=true)(ad:k=2∨k=3)(he:j7 l t k=some a1):iU a1:=by
 unfold j7 at he;split at he
 ·rename_i n;split at he
  ·split at he
   ·cases he;exact h
   ·cases he
  ·rename_i aA;cases he;rw[xq]at aA;refine⟨fun x ab=>?_,EY h.asc aA⟩;rcases Fv.1 ab with rfl|ab
   ·exact⟨by simpa[T.ok]using aN,ad⟩
   ·exact h.at' x ab
 ·split at he
  ·cases he;exact h
  ·cases he
theorem su{l:List bK}(h:iU l):l.length≤100001:=by
 have J:(l.map (·.v)).Nodup:=by rw[List.nodup_iff_pairwise_ne,List.pairwise_map];exact h.asc.imp fun h e=>by omega
 have:=SV J fun v aJ=>by obtain⟨x,ab,rfl⟩:=h8.1 aJ;exact(h.at' x ab).1
 simpa using this
def ga(s:List ar):List bK→List bK→aY (List bK)
 |[],acc=>some acc
 |x::r,acc=>match j7 acc (cB s x.v) x.k with
  |some a=>ga s r a
  |none=>none
structure hB (l:List bk):Prop where
 at':∀x∈l,(0≤x.v∧x.v≤100000)∧jw x.s=true
 asc:hF e9 l
def _root_.Go.Pv.T.has(s:List dz):T→Bool
 | .sym n=>n==s
 | .pair a b=>a.has s||b.has s
 |_=>false
def lJ(l:List bk)(t:T)(s:List dz):aY (List bk):=if t.has s then none else some (asc e9 (l++(ng t).map fun v=>⟨v,s⟩))
theorem De{t:T}{v:Int}:v∈ng t↔t.occ v=true:=by
 refine⟨fun h=>?_,xz⟩;induction t with
 |var n=>simp[ng]at h;simp[T.occ,h]
 |pair a b dR dS=>simp only[ng,kx]at h;simp only[T.occ,mB];exact h.imp dR dS
 |_=>simp[ng]at h
theorem Cj{l a1:List bk}{t:T}{s:List dz}(h:lJ l t s=some a1)(x:bk):x∈a1↔x∈l∨(x.s=s∧t.occ x.v=true):=by
 unfold lJ at h;split at h
 ·cases h
 ·cases h;rw[TE,kx,h8];refine or_congr_right ?_;constructor
  ·rintro⟨v,aJ,rfl⟩;exact⟨rfl,De.1 aJ⟩
  ·rintro⟨J,U⟩;exact⟨x.v,De.2 U,by rw[←J]⟩
theorem Hh{l a1:List bk}{t:T}{s:List dz}(cO:t.has s=false)(bF:hF e9 a1)(hm:∀x,x∈a1↔x∈l∨(x.s=s∧t.occ x.v=true)):lJ l t s=some a1:=by
 have h:lJ l t s=some (asc e9 (l++(ng t).map fun v=>⟨v,s⟩)):=by unfold lJ;rw[cO];rfl
 rw[h];congr 1;exact(Hn lz _).ext lz bF fun x=>by rw[hm,←Cj h]
theorem Hi{l a1:List bk}{t:T}{s:List dz}(h:hB l)(aN:t.ok=true)(ag:jw s=true)(he:lJ l t s=some a1):hB a1:=by
 refine⟨fun x ab=>?_,?_⟩
 ·rcases(Cj he x).1 ab with J|⟨J,U⟩
  ·exact h.at' x J
  ·exact⟨v8 aN U,by rw[J];exact ag⟩
 ·unfold lJ at he;split at he
  ·cases he
  ·cases he;exact Hn lz _
def gb(s:List ar):List bk→List bk→aY (List bk)
 |[],acc=>some acc
 |x::r,acc=>match lJ acc (cB s x.v) x.s with
  |some a=>gb s r a
  |none=>none
end Go.Pv
namespace Go.Proofs.YtahlgcidhnjlbaaGreat
open Go Go.Pv
def NL:C:=(aa [cz 1 0,be 2 false] (aa [aV 3 4 1,dp 4 131 [.t 3,(gd 5000)],aU 5 .gtr 4 0,I 2 5] .ret))
@[simp] def UJ:List bs:=[.tmp 2]
@[simp] def ap9:List bs:=[.tmp 2]
def Ob:C:=(aa [c1 (.box 2 (some 201) (.t 0)),cz 3 1,dj 4 dP,be 5 false] (aa [aV 6 4 3,b5 7 (.mkf 138 [.t 2]),ca 8 137 6 7,cD 9 0 8,cD 10 1 8,bL 4 4 9,I 5 10] .ret))
@[simp] def U0:List bs:=[.cell 4 true 4,.tmp 5]
def Pf:C:=(aa [dj 2 dP] (aa [I 3 0,iq 4 dP [(0,1,(gd 1)),(1,1,(.t 3))],bL 4 2 4] .ret))
@[simp] def ajC:List bs:=[.cell 2 true 4]
def yt:C:=(aa [cz 1 0,dj 2 dP] (aa [aF 6 0 1 1,av 7 1 6,aF 8 1 1 1,av 9 1 8,aF 10 2 1 1,av 11 1 10,iq 12 dP [(0,1,(.t 7)),(1,1,(.t 9)),(2,1,(.t 11))],dj 3 dP,bL 4 3 12] (.seq (aa [aF 13 3 1 1,av 14 1 13,cl 15 14,bW 16 0] (ft 17 16 15 (.seq (.block 1 (aa [cu 18 4 14 16,aV 19 4 18,dj 5 dP,bL 4 5 19] (.drawn true 29 [aF 20 3 1 3,av 21 1 20,aV 22 4 5,cE 23 130 22,ek 24 4 30 [.t 23],gO 25 4 30 21 24,aF 26 3 1 3,bL 1 26 25]))) (.region [aU 27 .add 16 1,I 16 27])))) (aa [aV 28 4 3,bL 4 2 28] .ret))))
@[simp] def ajB:List bs:=[.cell 2 true 4]
def N7:C:=(aa [cz 2 0,bW 4 0] (.seq (aa [I 7 1,aU 8 .lss 7 1] (aS 8 (aa [bW 4 (-1)] .ret) .skip)) (.seq (aa [aF 9 0 1 2,av 10 1 9,aU 11 .neq 10 4] (aS 11 (.seq (aa [aF 12 3 1 2,av 13 1 12,cl 14 13,aU 15 .neq 14 0] (aS 15 (aa [bW 4 (-1)] .ret) .skip)) (.seq (aa [aF 16 0 1 2,av 17 1 16] (.block 0 (aa [aU 19 .eql 17 0,I 18 19] (aS 18 (aa [aF 20 1 1 2,av 21 1 20,aU 22 .neq 21 0,I 23 22,aq 23 false (aF 24 2 1 2),aq 23 false (av 25 1 24),wc 23 false 26 (.bin .neq false (.t 25) (.c (.str []))),c6 27 23 26] (aS 27 (aa [bW 4 (-1)] .ret) .skip)) (aa [aU 29 .eql 17 1,I 28 29] (aS 28 (aa [aF 30 1 1 2,av 31 1 30,aU 32 .lss 31 0,I 33 32,aq 33 false (aF 34 1 1 2),aq 33 false (av 35 1 34),aq 33 false (aU 36 .gtr 35 100000),c6 37 33 36,I 38 37,aq 38 false (aF 39 2 1 2),aq 38 false (av 40 1 39),wc 38 false 41 (.bin .neq false (.t 40) (.c (.str []))),c6 42 38 41] (aS 42 (aa [bW 4 (-1)] .ret) .skip)) (aa [aU 44 .eql 17 2,I 43 44] (aS 43 (aa [aF 45 1 1 2,av 46 1 45,aU 47 .neq 46 0,I 48 47,aq 48 false (aF 49 2 1 2),aq 48 false (av 50 1 49),aq 48 false (cE 51 160 50),aq 48 false (cw 52 51),c6 53 48 52] (aS 53 (aa [bW 4 (-1)] .ret) .skip)) (aa [aU 55 .eql 17 3,I 54 55] (aS 54 (aa [aF 56 1 1 2,av 57 1 56,aU 58 .lss 57 (-1000000000),I 59 58,aq 59 false (aF 60 1 1 2),aq 59 false (av 61 1 60),aq 59 false (aU 62 .gtr 61 1000000000),c6 63 59 62,I 64 63,aq 64 false (aF 65 2 1 2),aq 64 false (av 66 1 65),wc 64 false 67 (.bin .neq false (.t 66) (.c (.str []))),c6 68 64 67] (aS 68 (aa [bW 4 (-1)] .ret) .skip)) (aa [bW 4 (-1)] .ret))))))))))) (aa [bW 4 1] .ret))) .skip)) (.seq (aa [aF 69 1 1 2,av 70 1 69,aU 71 .neq 70 0,I 72 71,aq 72 false (aF 73 2 1 2),aq 72 false (av 74 1 73),wc 72 false 75 (.bin .neq false (.t 74) (.c (.str []))),c6 76 72 75,I 77 76,aq 77 false (aF 78 3 1 2),aq 77 false (av 79 1 78),aq 77 false (cl 80 79),aq 77 false (aU 81 .neq 80 2),c6 82 77 81] (aS 82 (aa [bW 4 (-1)] .ret) .skip)) (aa [aF 83 3 1 2,av 84 1 83,jF 85 4 84 0,aV 86 4 85,I 87 1,aU 88 .sub 87 1,ca 89 131 86 88,I 5 89] (.seq (aa [I 90 5,aU 91 .lss 90 0] (aS 91 (aa [bW 4 (-1)] .ret) .skip)) (aa [aF 92 3 1 2,av 93 1 92,jF 94 4 93 1,aV 95 4 94,I 96 1,aU 97 .sub 96 1,I 98 5,bm 99 .sub 97 98,ca 100 131 95 99,I 6 100] (.seq (aa [I 101 6,aU 102 .lss 101 0] (aS 102 (aa [bW 4 (-1)] .ret) .skip)) (aa [I 103 5,b5 104 (.bin .add false (gd 1) (.t 103)),I 105 6,bm 106 .add 104 105,I 4 106] .ret)))))))))
@[simp] def F0:List bs:=[.tmp 4]
def DK:C:=(aa [cz 2 0,cz 3 1,bW 4 0] (.seq (aa [aF 6 0 1 2,av 7 1 6,aF 8 0 1 3,av 9 1 8,bm 10 .neq 7 9] (aS 10 (aa [aF 11 0 1 2,av 12 1 11,aF 13 0 1 3,av 14 1 13,ca 15 190 12 14,I 4 15] .ret) .skip)) (.seq (aa [aF 16 1 1 2,av 17 1 16,aF 18 1 1 3,av 19 1 18,bm 20 .neq 17 19] (aS 20 (aa [aF 21 1 1 2,av 22 1 21,aF 23 1 1 3,av 24 1 23,ca 25 190 22 24,I 4 25] .ret) .skip)) (.seq (aa [aF 26 2 1 2,av 27 1 26,aF 28 2 1 3,av 29 1 28,bm 30 .neq 27 29] (aS 30 (.seq (aa [aF 31 2 1 2,av 32 1 31,aF 33 2 1 3,av 34 1 33,bm 35 .lss 32 34] (aS 35 (aa [bW 4 (-1)] .ret) .skip)) (aa [bW 4 1] .ret)) .skip)) (.seq (aa [aF 36 0 1 2,av 37 1 36,aU 38 .neq 37 4] (aS 38 (aa [bW 4 0] .ret) .skip)) (.seq (.seq (.drawn true 60 [aF 39 3 1 2,av 40 1 39,jF 41 4 40 0,aV 42 4 41,aF 43 3 1 3,av 44 1 43,jF 45 4 44 0,aV 46 4 45,ca 47 133 42 46,I 5 47]) (aa [I 48 5,aU 49 .neq 48 0] (aS 49 (aa [I 50 5,I 4 50] .ret) .skip))) (.seq (.drawn true 60 [aF 51 3 1 2,av 52 1 51,jF 53 4 52 1,aV 54 4 53,aF 55 3 1 3,av 56 1 55,jF 57 4 56 1,aV 58 4 57,ca 59 133 54 58,I 4 59]) .ret)))))))
@[simp] def F1:List bs:=[.tmp 4]
def wA:C:=(aa [cz 2 0] (.seq (aa [aF 4 0 1 2,av 5 1 4,aU 6 .eql 5 1] (aS 6 (.region [I 7 1,aF 8 1 1 2,av 9 1 8,gz 10 7 [.t 9]]) .skip)) (aa [aF 11 0 1 2,av 12 1 11,aU 13 .eql 12 4] (aS 13 (aa [aF 14 3 1 2,av 15 1 14,jF 16 4 15 0,aV 17 4 16,I 18 1,ca 19 134 17 18] (.region [aF 20 3 1 2,av 21 1 20,jF 22 4 21 1,aV 23 4 22,I 24 1,ca 25 134 23 24])) .skip))))
@[simp] def xN:List bs:=[]
@[simp] def aqa:List bs:=[]
def Oh:C:=(aa [eE 2 1] (aa [c1 (.bslm 5 (some 306) 1 3 []),I 3 5] (.seq (aa [I 6 0,c1 (.range 7 none (.t 6))] (.block 0 (.loop (aa [⟨none,.next 8 (.t 7)⟩,cD 9 0 8] (.seq (aS 9 .skip (.exit 0)) (.block 1 (aa [b5 10 (.ment (.t 7)),cD 11 0 10,I 4 11] (.region [I 12 3,I 13 4,ek 14 1 3 [.t 13],c1 (.appm 15 none 1 3 (.t 12) (.t 14)),I 3 15])))))))) (aa [I 16 3,cE 17 191 16] (.seq (.pub 3 (.region [I 18 3,I 2 18])) .ret)))))
@[simp] def U2:List bs:=[.tmp 2]
def Od:C:=(aa [cz 2 0,c1 (.box 3 (some 202) (.t 1)),dj 4 dP,be 5 false] (aa [aV 7 4 2,b5 8 (.mkf 193 [.t 3]),ca 9 192 7 8,I 6 9] (.seq (aa [I 10 6,aU 11 .gtr 10 5000] (aS 11 (aa [iq 12 dP [],bL 4 4 12,be 5 false] .ret) .skip)) (aa [aV 13 4 2,av 14 1 3,ca 15 194 13 14,bL 4 4 15,be 5 true] .ret))))
@[simp] def Lb:List bs:=[.cell 4 true 4,.tmp 5]
def Oc:C:=(aa [dj 3 dP,be 4 false] (.seq (aa [av 6 1 1,I 7 0,ca 8 139 6 7,I 5 8] (aa [I 9 5,aU 10 .geq 9 0] (aS 10 (aa [av 11 1 1,I 12 5,cu 13 5 11 12,hC 14 1 4 13,aV 15 4 14,bL 4 3 15,be 4 true] .ret) .skip))) (aa [iq 16 dP [],bL 4 3 16,be 4 false] .ret)))
@[simp] def La:List bs:=[.cell 3 true 4,.tmp 4]
def N3:C:=(aa [c1 (.box 2 (some 101) (.t 0)),c1 (.box 3 (some 102) (.t 1)),bW 4 0] (aa [av 6 1 2,cl 7 6,b5 8 (.mkf 196 [.t 2,.t 3]),ca 9 195 7 8,I 5 9] (.seq (.seq (.drawn true 24 [I 10 5,av 11 1 2,cl 12 11,bm 13 .lss 10 12,I 14 13,aq 14 true (av 15 1 2),b3 14 true 16 5,aq 14 true (cu 17 5 15 16),aq 14 true (aF 18 0 1 17),aq 14 true (av 19 1 18),aq 14 true (av 20 1 3),aq 14 true (bm 21 .eql 19 20),dx 22 14 21]) (aS 22 (aa [I 23 5,I 4 23] .ret) .skip)) (aa [bW 4 (-1)] .ret))))
@[simp] def UU:List bs:=[.tmp 4]
def N1:C:=(aa [cz 2 0,cz 3 1,be 4 false] (aa [aV 5 4 2,aV 6 4 3,ca 7 133 5 6,aU 8 .eql 7 0,I 4 8] .ret))
@[simp] def US:List bs:=[.tmp 4]
def HB:C:=(aa [cz 1 0,dj 2 dP] (.seq (aa [aF 3 0 1 1,av 4 1 3,aU 5 .neq 4 4] (aS 5 (aa [aF 6 0 1 1,av 7 1 6,aF 8 1 1 1,av 9 1 8,aF 10 2 1 1,av 11 1 10,iq 12 dP [(0,1,(.t 7)),(1,1,(.t 9)),(2,1,(.t 11))],bL 4 2 12] .ret) .skip)) (.seq (.drawn true 25 [aF 13 3 1 1,av 14 1 13,jF 15 4 14 0,aV 16 4 15,cE 17 143 16,aF 18 3 1 1,av 19 1 18,jF 20 4 19 1,aV 21 4 20,cE 22 143 21,ek 23 4 30 [.t 17,.t 22],iq 24 dP [(0,1,(gd 4)),(3,1,(.t 23))],bL 4 2 24]) .ret)))
@[simp] def aiS:List bs:=[.cell 2 true 4]
def NN:C:=(aa [be 2 false] (.seq (aa [I 5 0,cl 6 5,aU 7 .gtr 6 400] (aS 7 (aa [be 2 false] .ret) .skip)) (.seq (aa [I 8 0,cl 9 8,bW 10 0] (ft 11 10 9 (.seq (.block 1 (aa [I 12 10,cu 13 5 8 10,aV 14 5 13,dj 4 jy,I 3 12,bL 5 4 14] (.seq (.drawn true 45 [aF 15 0 1 4,av 16 1 15,aU 17 .lss 16 0,I 18 17,aq 18 false (aF 19 0 1 4),aq 18 false (av 20 1 19),aq 18 false (aU 21 .gtr 20 100000),c6 22 18 21,I 23 22,b3 23 false 24 3,aq 23 false (aU 25 .gtr 24 0),b3 23 false 26 25,b3 26 true 27 0,b3 26 true 28 3,aq 26 true (aU 29 .sub 28 1),aq 26 true (cu 30 5 27 29),aq 26 true (aF 31 0 1 30),aq 26 true (av 32 1 31),aq 26 true (aF 33 0 1 4),aq 26 true (av 34 1 33),aq 26 true (bm 35 .geq 32 34),aq 23 false (dx 36 26 35),c6 37 23 36,I 38 37,aq 38 false (hC 39 1 4 4),aq 38 false (aV 40 4 39),aq 38 false (cE 41 64 40),aq 38 false (cw 42 41),c6 43 38 42]) (aS 43 (aa [be 2 false] .ret) .skip)))) (.region [aU 44 .add 10 1,I 10 44])))) (aa [be 2 true] .ret))))
@[simp] def FV:List bs:=[.tmp 2]
def NB:C:=(aa [be 2 false] (.seq (aa [I 4 0,b5 5 (.slen (.t 4)),aU 6 .lss 5 1,I 7 6,b3 7 false 8 0,aq 7 false (b5 9 (.slen (.t 8))),aq 7 false (aU 10 .gtr 9 12),c6 11 7 10,I 12 11,b3 12 false 13 0,aq 12 false (b5 14 (.sidx (.t 13) (gd 0))),aq 12 false (b5 15 (.bin .lss false (.t 14) (.c (.int .u8 97)))),c6 16 12 15,I 17 16,b3 17 false 18 0,aq 17 false (b5 19 (.sidx (.t 18) (gd 0))),aq 17 false (b5 20 (.bin .gtr false (.t 19) (.c (.int .u8 122)))),c6 21 17 20] (aS 21 (aa [be 2 false] .ret) .skip)) (.seq (aa [bW 3 1] (.block 0 (.loop (.seq (aa [I 22 3,I 23 0,b5 24 (.slen (.t 23)),bm 25 .lss 22 24] (aS 25 .skip (.exit 0))) (.seq (.block 1 (aa [I 28 0,I 29 3,b5 30 (.sidx (.t 28) (.t 29)),b5 31 (.bin .geq false (.t 30) (.c (.int .u8 97))),I 32 31,b3 32 true 33 0,b3 32 true 34 3,aq 32 true (b5 35 (.sidx (.t 33) (.t 34))),aq 32 true (b5 36 (.bin .leq false (.t 35) (.c (.int .u8 122)))),dx 37 32 36,I 38 37,b3 38 false 39 0,b3 38 false 40 3,aq 38 false (b5 41 (.sidx (.t 39) (.t 40))),aq 38 false (b5 42 (.bin .geq false (.t 41) (.c (.int .u8 48)))),b3 38 false 43 42,b3 43 true 44 0,b3 43 true 45 3,aq 43 true (b5 46 (.sidx (.t 44) (.t 45))),aq 43 true (b5 47 (.bin .leq false (.t 46) (.c (.int .u8 57)))),aq 38 false (dx 48 43 47),c6 49 38 48,I 50 49,b3 50 false 51 0,b3 50 false 52 3,aq 50 false (b5 53 (.sidx (.t 51) (.t 52))),aq 50 false (b5 54 (.bin .eql false (.t 53) (.c (.int .u8 45)))),c6 55 50 54,cw 56 55] (aS 56 (aa [be 2 false] .ret) .skip))) (.region [I 26 3,aU 27 .add 26 1,I 3 27])))))) (aa [be 2 true] .ret))))
@[simp] def FU:List bs:=[.tmp 2]
def HD:C:=(aa [be 2 false] (.seq (aa [I 5 0,cl 6 5,bW 7 0] (ft 8 7 6 (.seq (.block 1 (aa [cu 9 4 5 7,aV 10 4 9,dj 4 dP,bL 4 4 10] (aa [aV 11 4 4,cE 12 64 11,cw 13 12] (aS 13 (aa [be 2 false] .ret) .skip)))) (.region [aU 14 .add 7 1,I 7 14])))) (aa [be 2 true] .ret)))
@[simp] def aiU:List bs:=[.tmp 2]
def Pc:C:=(aa [cz 2 0,cz 3 1,dj 4 dP] (aa [aV 5 4 2,aV 6 4 3,ek 7 4 30 [.t 5,.t 6],iq 8 dP [(0,1,(gd 4)),(3,1,(.t 7))],bL 4 4 8] .ret))
@[simp] def Vd:List bs:=[.cell 4 true 4]
def N9:C:=(aa [bW 4 0] (.seq (aa [I 5 0,I 6 1,bm 7 .lss 5 6] (aS 7 (aa [bW 4 (-1)] .ret) .skip)) (.seq (aa [I 8 0,I 9 1,bm 10 .gtr 8 9] (aS 10 (aa [bW 4 1] .ret) .skip)) (aa [bW 4 0] .ret))))
@[simp] def UY:List bs:=[.tmp 4]
def uM:C:=(aa [cz 2 0,bW 4 0] (.seq (aa [aF 6 0 1 2,av 7 1 6] (.block 0 (aa [aU 9 .eql 7 1,I 8 9] (aS 8 (aa [I 10 1,aF 11 1 1 2,av 12 1 11,gz 13 10 [.t 12],b5 14 (.min2 (.t 13) (gd 5001)),I 4 14] .ret) (aa [aU 16 .eql 7 4,I 15 16] (aS 15 (aa [aF 17 3 1 2,av 18 1 17,jF 19 4 18 0,aV 20 4 19,I 21 1,ca 22 192 20 21,I 5 22] (.seq (aa [I 23 5,aU 24 .gtr 23 5000] (aS 24 (aa [I 25 5,I 4 25] .ret) .skip)) (aa [I 26 5,b5 27 (.bin .add false (gd 1) (.t 26)),aF 28 3 1 2,av 29 1 28,jF 30 4 29 1,aV 31 4 30,I 32 1,ca 33 192 31 32,bm 34 .add 27 33,b5 35 (.min2 (.t 34) (gd 5001)),I 4 35] .ret))) .skip)))))) (aa [bW 4 1] .ret)))
@[simp] def ue:List bs:=[.tmp 4]
def Oe:C:=(aa [bW 3 0] (.seq (aa [av 7 1 1,I 8 0,gz 9 7 [.t 8],I 6 9,cD 10 0 6,cD 11 1 6,dj 4 dP,bL 4 4 10,I 5 11] (aa [I 12 5] (aS 12 (aa [aV 13 4 4,dp 14 131 [.t 13,(gd 5000)],I 3 14] .ret) .skip))) (aa [bW 3 1] .ret)))
@[simp] def U1:List bs:=[.tmp 3]
def wB:C:=(aa [cz 2 0,dj 4 dP] (.seq (aa [aF 7 0 1 2,av 8 1 7] (.block 0 (aa [aU 10 .eql 8 1,I 9 10] (aS 9 (.seq (aa [I 12 1,aF 13 1 1 2,av 14 1 13,gz 15 12 [.t 14],I 11 15,cD 16 0 11,cD 17 1 11,dj 5 dP,bL 4 5 16,I 6 17] (aa [I 18 6] (aS 18 (aa [aV 19 4 5,cE 20 143 19,bL 4 4 20] .ret) .skip))) (aa [aV 21 4 2,bL 4 4 21] .ret)) (aa [aU 23 .eql 8 4,I 22 23] (aS 22 (.seq (.drawn false 38 [aF 24 3 1 2,av 25 1 24,jF 26 4 25 0,aV 27 4 26,I 28 1,ca 29 194 27 28,aF 30 3 1 2,av 31 1 30,jF 32 4 31 1,aV 33 4 32,I 34 1,ca 35 194 33 34,ca 36 221 29 35,bL 4 4 36]) .ret) .skip)))))) (aa [aV 37 4 2,bL 4 4 37] .ret)))
@[simp] def xO:List bs:=[.cell 4 true 4]
def OJ:C:=(aa [bW 4 0] (aa [I 8 0,bW 5 0,I 6 8] (.seq (.block 0 (.loop (.seq (aa [I 9 5,I 10 6,bm 11 .lss 9 10] (aS 11 .skip (.exit 0))) (.block 1 (aa [I 12 5,I 13 6,bm 14 .add 12 13,b5 15 (.conv .u64 (.t 14)),b5 16 (.bin .shr false (.t 15) (.c (.int .u64 1))),b5 17 (.conv .i64 (.t 16)),I 7 17] (aa [I 18 1,I 19 7,gz 20 18 [.t 19],cw 21 20] (aS 21 (.region [I 22 7,aU 23 .add 22 1,I 5 23]) (.region [I 24 7,I 6 24])))))))) (aa [I 25 5,I 4 25] .ret))))
@[simp] def U3:List bs:=[.tmp 4]
def N4:C:=(aa [be 4 false] (.seq (.drawn true 12 [av 5 1 1,I 6 0,cu 7 5 5 6,aF 8 0 1 7,av 9 1 8,av 10 1 2,bm 11 .geq 9 10,I 4 11]) .ret))
@[simp] def UW:List bs:=[.tmp 4]
def Oa:C:=(aa [cz 2 0,cz 3 1,dj 4 dP] (aa [aV 5 4 2,aV 6 4 3,ek 7 4 30 [.t 5,.t 6],iq 8 dP [(0,1,(gd 4)),(3,1,(.t 7))],bL 4 4 8] .ret))
@[simp] def UZ:List bs:=[.cell 4 true 4]
def bB:List (Nat×dB):=[
 (3,⟨1,8,.int .i64,.int .i64 0⟩),
 (9,⟨1,16,.str,.str []⟩),
 (27,⟨1,24,.slice 30,.slice 4 .nil []⟩),
 (30,⟨4,56,.struct [(0,3),(1,3),(2,9),(3,27)],.agg [.int .i64 0,.int .i64 0,.str [],.slice 4 .nil []]⟩),
 (46,⟨1,24,.slice 113,.slice 5 .nil []⟩),
 (76,⟨1,24,.slice 3,.slice 1 .nil []⟩),
 (113,⟨5,64,.struct [(0,3),(1,30)],.agg [.int .i64 0,.int .i64 0,.int .i64 0,.str [],.slice 4 .nil []]⟩),
 (136,⟨1,8,.map 3 4,.junk⟩),
 (141,⟨1,8,.other,.junk⟩),
 (192,⟨1,8,.int .u64,.int .u64 0⟩)]
theorem mixed:al.follows .mixedOrders=true:=by kernel_rfl
theorem bf{bB:List (Nat×dB)}(aN:fN al bB=true){f:FuncId}{fn:Func}(aI:al.funcs[f]? =some fn){c:C}{fe:List bs}{n:Nat}(eW:bY bB c fe n fn=true){args:List ah}{r:ah}(he:eB args→cU al [] c (bt fe r) ⟨j2 0 args,[],[],0,[]⟩)(au:args.length≤n:=by simp)(aL:aC (fun _=>eQ) r:=by simp[aC]):bH al f args r:=bH.mk mixed aN aI eW au aL he
theorem fE:fN al bB=true:=by kernel_rfl
theorem agH:bY bB NL UJ 1 Tryz.f64=true:=by kernel_rfl
theorem aah:al.funcs[(64:Nat)]? =some Tryz.f64:=Tryz.func64
theorem ag7:bY bB Ob U0 2 Tryz.f69=true:=by kernel_rfl
theorem aaH:al.funcs[(69:Nat)]? =some Tryz.f69:=Tryz.func69
theorem ah6:bY bB Pf ajC 1 Tryz.f114=true:=by kernel_rfl
theorem abH:al.funcs[(114:Nat)]? =some Tryz.f114:=Tryz.func114
theorem Cv:bY bB yt ajB 1 Tryz.f130=true:=by kernel_rfl
theorem A5:al.funcs[(130:Nat)]? =some Tryz.f130:=Tryz.func130
theorem ag3:bY bB N7 F0 2 Tryz.f131=true:=by kernel_rfl
theorem aaD:al.funcs[(131:Nat)]? =some Tryz.f131:=Tryz.func131
theorem KK:bY bB DK F1 2 Tryz.f133=true:=by kernel_rfl
theorem Im:al.funcs[(133:Nat)]? =some Tryz.f133:=Tryz.func133
theorem zI:bY bB wA xN 2 Tryz.f134=true:=by kernel_rfl
theorem yC:al.funcs[(134:Nat)]? =some Tryz.f134:=Tryz.func134
theorem ahc:bY bB Oh U2 1 Tryz.f136=true:=by kernel_rfl
theorem aaM:al.funcs[(136:Nat)]? =some Tryz.f136:=Tryz.func136
theorem ag9:bY bB Od Lb 2 Tryz.f137=true:=by kernel_rfl
theorem aaJ:al.funcs[(137:Nat)]? =some Tryz.f137:=Tryz.func137
theorem ag8:bY bB Oc La 2 Tryz.f138=true:=by kernel_rfl
theorem aaI:al.funcs[(138:Nat)]? =some Tryz.f138:=Tryz.func138
theorem agZ:bY bB N3 UU 2 Tryz.f139=true:=by kernel_rfl
theorem aaz:al.funcs[(139:Nat)]? =some Tryz.f139:=Tryz.func139
theorem agX:bY bB N1 US 2 Tryz.f142=true:=by kernel_rfl
theorem aax:al.funcs[(142:Nat)]? =some Tryz.f142:=Tryz.func142
theorem T8:bY bB HB aiS 1 Tryz.f143=true:=by kernel_rfl
theorem Qk:al.funcs[(143:Nat)]? =some Tryz.f143:=Tryz.func143
theorem agJ:bY bB NN FV 1 Tryz.f158=true:=by kernel_rfl
theorem aaj:al.funcs[(158:Nat)]? =some Tryz.f158:=Tryz.func158
theorem agy:bY bB NB FU 1 Tryz.f160=true:=by kernel_rfl
theorem Z8:al.funcs[(160:Nat)]? =some Tryz.f160:=Tryz.func160
theorem Ua:bY bB HD aiU 1 Tryz.f172=true:=by kernel_rfl
theorem Qm:al.funcs[(172:Nat)]? =some Tryz.f172:=Tryz.func172
theorem ah3:bY bB Pc Vd 2 Tryz.f189=true:=by kernel_rfl
theorem abE:al.funcs[(189:Nat)]? =some Tryz.f189:=Tryz.func189
theorem ag5:bY bB N9 UY 2 Tryz.f190=true:=by kernel_rfl
theorem aaF:al.funcs[(190:Nat)]? =some Tryz.f190:=Tryz.func190
theorem xG:bY bB uM ue 2 Tryz.f192=true:=by kernel_rfl
theorem wG:al.funcs[(192:Nat)]? =some Tryz.f192:=Tryz.func192
theorem aha:bY bB Oe U1 2 Tryz.f193=true:=by kernel_rfl
theorem aaK:al.funcs[(193:Nat)]? =some Tryz.f193:=Tryz.func193
theorem zJ:bY bB wB xO 2 Tryz.f194=true:=by kernel_rfl
theorem yD:al.funcs[(194:Nat)]? =some Tryz.f194:=Tryz.func194
theorem ahA:bY bB OJ U3 2 Tryz.f195=true:=by kernel_rfl
theorem aba:al.funcs[(195:Nat)]? =some Tryz.f195:=Tryz.func195
theorem ag0:bY bB N4 UW 3 Tryz.f196=true:=by kernel_rfl
theorem aaA:al.funcs[(196:Nat)]? =some Tryz.f196:=Tryz.func196
theorem ag6:bY bB Oa UZ 2 Tryz.f221=true:=by kernel_rfl
theorem aaG:al.funcs[(221:Nat)]? =some Tryz.f221:=Tryz.func221
def ae3(s:List dz)(k:Nat)(st:bq):Prop:=∃i:Nat,1≤i∧i≤s.length∧k=s.length-i∧((s.drop 1).all mj=(s.drop i).all mj)∧st=⟨[(0,.str s),(3,.int .i64 i)],[],[],0,[]⟩
theorem sR(s:List dz):bH al 160 [.str s] (.bool (jw s)):=by
 refine bH.mk mixed fE Z8 agy (by simp) (by simp[aC]) fun ae=>?_;unfold NB;simp;(with_reducible repeat' first|((first|refine bP (fun h=>?_) fun h=>?_|refine bS (fun h=>?_) fun h=>?_|refine bR (fun h=>?_) fun h=>?_)<;>try simp at h)|refine aj ?_|simp);case refine_1.refine_1.refine_1.refine_2=>
  have ad5:jw s=(s.drop 1).all mj:=by simp[jw,low];omega
  rw[ad5];refine oR (ae3 s) (s.length-1) _ ⟨by simp,by simp[gy],by simp[ot],by simp⟩ ⟨1,by omega,by omega,rfl,rfl,rfl⟩ ?_;rintro k st ⟨i,lQ,ht,ad,lf,rfl⟩ kE cQ;rw[lf];simp;refine bP (fun bC=>?_) (fun tA=>?_)
  ·simp at bC;have aQ:s.drop i=s[i]?.getD 0::s.drop (i+1):=by rw[k7 bC];simp[bC]
   simp;(with_reducible repeat' first|((first|refine bP (fun h=>?_) fun h=>?_|refine bS (fun h=>?_) fun h=>?_|refine bR (fun h=>?_) fun h=>?_)<;>try simp at h)|refine aj ?_|simp);all_goals first
    |(simp[bt,FU,aX,aZ,aW,aQ,mj,low];omega)
    |(simp only[Dn];refine⟨s.length-(i+1),_,by omega,⟨by simp,by simp[gy],by simp[ot],by simp⟩,i+1,by omega,by omega,rfl,?_,rfl⟩;rw[lf,aQ];simp[mj,low];omega)
  ·simp at tA;have:s.drop i=[]:=by simp;omega
   simp[bt,FU,aX,aZ,aW,this]
 all_goals simp[bt,FU,aX,aZ,aW,jw,low]
 all_goals omega
theorem WQ(m:Nat):∀(t:bG),t.sz≤m→∀(room:Int),0≤room∧room≤10000→bH al 131 [enc t,.int .i64 room] (.int .i64 (fo t room)):=by
 induction m with
 |zero=>intro t aN;cases t;simp[bG.sz]at aN
 |succ m bT=>
 rintro⟨k,n,s,args⟩ aN room re;refine bf fE aaD ag3 fun aP=>?_;unfold N7;simp[bG.kind,bG.num,bG.name,bG.args];(with_reducible repeat' first|((first|refine bP (fun h=>?_) fun h=>?_|refine bS (fun h=>?_) fun h=>?_|refine bR (fun h=>?_) fun h=>?_)<;>try simp at h)|refine aj ?_|simp);all_goals try refine c7.val (by simp) (sR _) ?_
 all_goals try simp
 (with_reducible repeat' first|((first|refine bP (fun h=>?_) fun h=>?_|refine bS (fun h=>?_) fun h=>?_|refine bR (fun h=>?_) fun h=>?_)<;>try simp at h)|refine aj ?_|simp);all_goals try simp[bt,F0,aX,aZ,aW]
 case succ.refine_2.refine_2.refine_1.refine_1.refine_2=>
  rename_i bA J U ao;match args,h with
  |[a,b],_=>
  simp[bG.sz,bG.szL]at aN;subst J U ao;simp;(with_reducible repeat' first|((first|refine bP (fun h=>?_) fun h=>?_|refine bS (fun h=>?_) fun h=>?_|refine bR (fun h=>?_) fun h=>?_)<;>try simp at h)|refine aj ?_|simp);refine c7.val (by simp) (bT a (by omega) (room-1) (by omega)) ?_;simp;have bF:=KB a (room-1);have mM:=Cp a (room-1);(with_reducible repeat' first|((first|refine bP (fun h=>?_) fun h=>?_|refine bS (fun h=>?_) fun h=>?_|refine bR (fun h=>?_) fun h=>?_)<;>try simp at h)|refine aj ?_|simp)
  ·simp[bt,F0,aX,aZ,aW];rw[KA];simp;omega
  ·refine c7.val (by simp) (bT b (by omega) (room-1-fo a (room-1)) (by omega)) ?_;simp;have ae:=KB b (room-1-fo a (room-1));have fR:=Cp b (room-1-fo a (room-1));(with_reducible repeat' first|((first|refine bP (fun h=>?_) fun h=>?_|refine bS (fun h=>?_) fun h=>?_|refine bR (fun h=>?_) fun h=>?_)<;>try simp at h)|refine aj ?_|simp);all_goals simp[bt,F0,aX,aZ,aW]
   all_goals rw[KA];simp;omega
 all_goals rw[KA]
 all_goals simp_all[k2]
 all_goals first|omega|(split<;>simp at h⊢)
theorem GM(t:bG):bH al 64 [enc t] (.bool t.fits):=by refine bf fE aah agH fun aP=>?_;unfold NL;simp;refine c7.val (by simp) (WQ t.sz t (eR _) 5000 (by omega)) ?_;simp;simp[bt,UJ,aX,aZ,aW];simp[bG.fits]
theorem alc(t:T):bH al 64 [t.e] (.bool t.fit):=by have:=GM t.tm;rwa[iQ,bG.fits_T]at this
theorem GV(a b:T):bH al 221 [a.e,b.e] (T.pair a b).e:=by refine bf fE aaG ag6 fun aP=>?_;unfold Oa;simp;(with_reducible repeat' first|((first|refine bP (fun h=>?_) fun h=>?_|refine bS (fun h=>?_) fun h=>?_|refine bR (fun h=>?_) fun h=>?_)<;>try simp at h)|refine aj ?_|simp);all_goals try simp[bt,UZ,aX,aZ,aW]
theorem GP(a b:T):bH al 189 [a.e,b.e] (T.pair a b).e:=by refine bf fE abE ah3 fun aP=>?_;unfold Pc;simp;(with_reducible repeat' first|((first|refine bP (fun h=>?_) fun h=>?_|refine bS (fun h=>?_) fun h=>?_|refine bR (fun h=>?_) fun h=>?_)<;>try simp at h)|refine aj ?_|simp);all_goals try simp[bt,Vd,aX,aZ,aW]
theorem sS(t:T):bH al 143 [t.e] t.e:=by
 induction t with
 |pair a b dR dS=>refine bf fE Qk T8 fun aP=>?_;unfold HB;exact b2
 |_=>refine bf fE Qk T8 fun aP=>?_;unfold HB;exact b2
theorem nI(a b:Int):bH al 190 [.int .i64 a,.int .i64 b] (.int .i64 (ev a b)):=by
 refine bf fE aaF ag5 fun aP=>?_;unfold N9;simp;((with_reducible repeat' first|refine aj ?_|simp|((first|apply bP|apply bS|apply bR)<;>intro h<;>try simp at h))<;>(try exact cp));all_goals simp[bt,UY,aX,aZ,aW]
 all_goals simp[ev]
 all_goals omega
theorem Ax(a:T):∀b:T,bH al 133 [a.e,b.e] (.int .i64 (er a b)):=by
 induction a with
 |pair bE a2 EW EX=>
  intro b;cases b with
  |pair cc b4=>
   refine bf fE Im KK fun aP=>?_;unfold DK;simp;((with_reducible repeat' first|refine aj ?_|refine aD (EW _) ?_|refine aE (EW _) ?_|refine aD (EX _) ?_|refine aE (EX _) ?_|refine aD (nI _ _) ?_|refine aE (nI _ _) ?_|simp|((first|apply bP|apply bS|apply bR)<;>intro h<;>try simp at h))<;>(try exact cp));all_goals simp[bt,F1,aX,aZ,aW]
   all_goals simp_all[er]
  |_=>
   refine bf fE Im KK fun aP=>?_;unfold DK;simp;(with_reducible repeat' first|refine aj ?_|refine aD (nI _ _) ?_|refine aE (nI _ _) ?_|simp);all_goals simp[bt,F1,aX,aZ,aW]
   all_goals simp_all[er]
 |_=>
  intro b;cases b<;>
  (refine bf fE Im KK fun aP=>?_;unfold DK
   simp
   (with_reducible repeat' first|((first|apply bP|apply bS|apply bR)<;>intro h<;>try simp at h)|refine aj ?_|refine aD (nI _ _) ?_|refine aE (nI _ _) ?_|simp)
   all_goals simp[bt,F1,aX,aZ,aW]
   all_goals simp_all[er,kr])
theorem sT(a b:T):bH al 142 [a.e,b.e] (.bool (decide (a=b))):=by
 refine bf fE aax agX fun aP=>?_;unfold N1;simp;(with_reducible repeat' first|refine aj ?_|refine aD (Ax _ _) ?_|refine aE (Ax _ _) ?_|simp);all_goals simp[bt,US,aX,aZ,aW]
 have:=qz a b;by_cases h:er a b=0<;>simp_all
open Classical in
def ae7(l:List cT)(k:Nat)(st:bq):Prop:=∃i:Nat,i≤l.length∧k=l.length-i∧(∀j,j<i→zH l j)∧st=⟨[(0,.slice 5 .no (l.map cT.e)),(8,.slice 5 .no (l.map cT.e)),(9,.int .i64 l.length),(10,.int .i64 i)],[],[],0,[]⟩
open Classical in
theorem ale(l:List cT):bH al 158 [.slice 5 .no (l.map cT.e)] (.bool (decide (yj l))):=by
 refine bf fE aaj agJ fun aP=>?_;unfold NN;simp;(with_reducible repeat' first|((first|apply bP|apply bS|apply bR)<;>intro h<;>try simp at h)|refine aj ?_|simp)
 ·simp[bt,FV,aX,aZ,aW];intro cr;have:=cr.1;omega
 ·refine oR (ae7 l) l.length _ ⟨by simp,by simp[gy],by simp[ot],by simp⟩ ⟨0,by omega,by omega,by simp,rfl⟩ ?_;rintro k st ⟨i,hi,ad,lf,rfl⟩ kE cQ;simp;refine bP (fun bC=>?_) (fun tA=>?_)
  ·simp at bC;obtain⟨b,ae⟩:∃b,l[i]? =some b:=⟨_,cf bC⟩;obtain⟨c,ax⟩:∃c,l[i-1]? =some c:=⟨_,cf (by omega)⟩;clear kE cQ;simp[ae,ax];((with_reducible repeat' first|refine aj ?_|refine aD (GM _) ?_|refine aE (GM _) ?_|simp[ax]|((first|apply bP|apply bS|apply bR)<;>intro h<;>try simp at h))<;>(try exact cp));all_goals first
    |(simp[bt,FV,aX,aZ,aW];intro cr;have J:=cr.2 i bC b ae;have U:=J.2.1 c;have ao:=J.2.2;first|omega|(have:=U (by omega) ax;omega)|(rw[ao]at h;cases h)|simp_all)
    |(simp only[Dn];refine⟨l.length-(i+1),_,by omega,⟨by simp,by simp[gy],by simp[ot],by simp⟩,i+1,by omega,rfl,fun j af=>?_,rfl⟩
      by_cases e:j=i
      ·subst e;intro bO fR;rw[ae]at fR;cases fR;refine⟨by omega,fun cm bA hp=>?_,by assumption⟩;rw[ax]at hp;cases hp;omega
      ·exact lf j (by omega))
  ·simp at tA;simp[bt,FV,aX,aZ,aW];exact⟨by omega,fun j af=>lf j (by omega)⟩
def l1(p:Nat→Bool)(i j:Nat):Nat:=if i<j then(if p ((i+j)/2)then l1 p i ((i+j)/2)else l1 p ((i+j)/2+1) j)else i
termination_by j-i
def ae6(s:cJ)(n g:Nat)(dm:List ah)(p:Nat→Bool)(k:Nat)(st:bq):Prop:=∃i j:Nat,i≤j∧j≤n∧k=j-i∧l1 p i j=l1 p 0 n∧st=⟨[(1,.func g dm),(5,.int .i64 i),(6,.int .i64 j)],s.b,s.e,0,cS s⟩
theorem ack(s:cJ)(ag:eo s)(n g:Nat)(aA:n≤1000000)(dm:List ah)(ax:aK (inObs s) dm)(dd:cY dm=dm)(p:Nat→Bool)(aI:∀i:Nat,i<n→bQ al g (.int .i64 i::dm) s fun r ai=>r= .bool (p i)∧ai=s):
  bQ al 195 [.int .i64 n,.func g dm] s fun r ai=>r= .int .i64 (l1 p 0 n)∧ai=s:=by
 refine bQ.mk mixed fE aba ahA (by simp) ag.obj fun aP cQ=>?_;unfold OJ;simp;refine oR (ae6 s n g dm p) n _ (iy.ob ag (by simp[ax]) aR aR) ⟨0,n,by omega,by omega,rfl,rfl,rfl⟩ ?_;rintro k st ⟨i,j,lR,af,ad,Jz,rfl⟩ kE cQ;clear kE cQ;simp;refine bP (fun bC=>?_) (fun tA=>?_)
 ·simp at bC;have hw:hb.wrap ((i:Int)+j)=i+j:=by simp[rQ,nJ,rP];omega
  obtain⟨m,hm⟩:∃m,m=(i+j)/2:=⟨_,rfl⟩;have aQ:Int.fdiv ((i:Int)+j) 2=(m:Int):=by rw[Int.fdiv_eq_ediv_of_nonneg _ (by omega)];omega
  have oa:IntKind.i64.wrap (m:Int)=m:=by rw[oC];omega
  have IZ:hb.bits=64:=rfl;simp[hw,dd,IZ,aQ,oa];refine⟨by unfold sq;omega,?_⟩;refine c7.ob (aI m (by omega)) ag aR aR (by simp[ax]) ?_;rintro r ai ⟨rfl,rfl⟩;refine⟨Same.refl _,?_⟩;simp[gN];(with_reducible repeat' first|((first|apply bP|apply bS|apply bR)<;>intro h<;>try simp at h)|refine aj ?_|simp)
  ·simp only[Dn];refine⟨j-(m+1),_,by omega,iy.ob ag (by simp[ax]) aR aR,m+1,j,by omega,by omega,rfl,?_,rfl⟩;rw[←Jz];conv=>rhs;unfold l1
   simp[bC,←hm,h]
  ·simp only[Dn];refine⟨m-i,_,by omega,iy.ob ag (by simp[ax]) aR aR,i,m,by omega,by omega,rfl,?_,rfl⟩;rw[←Jz];conv=>rhs;unfold l1
   simp[bC,←hm,h]
 ·simp at tA;have:l1 p 0 n=i:=by rw[←Jz];unfold l1;rw[if_neg (by omega)]
  rw[this];simp;refine cR.at s (.inl rfl) ag (Same.refl s) aR aR ?_;simp[cX,U3,aX,aZ,aW]
def mJ(l:List ar)(v:Int):Int:=
 let i:=l1 (fun i=>match l[i]? with|some b=>decide (v≤b.v)|none=>false) 0 l.length
 match l[i]? with|some b=>if b.v=v then i else-1|none=> -1
theorem acr(l:List ar)(v:Int)(i:Nat)(b:ar)(ae:l[i]? =some b):bQ al 196 [.int .i64 i,.ptr (.obj 101) 0,.ptr (.obj 102) 0] ⟨[(.obj 101,[.slice 5 .no (l.map ar.e)]),(.obj 102,[.int .i64 v])],[]⟩ fun r ai=>r= .bool (decide (v≤b.v))∧ai=⟨[(.obj 101,[.slice 5 .no (l.map ar.e)]),(.obj 102,[.int .i64 v])],[]⟩:=by have ag:eo ⟨[(.obj 101,[.slice 5 .no (l.map ar.e)]),(.obj 102,[.int .i64 v])],[]⟩:=(eo.of ⟨by intro m;simp[Pv.look],by intro m;simp[Pv.look]⟩ (by simp[aK,aC,inObs,Pv.look]) (by simp[aK,aC,inObs,Pv.look]));have bC:i<l.length:=(fL.1 ae).1;refine bQ.mk mixed fE aaA ag0 (by simp) ag.obj fun aP cQ=>?_;unfold N4;simp[ae];(with_reducible repeat' first|refine aj ?_|simp);refine cR.at _ (.inl rfl) ag (Same.refl _) aR aR ?_;simp[cX,UW,aX,aZ,aW]
theorem sU(l:List ar)(v:Int)(au:l.length≤1000000):bH al 139 [.slice 5 .no (l.map ar.e),.int .i64 v] (.int .i64 (mJ l v)):=by
 refine bf fE aaz agZ fun aP=>?_;unfold N3;simp;have ag:eo ⟨[(.obj 101,[.slice 5 .no (l.map ar.e)]),(.obj 102,[.int .i64 v])],[]⟩:=(eo.of ⟨by intro m;simp[Pv.look],by intro m;simp[Pv.look]⟩ (by simp[aK,aC,inObs,Pv.look]) (by simp[aK,aC,inObs,Pv.look]));refine c7.ob (ack ⟨[(.obj 101,[.slice 5 .no (l.map ar.e)]),(.obj 102,[.int .i64 v])],[]⟩ ag l.length 196 au [.ptr (.obj 101) 0,.ptr (.obj 102) 0] (by simp[inObs]) (by simp) (fun i=>match l[i]? with|some b=>decide (v≤b.v)|none=>false) fun i hi=>?_) ag aR aR (by simp[inObs]) ?_
 ·obtain⟨b,ae⟩:∃b,l[i]? =some b:=⟨_,cf hi⟩;simp only[ae];exact acr l v i b ae
 rintro r ai ⟨rfl,rfl⟩;refine⟨Same.refl _,?_⟩;unfold mJ;generalize l1 _ 0 l.length=i;cases ae:l[i]? with
 |none=>
  have bC:¬i<l.length:=by simpa using ae
  simp[cv,bC];exact b2
 |some b=>
  have bC:i<l.length:=(fL.1 ae).1;simp[cv,ae,bC];((with_reducible repeat' first|refine aj ?_|simp[ae]|((first|apply bP|apply bS|apply bR)<;>intro h<;>try simp at h))<;>(try exact cp));all_goals simp[bt,UU,aX,aZ,aW]
  all_goals simp_all
def rB(l:List ar)(v:Int):aY T:=if mJ l v<0 then none else(l[(mJ l v).toNat]?).map (·.t)
theorem QF(l:List ar)(v:Int):mJ l v<l.length∧ -1≤mJ l v:=by
 unfold mJ;simp only;split
 ·rename_i b ae;have:=(fL.1 ae).1;split<;>omega
 ·omega
theorem QV(l:List ar)(v:Int)(au:l.length≤1000000)(o:aY T)(aw:o=rB l v):bQ al 138 [.int .i64 v,.ptr (.obj 201) 0] ⟨[(.obj 201,[.slice 5 .no (l.map ar.e)])],[]⟩ fun r ai=>r= .tuple [(o.getD .nil).e,.bool o.isSome]∧ai=⟨[(.obj 201,[.slice 5 .no (l.map ar.e)])],[]⟩:=by
 have ag:eo ⟨[(.obj 201,[.slice 5 .no (l.map ar.e)])],[]⟩:=(eo.of ⟨by intro m;simp[Pv.look],by intro m;simp[Pv.look]⟩ (by simp[aK,aC,inObs,Pv.look]) (by simp[aK,aC,inObs,Pv.look]));have bC:=(QF l v).1;unfold rB at aw;refine bQ.mk mixed fE aaI ag8 (by simp) ag.obj fun aP cQ=>?_;unfold Oc;simp;(with_reducible repeat' first|((first|apply bP|apply bS|apply bR)<;>intro h<;>try simp at h)|refine aj ?_|refine aD (sU l v au) ?_|refine aE (sU l v au) ?_|simp)
 ·obtain⟨b,ae⟩:∃b,l[(mJ l v).toNat]? =some b:=⟨_,cf (by omega)⟩;have hI:o=some b.t:=by rw[aw,if_neg (by omega),ae];rfl
  simp[ae];(with_reducible repeat' first|((first|apply bP|apply bS|apply bR)<;>intro h<;>try simp at h)|refine aj ?_|simp[ae]);refine cR.at _ (.inl rfl) ag (Same.refl _) aR aR ?_;simp[cX,La,aX,aZ,aW];simp[hI]
 ·have hI:o=none:=by rw[aw,if_pos h]
  refine cR.at _ (.inl rfl) ag (Same.refl _) aR aR ?_;simp[cX,La,aX,aZ,aW];simp[hI]
theorem acI(s:cJ)(ag:eo s)(g:Nat)(dm:List ah)(ax:aK (inObs s) dm)(dd:cY dm=dm)(f:Int→Int)(Bu:∀v,-1≤f v)(t:T)(aI:∀v,t.occ v=true→bQ al g (.int .i64 v::dm) s fun r ai=>r= .int .i64 (f v)∧ai=s):
  bQ al 192 [t.e,.func g dm] s fun r ai=>r= .int .i64 (k3 f t)∧ai=s:=by
 have aA:∀m,Pv.look (.loc m) s.b=none:=ag.obj.1;have hu:∀m cs,cx (.loc m) cs s.b=s.b++[(.loc m,cs)]:=fun m cs=>jR (aA m);have aw:∀m,aH.loc m∉cS s:=jM ag.obj;induction t with
 |pair a b dR dS=>
  have aoi:=Gw f Bu a;have aol:=Gw f Bu b;refine bQ.mk mixed fE wG xG (by simp) ag.obj fun aP cQ=>?_;unfold uM;simp[hu,aw,cI,aA,dd];(with_reducible repeat' first|refine aj ?_|simp[hu,aw,cI,aA]);refine c7.ob (dR fun v aJ=>aI v (by simp[T.occ,aJ])) ag aR aR (by simp[ax]) ?_;rintro r ai ⟨rfl,rfl⟩;refine⟨Same.refl _,?_⟩;simp[gN,im,cv,aA];(with_reducible repeat' first|((first|apply bP|apply bS|apply bR)<;>intro h<;>try simp at h)|refine aj ?_|simp[hu,aw,cI,aA])
  ·refine cR.at ai (.inl rfl) ag (Same.refl _) aR aR ?_;simp[cX,ue,aX,aZ,aW];simp[k3];omega
  ·rw[dd];refine c7.ob (dS fun v aJ=>aI v (by simp[T.occ,aJ])) ag aR aR (by simp[ax]) ?_;rintro r s2 ⟨rfl,rfl⟩;refine⟨Same.refl _,?_⟩;simp[gN,im,cv,aA];(with_reducible repeat' first|((first|apply bP|apply bS|apply bR)<;>intro h<;>try simp at h)|refine aj ?_|simp[hu,aw,cI,aA]);refine cR.at s2 (.inl rfl) ag (Same.refl _) aR aR ?_;simp[cX,ue,aX,aZ,aW];simp[k3];omega
 |var n=>refine bQ.mk mixed fE wG xG (by simp) ag.obj fun aP cQ=>?_;unfold uM;simp[hu,aw,cI,aA,dd];(with_reducible repeat' first|refine aj ?_|simp[hu,aw,cI,aA]);refine c7.ob (aI n (by simp[T.occ])) ag aR aR (by simp[ax]) ?_;rintro r ai ⟨rfl,rfl⟩;refine⟨Same.refl _,?_⟩;simp[gN,im,cv,aA];refine cR.at ai (.inl rfl) ag (Same.refl _) aR aR ?_;simp[cX,ue,aX,aZ,aW];simp[k3]
 |_=>refine bQ.mk mixed fE wG xG (by simp) ag.obj fun aP cQ=>?_;unfold uM;simp[hu,aw,cI,aA,dd];(with_reducible repeat' first|refine aj ?_|simp[hu,aw,cI,aA]);refine cR.at s (.inl rfl) ag (Same.refl _) aR aR ?_;simp[cX,ue,aX,aZ,aW];simp[k3]
theorem acv(s:cJ)(ag:eo s)(g:Nat)(dm:List ah)(ax:aK (inObs s) dm)(dd:cY dm=dm)(f:Int→aY T)(t:T)(aI:∀v,t.occ v=true→bQ al g (.int .i64 v::dm) s fun r ai=>r= .tuple [((f v).getD .nil).e,.bool (f v).isSome]∧ai=s):
  bQ al 194 [t.e,.func g dm] s fun r ai=>r=(t.sub f).e∧ai=s:=by
 have aA:∀m,Pv.look (.loc m) s.b=none:=ag.obj.1;have cF:∀m,Pv.look (.loc m) s.e=none:=ag.obj.2;have hu:∀m cs,cx (.loc m) cs s.b=s.b++[(.loc m,cs)]:=fun m cs=>jR (aA m);have aw:∀m,aH.loc m∉cS s:=jM ag.obj;have ls:∀m p r,cx (.loc m) p (s.b++r)=s.b++cx (.loc m) p r:=fun m p r=>Au (aA m);induction t with
 |pair a b dR dS=>refine bQ.mk mixed fE yD zJ (by simp) ag.obj fun aP cQ=>?_;unfold wB;simp[hu,aw,cI,aA,cF,dd,ls];(with_reducible repeat' first|refine aj ?_|simp[hu,aw,cI,aA,cF,ls]);refine hX.ob (dR fun v aJ=>aI v (by simp[T.occ,aJ])) ag ag (Same.refl _) aR aR (by simp[ax]) ?_;simp[gN,im,cv,aA,dd];refine hX.ob (dS fun v aJ=>aI v (by simp[T.occ,aJ])) ag ag (Same.refl _) aR aR (by simp[ax]) ?_;simp[gN,im,cv,aA,dd];(with_reducible repeat' first|refine aj ?_|refine aD (GV _ _) ?_|refine aE (GV _ _) ?_|simp);refine cR.at s (.inl rfl) ag (Same.refl _) aR aR ?_;simp[cX,xO,aX,aZ,aW,cI,aA];simp[T.sub]
 |var n=>
  refine bQ.mk mixed fE yD zJ (by simp) ag.obj fun aP cQ=>?_;unfold wB;simp[hu,aw,cI,aA,dd,ls];(with_reducible repeat' first|refine aj ?_|simp[hu,aw,cI,aA,ls]);refine c7.ob (aI n (by simp[T.occ])) ag aR aR (by simp[ax]) ?_;rintro r ai ⟨rfl,rfl⟩;refine⟨Same.refl _,?_⟩;simp[gN,im,cv,aA,hu,aw,cI];(with_reducible repeat' first|((first|apply bP|apply bS|apply bR)<;>intro h<;>try simp at h)|refine aj ?_|refine aD (sS _) ?_|refine aE (sS _) ?_|simp[hu,aw,cI,aA,ls]);all_goals refine cR.at ai (.inl rfl) ag (Same.refl _) aR aR ?_
  all_goals simp[cX,xO,aX,aZ,aW,cI,aA]
  all_goals cases qm:f n<;>simp_all[T.sub]
 |_=>refine bQ.mk mixed fE yD zJ (by simp) ag.obj fun aP cQ=>?_;unfold wB;simp[hu,aw,cI,aA,dd,ls];(with_reducible repeat' first|((first|apply bP|apply bS|apply bR)<;>intro h<;>try simp at h)|refine aj ?_|simp[hu,aw,cI,aA,ls]);refine cR.at s (.inl rfl) ag (Same.refl _) aR aR ?_;simp[cX,xO,aX,aZ,aW,cI,aA];simp[T.sub]
def nO(l:List ar):cJ:=⟨[(.obj 201,[.slice 5 .no (l.map ar.e)])],[]⟩
def qM(l:List ar):cJ:=⟨[(.obj 201,[.slice 5 .no (l.map ar.e)]),(.obj 202,[.func 138 [.ptr (.obj 201) 0]])],[]⟩
theorem AG(l:List ar):eo (nO l):=by unfold nO;exact(eo.of ⟨by intro m;simp[Pv.look],by intro m;simp[Pv.look]⟩ (by simp[aK,aC,inObs,Pv.look]) (by simp[aK,aC,inObs,Pv.look]))
theorem G5(l:List ar):eo (qM l):=by unfold qM;exact(eo.of ⟨by intro m;simp[Pv.look],by intro m;simp[Pv.look]⟩ (by simp[aK,aC,inObs,Pv.look]) (by simp[aK,aC,inObs,Pv.look]))
def tp(l:List ar)(v:Int):Int:=match rB l v with|some x=>fo x.tm 5000|none=>1
theorem acb(l:List ar)(v:Int): -1≤tp l v:=by
 unfold tp;split
 ·rename_i x _;rcases Cp x.tm 5000 with h|h<;>omega
 ·omega
theorem WR(t:T):bH al 131 [t.e,.int .i64 5000] (.int .i64 (fo t.tm 5000)):=by have:=WQ t.tm.sz t.tm (eR _) 5000 (by omega);rwa[iQ]at this
theorem acF(l:List ar)(v:Int)(au:l.length≤1000000):bQ al 193 [.int .i64 v,.ptr (.obj 202) 0] (qM l) fun r ai=>r= .int .i64 (tp l v)∧ai=qM l:=by
 have ag:=G5 l;unfold qM at ag⊢;refine bQ.mk mixed fE aaK aha (by simp) ag.obj fun aP cQ=>?_;unfold Oe;simp;refine c7.ob (QV l v au _ rfl) (AG l) aR aR (by simp[inObs]) ?_;rintro r ai ⟨rfl,rfl⟩;refine⟨Same.refl _,?_⟩;simp[cv];(with_reducible repeat' first|((first|apply bP|apply bS|apply bR)<;>intro h<;>try simp at h)|refine aj ?_|refine aD (WR _) ?_|refine aE (WR _) ?_|simp);all_goals refine cR.at _ (.inl rfl) ag (Same.refl _) aR aR ?_
 all_goals simp[cX,U1,aX,aZ,aW]
 all_goals unfold tp
 all_goals cases bJ:rB l v<;>simp_all
def CH(l:List ar)(t:T):T:=t.sub (rB l)
def sH(l:List ar)(t:T):Bool:=decide (k3 (tp l) t≤5000)
theorem acE(l:List ar)(t:T)(au:l.length≤1000000):bQ al 137 [t.e,.func 138 [.ptr (.obj 201) 0]] (nO l) fun r ai=>r= .tuple [(if sH l t then CH l t else .nil).e,.bool (sH l t)]∧ai=nO l:=by
 have ag:=AG l;unfold nO at ag⊢;refine bQ.mk mixed fE aaJ ag9 (by simp) ag.obj fun aP cQ=>?_;unfold Od;simp;refine c7.ob (acI (qM l) (G5 l) 193 [.ptr (.obj 202) 0] (by simp[inObs,qM]) (by simp) (tp l) (acb l) t fun v aJ=>acF l v au) (G5 l) (by unfold qM;exact aR) (by unfold qM;exact aR) (by simp[inObs,qM]) ?_;rintro r ai ⟨rfl,rfl⟩;refine⟨Same.refl _,?_⟩;unfold qM;simp[cv];(with_reducible repeat' first|((first|apply bP|apply bS|apply bR)<;>intro h<;>try simp at h)|refine aj ?_|simp)
 ·refine cR.at _ (.inl rfl) ag (Same.refl _) aR aR ?_;simp[cX,Lb,aX,aZ,aW];have:sH l t=false:=by simp[sH];omega
  simp[this]
 ·refine c7.ob (acv (nO l) (AG l) 138 [.ptr (.obj 201) 0] (by simp[inObs,nO]) (by simp) (rB l) t fun v aJ=>QV l v au _ rfl) (AG l) (by unfold nO;exact aR) (by unfold nO;exact aR) (by simp[inObs,nO]) ?_;rintro r ai ⟨rfl,rfl⟩;refine⟨Same.refl _,?_⟩;unfold nO;simp[cv];refine cR.at _ (.inl rfl) ag (Same.refl _) aR aR ?_;simp[cX,Lb,aX,aZ,aW];have:sH l t=true:=by simp[sH];omega
  simp[this,CH]
theorem alW(l:List ar)(t:T)(au:l.length≤1000000):bH al 69 [.slice 5 .no (l.map ar.e),t.e] (.tuple [(if sH l t then CH l t else .nil).e,.bool (sH l t)]):=by refine bf fE aaH ag7 fun aP=>?_;unfold Ob;simp;refine c7.ob (acE l t au) (AG l) (by unfold nO;exact aR) (by unfold nO;exact aR) (by simp[inObs,nO]) ?_;rintro r ai ⟨rfl,rfl⟩;refine⟨Same.refl _,?_⟩;unfold nO;simp[cv];simp[bt,U0,aX,aZ,aW]
theorem LX(p:Nat→Bool)(n:Nat)(hm:∀k bM,k≤bM→bM<n→p k=true→p bM=true):∀(m i j:Nat),j-i≤m→i≤j→j≤n→(∀k,k<i→p k=false)→(∀k,j≤k→k<n→p k=true)→
  (i≤l1 p i j∧l1 p i j≤j)∧(∀k,k<l1 p i j→p k=false)∧(∀k,l1 p i j≤k→k<n→p k=true)
 |m,i,j,aQ,lR,af,J,U=>by
  rw[l1];split
  ·rename_i bC;obtain⟨m,rfl⟩:∃hj,m=hj+1:=⟨m-1,by omega⟩;split
   ·rename_i bJ;have:=LX p n hm m i ((i+j)/2) (by omega) (by omega) (by omega) J (fun k ad ED=>hm _ k ad ED bJ);exact⟨⟨this.1.1,by omega⟩,this.2⟩
   ·rename_i bJ;have:=LX p n hm m ((i+j)/2+1) j (by omega) (by omega) af (fun k ad=>by
     by_cases nv:p k=true
     ·exact absurd (hm k ((i+j)/2) (by omega) (by omega) nv) bJ
     ·simpa using nv) U
    exact⟨⟨by omega,this.1.2⟩,this.2⟩
  ·obtain rfl:i=j:=by omega
   exact⟨⟨eR _,eR _⟩,J,U⟩
theorem KZ{l:List ar}(ag:ir l)(v:Int):rB l v=dh l v:=by
 have bC:∀(i j:Nat) (x y:ar),i<j→l[i]? =some x→l[j]? =some y→x.v<y.v:=by intro i j x y lR ab aG;obtain⟨J,rfl⟩:=fL.1 ab;obtain⟨U,rfl⟩:=fL.1 aG;exact pg.1 ag i j J U lR
 obtain⟨p,bJ⟩:∃p:Nat→Bool,p=(fun i=>match l[i]? with|some b=>decide (v≤b.v)|none=>false):=⟨_,rfl⟩;have EK:∀i b,l[i]? =some b→p i=decide (v≤b.v):=fun i b ae=>by rw[bJ];simp[ae]
 have hm:∀k bM,k≤bM→bM<l.length→p k=true→p bM=true:=by
  intro k bM ad nv h;have ak:l[k]? =some l[k]:=cf (by omega);have aB:l[bM]? =some l[bM]:=cf nv;rw[EK k _ ak]at h;rw[EK bM _ aB];simp only[fH]at h⊢;rcases Nat.lt_or_eq_of_le ad with va|rfl
  ·have:=bC k bM _ _ va ak aB;omega
  ·exact h
 obtain⟨⟨_,hle⟩,hbef,haft⟩:=LX p l.length hm l.length 0 l.length (by omega) (by omega) (eR _) (fun k ad=>by omega) (fun k J U=>by omega);have I9:mJ l v=(match l[l1 p 0 l.length]? with|some b=>if b.v=v then((l1 p 0 l.length:Nat):Int)else-1|none=> -1):=by rw[bJ];rfl
 generalize l1 p 0 l.length=r at hle hbef haft I9;by_cases hex:∃(k:Nat) (b:ar),l[k]? =some b∧b.v=v
 ·obtain⟨k,b,ae,Rk⟩:=hex;have ih:k<l.length:=(fL.1 ae).1;have gn:r≤k:=by
   rcases Nat.lt_or_ge k r with h|h
   ·have:=hbef k h;rw[EK k b ae]at this;simp at this;omega
   ·exact h
  have aL:l[r]? =some l[r]:=cf (by omega);have zb:=haft r (eR _) (by omega);rw[EK r _ aL]at zb;simp only[fH]at zb;have aeo:r=k:=by
   rcases Nat.lt_or_eq_of_le gn with h|h
   ·have:=bC r k _ _ h aL ae;omega
   ·exact h
  subst aeo;have Jc:mJ l v=r:=by rw[I9,ae];simp[Rk]
  have J:rB l v=some b.t:=by unfold rB;rw[Jc,if_neg (by omega)];simp[ae]
  have U:l.find? (fun b=>b.v==v)=some b:=by
   rw[List.find?_eq_some_iff_getElem];refine⟨by simp[Rk],r,ih,?_,fun j af=>?_⟩
   ·rw[cf ih]at ae;simpa using ae
   ·have:=bC j r l[j] b af (cf (by omega)) ae;simp;omega
  rw[J];simp[dh,U]
 ·have U:l.find? (fun b=>b.v==v)=none:=by rw[List.find?_eq_none];intro b ae;obtain⟨k,ad,rfl⟩:=List.mem_iff_getElem.1 ae;simp;intro e;exact hex ⟨k,l[k],cf ad,e⟩
  have Jc:mJ l v= -1:=by
   rw[I9];split
   ·rename_i b ae;rw[if_neg (fun e=>hex ⟨r,b,ae,e⟩)]
   ·rfl
  unfold rB;rw[Jc];simp[dh,U]
theorem QG{l:List ar}(ag:ir l)(v:Int):mJ l v<0↔dh l v=none:=by
 rw[←KZ ag v];unfold rB;have J:=QF l v;by_cases h:mJ l v<0
 ·simp[h]
 ·simp only[h,if_false,false_iff];intro e;rw[Option.map_eq_none_iff,List.getElem?_eq_none_iff]at e;omega
def yI(s:List ar):Prop:= ∀b∈s,b.t.fit=true
theorem aca{l:List ar}(ag:ir l)(h:yI l)(v:Int):tp l v=(cB l v).size:=by
 unfold tp cB;rw[KZ ag];cases ae:dh l v with
 |none=>simp[T.size]
 |some x=>have:=h _ (jT ae);simp only[T.fit,cA,fH]at this;simp only[ky];rw[FC,if_pos ⟨this.1,by omega⟩]
theorem ake{l:List ar}(ag:ir l)(h:yI l)(t:T):k3 (tp l) t=cut (t.ap (cB l)).size:=by
 induction t with
 |var n=>simp only[k3,aca ag h,T.ap];rfl
 |pair a b dR dS=>have ae:=T.size_pos (b.ap (cB l));simp only[k3,dR,dS,T.ap,T.size];unfold cut;(repeat' split)<;>omega
 |_=>simp[k3,T.ap,T.size,cut]
theorem aiB{l:List ar}(ag:ir l)(h:yI l)(t:T):sH l t=decide ((t.ap (cB l)).size≤5000):=by unfold sH;rw[ake ag h];unfold cut;split<;>simp<;>omega
theorem aiC{l:List ar}(ag:ir l)(t:T):CH l t=t.ap (cB l):=by unfold CH;rw[V2];exact tc fun v _=>by rw[KZ ag];rfl
theorem GW(l:List ar)(t:T)(au:l.length≤1000000)(ag:ir l)(h:yI l):bH al 69 [.slice 5 .no (l.map ar.e),t.e] (.tuple [(if(t.ap (cB l)).size≤5000 then t.ap (cB l)else .nil).e,.bool (decide ((t.ap (cB l)).size≤5000))]):=by have:=alW l t au;rw[aiB ag h,aiC ag]at this;simpa using this
def Cf(l:List (Int×T)):List ah:=jz (l.map fun x=>(x.1,x.2.e))
@[simp] theorem apn:Cf []=jz []:=rfl
@[simp] theorem aqH(m:aH)(l:List (Int×T)):vM m (Cf l)=some (cd l.length [] m):=by simp[Cf]
@[simp] theorem apS(l:List (Int×T)):hM (Cf l)=false:=rfl
@[simp] theorem apE(f:aH→aY (List ah))(m:aH)(l:List (Int×T))(hm:f m=some (Cf l)):tW f (.gmap m)=some (True,.int .i64 l.length):=by have:=agh f m _ hm;simpa using this
end Go.Proofs.YtahlgcidhnjlbaaGreat
namespace Go.Proofs
open Go.Shelf
def Tryz.lays191_ren:Go.Shelf.Ren:=⟨fun|191=>191|189=>220|125=>213|257=>250|128=>236|129=>237|294=>261|295=>262|296=>263|297=>264|298=>265|299=>266|216=>267|300=>268|301=>269|328=>272|329=>273|330=>274|331=>275|332=>276|215=>277|343=>278|n=>n,fun|28=>76|0=>0|3=>3|46=>192|51=>206|53=>208|4=>4|183=>230|182=>229|131=>214|5=>5|9=>9|218=>238|222=>226|228=>241|229=>236|n=>n,fun|n=>n⟩
theorem Tryz.lays191:Go.Proofs.Lays.n191 al Tryz.lays191_ren:={
 mixed:=by kernel_rfl
 f125:=Tryz.func213.trans (e5 some (by kernel_rfl))
 f128:=Tryz.func236.trans (e5 some (by kernel_rfl))
 f129:=Tryz.func237.trans (e5 some (by kernel_rfl))
 f189:=Tryz.func220.trans (e5 some (by kernel_rfl))
 f191:=Tryz.func191.trans (e5 some (by kernel_rfl))
 f215:=Tryz.func277.trans (e5 some (by kernel_rfl))
 f216:=Tryz.func267.trans (e5 some (by kernel_rfl))
 f257:=Tryz.func250.trans (e5 some (by kernel_rfl))
 f294:=Tryz.func261.trans (e5 some (by kernel_rfl))
 f295:=Tryz.func262.trans (e5 some (by kernel_rfl))
 f296:=Tryz.func263.trans (e5 some (by kernel_rfl))
 f297:=Tryz.func264.trans (e5 some (by kernel_rfl))
 f298:=Tryz.func265.trans (e5 some (by kernel_rfl))
 f299:=Tryz.func266.trans (e5 some (by kernel_rfl))
 f300:=Tryz.func268.trans (e5 some (by kernel_rfl))
 f301:=Tryz.func269.trans (e5 some (by kernel_rfl))
 f328:=Tryz.func272.trans (e5 some (by kernel_rfl))
 f329:=Tryz.func273.trans (e5 some (by kernel_rfl))
 f330:=Tryz.func274.trans (e5 some (by kernel_rfl))
 f331:=Tryz.func275.trans (e5 some (by kernel_rfl))
 f332:=Tryz.func276.trans (e5 some (by kernel_rfl))
 f343:=Tryz.func278.trans (e5 some (by kernel_rfl))
 t0:=Tryz.underlying0
 a0:=Tryz.isAgg0
 z0:=Tryz.sizeOf0
 v0:=Tryz.zeroValue0
 t3:=Tryz.underlying3
 a3:=Tryz.isAgg3
 z3:=Tryz.sizeOf3
 v3:=Tryz.zeroValue3
 t4:=Tryz.underlying4
 a4:=Tryz.isAgg4
 z4:=Tryz.sizeOf4
 v4:=Tryz.zeroValue4
 t5:=Tryz.underlying5
 a5:=Tryz.isAgg5
 z5:=Tryz.sizeOf5
 v5:=Tryz.zeroValue5
 t9:=Tryz.underlying9
 a9:=Tryz.isAgg9
 z9:=Tryz.sizeOf9
 v9:=Tryz.zeroValue9
 t28:=Tryz.underlying76
 a28:=Tryz.isAgg76
 z28:=Tryz.sizeOf76
 v28:=Tryz.zeroValue76
 t46:=Tryz.underlying192
 a46:=Tryz.isAgg192
 z46:=Tryz.sizeOf192
 v46:=Tryz.zeroValue192
 t51:=Tryz.underlying206
 a51:=Tryz.isAgg206
 z51:=Tryz.sizeOf206
 v51:=Tryz.zeroValue206
 t53:=Tryz.underlying208
 a53:=Tryz.isAgg208
 z53:=Tryz.sizeOf208
 v53:=Tryz.zeroValue208
 t131:=Tryz.underlying214
 a131:=Tryz.isAgg214
 z131:=Tryz.sizeOf214
 v131:=Tryz.zeroValue214
 t182:=Tryz.underlying229
 a182:=Tryz.isAgg229
 z182:=Tryz.sizeOf229
 v182:=Tryz.zeroValue229
 t183:=Tryz.underlying230
 a183:=Tryz.isAgg230
 z183:=Tryz.sizeOf230
 v183:=Tryz.zeroValue230
 t218:=Tryz.underlying238
 a218:=Tryz.isAgg238
 z218:=Tryz.sizeOf238
 v218:=Tryz.zeroValue238
 t222:=Tryz.underlying226
 a222:=Tryz.isAgg226
 z222:=Tryz.sizeOf226
 v222:=Tryz.zeroValue226
 t228:=Tryz.underlying241
 a228:=Tryz.isAgg241
 z228:=Tryz.sizeOf241
 v228:=Tryz.zeroValue241
 t229:=Tryz.underlying236
 a229:=Tryz.isAgg236
 z229:=Tryz.sizeOf236
 v229:=Tryz.zeroValue236}
end Go.Proofs

namespace Go.Proofs.YtahlgcidhnjlbaaGreat
open Go Go.Pv
def ep(xs:List Int):List ah:=xs.map (ah.int .i64)
theorem Vv{w:World}{ν:bd}:∀{xs:List Int} {us:List Value},dy w ν 1 (ep xs) us→us=xs.map (Value.int .i64)
 |[],us,h=>by simpa[ep,dy]using h
 |x::xs,us,h=>by simp only[ep,gE,dy]at h;obtain⟨u,cg,rfl,⟨J,_,_⟩,U⟩:=h;simp only[ba]at J;subst J;rw[Vv U];rfl
theorem Sy(w:World)(ν:bd):∀xs:List Int,dy w ν 1 (ep xs) (xs.map (Value.int .i64))
 |[]=>by simp[ep,dy]
 |x::xs=>by simp only[ep,gE,dy];exact⟨.int .i64 x,_,rfl,⟨by simp[ba],rfl,by intro c ax;simp[pc]at ax;subst ax;rfl⟩,Sy w ν xs⟩
def mE(K:Nat)(xs:List Int):cJ:=⟨[],[(.obj K,⟨xs.length,3,1,some (ep xs)⟩)]⟩
theorem sx(S:aH→Prop)(xs:List Int):aK S (ep xs):=by
 induction xs with
 |nil=>simp[ep,aK]
 |cons x r bT=>simp only[ep,gE,aK,aC];exact⟨trivial,bT⟩
theorem G8(K:Nat)(xs:List Int):eo (mE K xs):=by unfold mE;refine eo.of ⟨by intro m;simp[Pv.look],by intro m;simp[Pv.look]⟩ (by simp) ?_;intro x ab ys aG;simp at ab;subst ab;simp at aG;subst aG;exact sx _ xs
def qC(xs:List Int):List Int:=xs.mergeSort fun x y=>decide (x≤y)
theorem VT(xs:List Int):(qC xs).length=xs.length:=List.length_mergeSort xs
theorem acN(K:Nat)(xs:List Int)(au:xs.length≤1000000):bQ al 191 [.row 1 (.obj K) xs.length] (mE K xs) fun r ai=>r= .tuple []∧ai=mE K (qC xs):=by
 refine bQ.sem (G8 K xs).obj fun w ν bc kH aL=>?_;refine .inl ⟨⟨Tryz.f191,Tryz.func191,by kernel_rfl,by kernel_rfl⟩,?_⟩;have rf:=aL.slot 0;simp only[j2,Pv.get,if_true]at rf;have kF:Pv.look (.obj K) (mE K xs).e=some ⟨xs.length,3,1,some (ep xs)⟩:=by simp[mE,Pv.look]
 obtain⟨v,us,a6,bu,bV,cW⟩:=aL.good.own (.obj K) _ kF;obtain⟨da,nB,uc⟩:=cW _ rfl;have qt:=Vv nB;subst qt;simp only[ba]at rf;obtain⟨⟨amO,Yb,u0⟩,_,n',u,ak,aB,bj⟩:=rf;rw[a6]at ak;simp only[dG,jj]at ak;obtain⟨rfl,rfl⟩:=ak;have aJ:=bj rfl;have aeD:bc= #[v]:=by
  have J:bc.size=1:=by simpa using kH
  apply Array.ext (by simpa using J);intro i U ao;simp at ao;subst ao;rw[←aJ];simp[Array.getD,J]
 have cF:v≠ .slice none 0 0:=by rw[←aJ,u0];simp
 obtain⟨g,cap,rfl,_,qn,q6,adC,Bw,Bl⟩:=Lib.holds_of_ownsRow bu cF;have ax:=Any.sort_Ints Tryz.lays191 g 0 cap xs w Bl qn (by omega);subst aeD;refine ax.mono ?_;rintro e w' ⟨rfl,n,os,rfl⟩;have pD:=VT xs;have lp:=Lib.ownsRow_putRow (q:=n) (k:=xs.length) (ys:=qC xs) bu pD (eR _);rw[hl (by omega)]at lp;obtain⟨cM,dn,_⟩:=aL.setRowM (w':=Sort.putRow (Value.int .i64) (Sort.ahead w n) g 0 (qC xs).toArray) kF rfl a6 (bl:=g) rfl (v':= .slice (some ⟨g,0,none⟩) xs.length cap) rfl (xs':=ep (qC xs)) (us:=(qC xs).map (Value.int .i64)) (.inl ⟨by simp[ep,pD],rfl⟩) rfl rfl rfl
  (fun j af=>by simp[Sort.putRow,Sort.mapBlock,Sort.ahead,Array.getElem?_modify,kP af]) (by simp[Sort.putRow,Sort.mapBlock,Sort.ahead]) (by simpa[ep,pD]using lp) (Sy _ _ _)
 have iI:=cM.grown (w':=Sort.grow (Sort.putRow (Value.int .i64) (Sort.ahead w n) g 0 (qC xs).toArray) os) ⟨rfl,rfl,rfl,by simp,fun k ad _=>Sort.heap_grow_old _ _ ad⟩;refine⟨_,_,_,_,.tuple [],mE K (qC xs),rfl,iI,by simp[ba,cN],by simp[mE,lY],?_,?_,?_,(G8 K _).obj,by simp[aC,aK],rfl,rfl⟩
 ·simp[mE,lY,inObs,Pv.look]
 ·intro k cs ad;simp[mE,Pv.look]at ad
 ·intro k o ad;have hm:=sA ad;simp[mE]at hm;obtain⟨rfl,rfl⟩:=hm;refine⟨by simp[mE,Pv.look,cx,ep,pD],.inr (by simp[ad]),fun ys aG=>?_⟩;simp at aG;subst aG;exact sx _ _
def nT(l:List Int):List ah:=jz (l.map fun x=>(x,.bool true))
theorem mq(S:aH→Prop)(l:List Int):aK S (nT l):=by
 have:∀l:List Int,aK S (kc (l.map fun x=>(x,.bool true))):=by
  intro l;induction l with
  |nil=>simp[kc,aK]
  |cons x r bT=>simp[kc,aK,bT,aC]
 simp[nT,jz,aK,this,aC]
def Hk(v:Int)(l:List Int):List Int:=if v∈l then l else l++[v]
theorem Nc(k:Int):∀l:List Int,oJ k (.bool true) (l.map fun x=>(x,ah.bool true))=if k∈l then some (l.map fun x=>(x,ah.bool true))else none
 |[]=>rfl
 |i::r=>by
  by_cases h:k=i
  ·simp[oJ,h]
  ·by_cases U:k∈r<;>simp[oJ,h,U,Nc k r]
@[simp] theorem apF(k:Int)(l:List Int):og .i (.int .i64 k) (.bool true) (nT l)=some (nT (Hk k l)):=by
 simp only[nT,TU,DA,Nc,Hk];split<;>rename_i h
 ·split at h
  ·simp at h;subst h;simp[*]
  ·cases h
 ·split at h
  ·cases h
  ·simp[*]
@[simp] theorem amP:nT []=jz []:=rfl
@[simp] theorem apQ(l:List Int):hM (nT l)=false:=rfl
@[simp] theorem aqG(m:aH)(l:List Int):vM m (nT l)=some (cd l.length [] m):=by simp[nT]
theorem afT(f:aH→aY (List ah))(fh mk:aH)(n:Nat)(seen:List Nat)(b:Nat)(l:List Int)(x:Int)(hi:f fh=some (cd n (seen++[b]) mk))(hm:f mk=some (nT l))(aA:n=l.length)(ab:l[b]? =some x):o3 f (.ptr fh 0)=some (True,.tuple [.int .i64 x,.bool true]):=by rw[TG f fh mk n seen b _ hi hm (by simpa using aA)];simp[ab]
theorem Zd{st:bq}{d:Nat}{K:bq→Prop}{fh mk:aH}{n:Nat}{seen:List Nat}{l:List Int}(hi:Pv.look fh st.b=some (cd n seen mk))(hm:Pv.look mk st.b=some (nT l))(aA:n=l.length)
  (J:(∀b,b<l.length→b∈seen)→K {st with t:=Pv.put d (.tuple [.bool false]) st.t}) (U:∀b x,l[b]? =some x→b∉seen→K {st with t:=Pv.put d (.tuple [.bool true,.int .i64 x,.bool true]) st.t,b:=cx fh (cd n (seen++[b]) mk) st.b}):
  r5 st d (.ptr fh 0) K:=by
 refine P9 hi hm (by simpa using aA) (fun h=>J fun b ae=>h b (by omega)) (fun b k v ae ag=>?_);simp only[List.getElem?_map,gF]at ae;obtain⟨x,ak,aB⟩:=ae;simp only[jj]at aB;obtain⟨rfl,rfl⟩:=aB;exact U b x ak ag
def _root_.Go.Pv.T.fold{α:Type}(f:Int→α→α):T→α→α
 | .var n,a=>f n a
 | .pair x y,a=>y.fold f (x.fold f a)
 |_,a=>a
theorem QQ{α:Type}(S:α→cJ)(dC:∀a,eo (S a))(e2:∀a b,Same (S a) (S b))(g:Nat)(dm:List ah)(ax:∀a,aK (inObs (S a)) dm)(dd:cY dm=dm)(f:Int→α→α)(aI:∀v a,bQ al g (.int .i64 v::dm) (S a) fun r ai=>r= .tuple []∧ai=S (f v a))(t:T):
  ∀a,bQ al 134 [t.e,.func g dm] (S a) fun r ai=>r= .tuple []∧ai=S (t.fold f a):=by
 have aA:∀a m,Pv.look (.loc m) (S a).b=none:=fun a=>(dC a).obj.1;have hu:∀a m cs,cx (.loc m) cs (S a).b=(S a).b++[(.loc m,cs)]:=fun a m cs=>jR (aA a m);have aw:∀a m,aH.loc m∉cS (S a):=fun a=>jM (dC a).obj;induction t with
 |pair x y o0 rl=>intro a;have ag:=dC a;refine bQ.mk mixed fE yC zI (by simp) ag.obj fun aP cQ=>?_;unfold wA;simp[hu,aw,cI,aA,dd];(with_reducible repeat' first|refine aj ?_|simp[hu,aw,cI,aA]);refine c7.ob (o0 a) ag aR aR (by simp[ax]) ?_;rintro r ai ⟨rfl,rfl⟩;refine⟨e2 _ _,?_⟩;simp[gN,im,cv,aA];(with_reducible repeat' first|refine aj ?_|simp[hu,aw,cI,aA]);rw[dd];refine c7.ob (rl (x.fold f a)) (dC (x.fold f a)) aR aR (by simp[ax]) ?_;rintro r ai ⟨rfl,rfl⟩;refine⟨e2 _ _,?_⟩;simp[gN,im,cv,aA];refine cR.at (S (y.fold f (x.fold f a))) (.inr rfl) (dC _) (e2 _ _) aR aR ?_;simp[cX,xN,aX,aZ,aW];simp[T.fold]
 |var n=>intro a;have ag:=dC a;refine bQ.mk mixed fE yC zI (by simp) ag.obj fun aP cQ=>?_;unfold wA;simp[hu,aw,cI,aA,dd];(with_reducible repeat' first|refine aj ?_|simp[hu,aw,cI,aA]);refine c7.ob (aI n a) ag aR aR (by simp[ax]) ?_;rintro r ai ⟨rfl,rfl⟩;refine⟨e2 _ _,?_⟩;simp[gN,im,cv,aA,cI];refine cR.at (S (f n a)) (.inr rfl) (dC _) (e2 _ _) aR aR ?_;simp[cX,xN,aX,aZ,aW];simp[T.fold]
 |_=>intro a;have ag:=dC a;refine bQ.mk mixed fE yC zI (by simp) ag.obj fun aP cQ=>?_;unfold wA;simp[hu,aw,cI,aA,dd];(with_reducible repeat' first|refine aj ?_|simp[hu,aw,cI,aA]);refine cR.at (S a) (.inr rfl) ag (Same.refl _) aR aR ?_;simp[cX,xN,aX,aZ,aW];simp[T.fold]
def s7(l:List Int):cJ:=⟨[(.obj 304,nT l)],[]⟩
theorem MV(l:List Int):eo (s7 l):=by unfold s7;exact eo.of ⟨by intro m;simp[Pv.look],by intro m;simp[Pv.look]⟩ (by simp[mq,aK,aC,inObs,Pv.look]) (by simp)
def Hx:C:=(aa [cz 1 0,be 2 false] (.seq (.seq (.fz false 1 (.region [av 6 1 1,cE 7 158 6,cw 8 7])) (aS 8 (aa [be 2 false] .ret) .skip)) (.seq (aa [av 9 1 1,cl 10 9,bW 11 0] (ft 12 11 10 (.seq (.block 1 (aa [cu 13 5 9 11,aV 14 5 13,dj 4 jy,bL 5 4 14] (aa [c1 (.alloc 5 (some 731) (.bool false)),c1 (.store 1 (.t 5) (.c (.bool true)))] (aa [hC 15 1 4 4,aV 16 4 15,b5 17 (.mkf 159 [.t 1,.t 5]),ca 18 134 16 17] (aa [av 19 1 5,cw 20 19,I 21 20,aq 21 false (hC 22 1 4 4),aq 21 false (aF 23 0 1 22),aq 21 false (av 24 1 23),aq 21 false (aU 25 .eql 24 1),b3 21 false 26 25,aq 26 true (hC 27 1 4 4),aq 26 true (aF 28 1 1 27),aq 26 true (av 29 1 28),aq 26 true (aF 30 0 1 4),aq 26 true (av 31 1 30),aq 26 true (bm 32 .geq 29 31),aq 21 false (dx 33 26 32),c6 34 21 33] (aS 34 (aa [be 2 false] .ret) .skip)))))) (.region [aU 35 .add 11 1,I 11 35])))) (aa [be 2 true] .ret))))
@[simp] def aiL:List bs:=[.tmp 2]
def Hy:C:=(aa [av 4 1 1,I 5 0,ca 6 139 4 5,aU 7 .geq 6 0] (aS 7 (.region [c1 (.store 1 (.t 2) (.c (.bool false)))]) .skip))
@[simp] def K7:List bs:=[]
def NC:C:=(aa [eE 4 5,be 5 false] (.seq (aa [I 8 0,cE 9 86 8,cw 10 9,I 11 10,b3 11 false 12 1,aq 11 false (cE 13 86 12),aq 11 false (cw 14 13),c6 15 11 14] (aS 15 (aa [eE 4 5,be 5 false] .ret) .skip)) (aa [I 17 1,cE 18 205 17,I 16 18,cD 19 0 16,cD 20 1 16,I 6 19,I 7 20] (aa [I 21 0,I 22 6,I 23 7,dp 24 186 [.t 21,.t 22,.t 23],cD 25 0 24,cD 26 1 24,I 4 25,I 5 26] .ret))))
@[simp] def UG:List bs:=[.tmp 4,.tmp 5]
def NI:C:=(aa [eE 4 5] (.seq (aa [I 8 0,cE 9 86 8,cw 10 9,I 11 10,b3 11 false 12 1,aq 11 false (cE 13 86 12),aq 11 false (cw 14 13),c6 15 11 14] (aS 15 (aa [eE 4 5] .ret) .skip)) (aa [ek 16 5 113 [],I 5 16] (.seq (aa [I 17 1,cl 18 17,bW 19 0] (ft 20 19 18 (.seq (.block 1 (aa [cu 21 5 17 19,aV 22 5 21,dj 7 jy,bL 5 7 22] (aa [I 23 0,aF 24 0 1 7,av 25 1 24,ca 26 139 23 25,aU 27 .lss 26 0] (aS 27 (.drawn true 39 [I 28 5,aF 29 0 1 7,av 30 1 29,hC 31 1 4 7,aV 32 4 31,cE 33 143 32,iq 34 jy [(0,1,(.t 30)),(1,4,(.t 33))],ek 35 5 113 [.t 34],gO 36 5 113 28 35,I 5 36]) .skip)))) (.region [aU 37 .add 19 1,I 19 37])))) (aa [I 38 5,I 4 38] .ret)))))
@[simp] def aiJ:List bs:=[.tmp 4]
def NZ:C:=(aa [eE 2 5] (aa [ek 6 5 113 [],I 3 6] (.seq (aa [I 7 0,cl 8 7,bW 9 0] (ft 10 9 8 (.seq (.block 1 (aa [cu 11 5 7 9,aV 12 5 11,dj 5 jy,bL 5 5 12] (.drawn true 24 [I 13 3,aF 14 0 1 5,av 15 1 14,hC 16 1 4 5,aV 17 4 16,cE 18 143 17,iq 19 jy [(0,1,(.t 15)),(1,4,(.t 18))],ek 20 5 113 [.t 19],gO 21 5 113 13 20,I 3 21]))) (.region [aU 22 .add 9 1,I 9 22])))) (aa [I 23 3,I 2 23] .ret))))
@[simp] def aiQ:List bs:=[.tmp 2]
def HC:C:=(aa [be 4 false] (.seq (aa [I 6 0,cl 7 6,I 8 1,cl 9 8,bm 10 .neq 7 9] (aS 10 (aa [be 4 false] .ret) .skip)) (.seq (aa [I 11 0,cl 12 11,bW 13 0] (ft 14 13 12 (.seq (.block 1 (aa [I 15 13,I 5 15] (.seq (.drawn true 42 [I 16 0,I 17 5,cu 18 5 16 17,aF 19 0 1 18,av 20 1 19,I 21 1,I 22 5,cu 23 5 21 22,aF 24 0 1 23,av 25 1 24,bm 26 .neq 20 25,I 27 26,b3 27 false 28 0,b3 27 false 29 5,aq 27 false (cu 30 5 28 29),aq 27 false (hC 31 1 4 30),aq 27 false (aV 32 4 31),b3 27 false 33 1,b3 27 false 34 5,aq 27 false (cu 35 5 33 34),aq 27 false (hC 36 1 4 35),aq 27 false (aV 37 4 36),aq 27 false (ca 38 142 32 37),aq 27 false (cw 39 38),c6 40 27 39]) (aS 40 (aa [be 4 false] .ret) .skip)))) (.region [aU 41 .add 13 1,I 13 41])))) (aa [be 4 true] .ret))))
@[simp] def UR:List bs:=[.tmp 4]
def N2:C:=(aa [eE 2 4,eE 3 4] (aa [ek 8 4 30 [],I 4 8] (aa [ek 9 4 30 [],I 5 9] (.seq (aa [I 10 0,cl 11 10,bW 12 0] (ft 13 12 11 (.seq (.block 1 (aa [cu 14 5 10 12,aV 15 5 14,dj 7 jy,bL 5 7 15] (aa [I 16 4,aF 17 0 1 7,av 18 1 17,cE 19 116 18,ek 20 4 30 [.t 19],gO 21 4 30 16 20,I 4 21] (.region [I 22 5,hC 23 1 4 7,aV 24 4 23,ek 25 4 30 [.t 24],gO 26 4 30 22 25,I 5 26])))) (.region [aU 27 .add 12 1,I 12 27])))) (aa [I 28 4,I 29 5,I 2 28,I 3 29] .ret)))))
@[simp] def UT:List bs:=[.tmp 2,.tmp 3]
def N8:C:=(aa [bW 4 0] (.seq (aa [bW 5 0] (.block 0 (.loop (.seq (aa [I 8 5,I 9 0,cl 10 9,bm 11 .lss 8 10,I 12 11,b3 12 true 13 5,b3 12 true 14 1,aq 12 true (cl 15 14),aq 12 true (bm 16 .lss 13 15),dx 17 12 16] (aS 17 .skip (.exit 0))) (.seq (.block 1 (.seq (.seq (.drawn true 53 [I 20 0,I 21 5,cu 22 5 20 21,aF 23 0 1 22,av 24 1 23,I 25 1,I 26 5,cu 27 5 25 26,aF 28 0 1 27,av 29 1 28,ca 30 190 24 29,I 6 30]) (aa [I 31 6,aU 32 .neq 31 0] (aS 32 (aa [I 33 6,I 4 33] .ret) .skip))) (.seq (.drawn true 53 [I 34 0,I 35 5,cu 36 5 34 35,hC 37 1 4 36,aV 38 4 37,I 39 1,I 40 5,cu 41 5 39 40,hC 42 1 4 41,aV 43 4 42,ca 44 133 38 43,I 7 44]) (aa [I 45 7,aU 46 .neq 45 0] (aS 46 (aa [I 47 7,I 4 47] .ret) .skip))))) (.region [I 18 5,aU 19 .add 18 1,I 5 19])))))) (aa [I 48 0,cl 49 48,I 50 1,cl 51 50,ca 52 190 49 51,I 4 52] .ret)))
@[simp] def CI:List bs:=[.tmp 4]
def N5:C:=(aa [be 4 false] (.seq (aa [I 11 0,cl 12 11,bW 13 0] (ft 14 13 12 (.seq (.block 1 (aa [cu 15 5 11 13,aV 16 5 15,dj 6 jy,bL 5 6 16] (aa [I 18 1,aF 19 0 1 6,av 20 1 19,cE 21 116 20,ca 22 69 18 21,I 17 22,cD 23 0 17,cD 24 1 17,dj 7 dP,bL 4 7 23,I 8 24] (aa [I 26 1,hC 27 1 4 6,aV 28 4 27,ca 29 69 26 28,I 25 29,cD 30 0 25,cD 31 1 25,dj 9 dP,bL 4 9 30,I 10 31] (aa [I 32 8,cw 33 32,I 34 33,b3 34 false 35 10,aq 34 false (cw 36 35),c6 37 34 36,I 38 37,aq 38 false (aV 39 4 7),aq 38 false (aV 40 4 9),aq 38 false (ca 41 142 39 40),aq 38 false (cw 42 41),c6 43 38 42] (aS 43 (aa [be 4 false] .ret) .skip)))))) (.region [aU 44 .add 13 1,I 13 44])))) (aa [be 4 true] .ret)))
@[simp] def K9:List bs:=[.tmp 4]
def sP:List (Nat×dB):=[
 (3,⟨1,8,.int .i64,.int .i64 0⟩),
 (4,⟨1,1,.bool,.bool false⟩),
 (27,⟨1,24,.slice 30,.slice 4 .nil []⟩),
 (30,⟨4,56,.struct [(0,3),(1,3),(2,9),(3,27)],.agg [.int .i64 0,.int .i64 0,.str [],.slice 4 .nil []]⟩),
 (46,⟨1,24,.slice 113,.slice 5 .nil []⟩),
 (113,⟨5,64,.struct [(0,3),(1,30)],.agg [.int .i64 0,.int .i64 0,.int .i64 0,.str [],.slice 4 .nil []]⟩)]
theorem qH:fN al sP=true:=by kernel_rfl
theorem T4:bY sP Hx aiL 1 Tryz.f86=true:=by kernel_rfl
theorem Qg:al.funcs[(86:Nat)]? =some Tryz.f86:=Tryz.func86
theorem T5:bY sP Hy K7 3 Tryz.f159=true:=by kernel_rfl
theorem Qh:al.funcs[(159:Nat)]? =some Tryz.f159:=Tryz.func159
theorem agz:bY sP NC UG 2 Tryz.f165=true:=by kernel_rfl
theorem Z9:al.funcs[(165:Nat)]? =some Tryz.f165:=Tryz.func165
theorem agE:bY sP NI aiJ 2 Tryz.f166=true:=by kernel_rfl
theorem aae:al.funcs[(166:Nat)]? =some Tryz.f166:=Tryz.func166
theorem agV:bY sP NZ aiQ 1 Tryz.f168=true:=by kernel_rfl
theorem aav:al.funcs[(168:Nat)]? =some Tryz.f168:=Tryz.func168
theorem T9:bY sP HC UR 2 Tryz.f169=true:=by kernel_rfl
theorem Ql:al.funcs[(169:Nat)]? =some Tryz.f169:=Tryz.func169
theorem agY:bY sP N2 UT 1 Tryz.f205=true:=by kernel_rfl
theorem aay:al.funcs[(205:Nat)]? =some Tryz.f205:=Tryz.func205
theorem ag4:bY sP N8 CI 2 Tryz.f207=true:=by kernel_rfl
theorem aaE:al.funcs[(207:Nat)]? =some Tryz.f207:=Tryz.func207
theorem ag1:bY sP N5 K9 2 Tryz.f208=true:=by kernel_rfl
theorem aaB:al.funcs[(208:Nat)]? =some Tryz.f208:=Tryz.func208
def Oi:C:=(aa [dj 2 dP] (aa [I 3 0,iq 4 dP [(0,1,(gd 1)),(1,1,(.t 3))],bL 4 2 4] .ret))
@[simp] def aiV:List bs:=[.cell 2 true 4]
def N6:C:=(aa [b5 0 (.mov (.c (.nilp)))] (aa [c1 (.mkmap 1 (some 702)),c1 (.mkmap 2 (some 703)),c1 (.mkmap 3 (some 704)),c1 (.mkmap 4 (some 705)),c1 (.mkmap 5 (some 706)),c1 (.mkmap 6 (some 707)),b5 7 (.build [.junk,.junk,.junk,.junk,.junk,.junk] [(0,1,(.t 1)),(1,1,(.t 2)),(2,1,(.t 3)),(3,1,(.t 4)),(4,1,(.t 5)),(5,1,(.t 6))]),cz 8 7,I 0 8] (.fz true 0 .ret)))
@[simp] def UX:List bs:=[.tmp 0]
def NV:C:=(aa [bW 4 0] (.seq (aa [I 8 0,fs 9 8,aF 10 0 1 9,av 11 1 10,I 12 1,b5 13 (.mget .i (.int .i64 0) true (.t 11) (.t 12)),I 7 13,cD 14 0 7,cD 15 1 7,I 5 14,I 6 15] (aa [I 16 6,cw 17 16] (aS 17 (.region [I 18 0,fs 19 18,aF 20 0 1 19,av 21 1 20,I 22 1,I 23 1,c1 (.mput .i (.t 21) (.t 22) (.t 23))]) .skip))) (.seq (.block 0 (.loop (.seq (aa [I 24 0,fs 25 24,aF 26 0 1 25,av 27 1 26,I 28 1,b5 29 (.mget .i (.int .i64 0) false (.t 27) (.t 28)),I 30 1,bm 31 .neq 29 30] (aS 31 .skip (.exit 0))) (.block 1 (.seq (.drawn true 55 [I 32 0,fs 33 32,aF 34 0 1 33,av 35 1 34,I 36 1,I 37 0,fs 38 37,aF 39 0 1 38,av 40 1 39,I 41 0,fs 42 41,aF 43 0 1 42,av 44 1 43,I 45 1,b5 46 (.mget .i (.int .i64 0) false (.t 44) (.t 45)),b5 47 (.mget .i (.int .i64 0) false (.t 40) (.t 46)),c1 (.mput .i (.t 35) (.t 36) (.t 47))]) (.region [I 48 0,fs 49 48,aF 50 0 1 49,av 51 1 50,I 52 1,b5 53 (.mget .i (.int .i64 0) false (.t 51) (.t 52)),I 1 53])))))) (aa [I 54 1,I 4 54] .ret))))
@[simp] def UO:List bs:=[.tmp 4]
def NR:C:=(aa [cz 2 0,cz 3 1] (.fz false 2 (.region [aV 4 4 3,b5 5 (.mkf 245 [.t 2]),ca 6 134 4 5])))
@[simp] def UL:List bs:=[]
def uL:C:=(aa [cz 4 1,cz 5 2,be 6 false] (.seq (.block 0 (aa [aF 12 0 1 4,av 13 1 12,aU 14 .eql 13 1,I 15 14,aq 15 true (aF 16 0 1 5),aq 15 true (av 17 1 16),aq 15 true (aU 18 .eql 17 1),dx 19 15 18,I 11 19] (aS 11 (aa [I 20 0,aF 21 1 1 4,av 22 1 21,ca 23 216 20 22,I 7 23] (aa [I 24 0,aF 25 1 1 5,av 26 1 25,ca 27 216 24 26,I 8 27] (.seq (aa [I 28 7,I 29 8,bm 30 .eql 28 29] (aS 30 (aa [be 6 true] .ret) .skip)) (.seq (aa [I 31 8,I 32 7,bm 33 .lss 31 32] (aS 33 (.region [I 34 8,I 35 7,I 7 34,I 8 35]) .skip)) (aa [I 36 0,fs 37 36,aF 38 0 1 37,av 39 1 38,I 40 8,I 41 7,c1 (.mput .i (.t 39) (.t 40) (.t 41))] (.seq (aa [I 42 0,fs 43 42,aF 44 2 1 43,av 45 1 44,I 46 8,b5 47 (.mget .i (.bool false) false (.t 45) (.t 46)),cw 48 47] (aS 48 (aa [I 49 0,fs 50 49,aF 51 2 1 50,av 52 1 51,I 53 7,b5 54 (.mget .i (.bool false) false (.t 52) (.t 53)),cw 55 54,I 56 55,b3 56 false 57 0,b3 56 false 58 0,aq 56 false (fs 59 58),aq 56 false (aF 60 1 1 59),aq 56 false (av 61 1 60),b3 56 false 62 7,wc 56 false 63 (.mget .i (.agg dP) false (.t 61) (.t 62)),b3 56 false 64 7,ys 56 false (.mkmap 65 (some 715)),aq 56 false (dp 66 246 [.t 57,.t 63,.t 64,.t 65]),aq 56 false (cw 67 66),c6 68 56 67,I 6 68] .ret) .skip)) (aa [I 69 0,fs 70 69,aF 71 1 1 70,av 72 1 71,I 73 8,b5 74 (.mget .i (.agg dP) false (.t 72) (.t 73)),dj 9 dP,bL 4 9 74] (.seq (aa [I 75 0,fs 76 75,aF 77 2 1 76,av 78 1 77,I 79 7,b5 80 (.mget .i (.bool false) false (.t 78) (.t 79)),cw 81 80] (aS 81 (aa [I 82 0,I 83 7,aV 84 4 9,dp 85 247 [.t 82,.t 83,.t 84],I 6 85] .ret) .skip)) (.seq (.drawnW [715,716] 198 [I 86 0,aV 87 4 9,I 88 7,c1 (.mkmap 89 (some 715)),dp 90 246 [.t 86,.t 87,.t 88,.t 89],cw 91 90,I 92 91,b3 92 true 93 0,b3 92 true 94 0,aq 92 true (fs 95 94),aq 92 true (aF 96 1 1 95),aq 92 true (av 97 1 96),b3 92 true 98 7,wc 92 true 99 (.mgetB .i (.agg dP) false (.t 97) (.t 98)),b3 92 true 100 7,ys 92 true (.mkmap 101 (some 716)),aq 92 true (dp 102 246 [.t 93,.t 99,.t 100,.t 101]),aq 92 true (cw 103 102),dx 104 92 103,I 105 104,b3 105 true 106 0,b3 105 true 107 0,aq 105 true (fs 108 107),aq 105 true (aF 109 1 1 108),aq 105 true (av 110 1 109),b3 105 true 111 7,wc 105 true 112 (.mgetB .i (.agg dP) false (.t 110) (.t 111)),aq 105 true (aV 113 4 9),aq 105 true (dp 114 218 [.t 106,.t 112,.t 113]),dx 115 105 114,I 6 115]) .ret))))))))) (aa [aF 117 0 1 4,av 118 1 117,aU 119 .eql 118 1,I 116 119] (aS 116 (aa [I 120 0,aF 121 1 1 4,av 122 1 121,ca 123 216 120 122,I 10 123] (.seq (aa [I 124 0,fs 125 124,aF 126 2 1 125,av 127 1 126,I 128 10,b5 129 (.mget .i (.bool false) false (.t 127) (.t 128)),cw 130 129] (aS 130 (aa [I 131 0,I 132 10,aV 133 4 5,dp 134 247 [.t 131,.t 132,.t 133],I 6 134] .ret) .skip)) (.seq (.drawn false 198 [I 135 0,I 136 0,fs 137 136,aF 138 1 1 137,av 139 1 138,I 140 10,b5 141 (.mgetB .i (.agg dP) false (.t 139) (.t 140)),aV 142 4 5,dp 143 218 [.t 135,.t 141,.t 142],I 6 143]) .ret))) (aa [aF 145 0 1 5,av 146 1 145,aU 147 .eql 146 1,I 144 147] (aS 144 (aa [I 148 0,aV 149 4 5,aV 150 4 4,dp 151 218 [.t 148,.t 149,.t 150],I 6 151] .ret) (aa [aF 153 0 1 4,av 154 1 153,aF 155 0 1 5,av 156 1 155,bm 157 .neq 154 156,I 158 157,aq 158 false (aF 159 1 1 4),aq 158 false (av 160 1 159),aq 158 false (aF 161 1 1 5),aq 158 false (av 162 1 161),aq 158 false (bm 163 .neq 160 162),c6 164 158 163,I 165 164,aq 165 false (aF 166 2 1 4),aq 165 false (av 167 1 166),aq 165 false (aF 168 2 1 5),aq 165 false (av 169 1 168),aq 165 false (bm 170 .neq 167 169),c6 171 165 170,I 152 171] (aS 152 (aa [be 6 false] .ret) (aa [aF 173 0 1 4,av 174 1 173,aU 175 .eql 174 4,I 172 175] (aS 172 (.seq (.drawn false 198 [I 176 0,aF 177 3 1 4,av 178 1 177,jF 179 4 178 0,aV 180 4 179,aF 181 3 1 5,av 182 1 181,jF 183 4 182 0,aV 184 4 183,dp 185 218 [.t 176,.t 180,.t 184],I 186 185,b3 186 true 187 0,aq 186 true (aF 188 3 1 4),aq 186 true (av 189 1 188),aq 186 true (jF 190 4 189 1),aq 186 true (aV 191 4 190),aq 186 true (aF 192 3 1 5),aq 186 true (av 193 1 192),aq 186 true (jF 194 4 193 1),aq 186 true (aV 195 4 194),aq 186 true (dp 196 218 [.t 187,.t 191,.t 195]),dx 197 186 196,I 6 197]) .ret) .skip))))))))))) (aa [be 6 true] .ret)))
@[simp] def nC:List bs:=[.tmp 6]
def NS:C:=(.region [av 3 1 1,I 4 0,ca 5 216 3 4])
@[simp] def UM:List bs:=[]
def NT:C:=(aa [cz 4 0,cz 5 1,cz 6 2,cz 7 3,be 8 false] (aa [c1 (.alloc 9 (some 712) (.bool false)),c1 (.store 1 (.t 9) (.c (.bool false)))] (.seq (.fz false 7 (.fz false 6 (.fz false 4 (.region [aV 10 4 5,b5 11 (.mkf 257 [.t 4,.t 9,.t 6,.t 7]),ca 12 134 10 11])))) (aa [av 13 1 9,I 8 13] .ret))))
@[simp] def UN:List bs:=[.tmp 8]
def NQ:C:=(aa [cz 5 2,be 6 false] (.seq (.drawn true 24 [I 7 0,fs 8 7,aF 9 1 1 8,av 10 1 9,I 11 1,aV 12 4 5,c1 (.mput .i (.t 10) (.t 11) (.t 12))]) (aa [I 13 0,fs 14 13,aF 15 2 1 14,av 16 1 15,I 17 1,c1 (.mput .i (.t 16) (.t 17) (.c (.bool true)))] (aa [I 18 0,aV 19 4 5,I 20 1,c1 (.mkmap 21 (some 715)),dp 22 246 [.t 18,.t 19,.t 20,.t 21],cw 23 22,I 6 23] .ret))))
@[simp] def UK:List bs:=[.tmp 6]
def yq:C:=(aa [cz 2 0,be 4 false] (.seq (.seq (.fz false 2 (.region [av 6 1 2,fs 7 6,aF 8 3 1 7,av 9 1 8,I 10 1,b5 11 (.mget .i (.int .i64 0) false (.t 9) (.t 10)),aU 12 .eql 11 2])) (aS 12 (aa [be 4 true] .ret) .skip)) (.seq (aa [av 13 1 2,fs 14 13,aF 15 3 1 14,av 16 1 15,I 17 1,b5 18 (.mget .i (.int .i64 0) false (.t 16) (.t 17)),aU 19 .eql 18 1] (aS 19 (aa [be 4 false] .ret) .skip)) (aa [av 20 1 2,fs 21 20,aF 22 3 1 21,av 23 1 22,I 24 1,c1 (.mput .i (.t 23) (.t 24) (gd 1))] (aa [av 25 1 2,fs 26 25,aF 27 4 1 26,av 28 1 27,I 29 1,c1 (.mput .i (.t 28) (.t 29) (gd 1))] (.seq (aa [av 30 1 2,fs 31 30,aF 32 2 1 31,av 33 1 32,I 34 1,b5 35 (.mget .i (.bool false) false (.t 33) (.t 34))] (aS 35 (aa [c1 (.alloc 5 (some 712) (.bool false)),c1 (.store 1 (.t 5) (.c (.bool true)))] (aa [av 36 1 2,fs 37 36,aF 38 1 1 37,av 39 1 38,I 40 1,b5 41 (.mget .i (.agg dP) false (.t 39) (.t 40)),b5 42 (.mkf 258 [.t 5,.t 2]),ca 43 134 41 42] (.seq (aa [av 44 1 5,cw 45 44] (aS 45 (aa [be 4 false] .ret) .skip)) (.drawn false 64 [av 46 1 2,fs 47 46,aF 48 4 1 47,av 49 1 48,I 50 1,av 51 1 2,fs 52 51,aF 53 1 1 52,av 54 1 53,I 55 1,b5 56 (.mgetB .i (.agg dP) false (.t 54) (.t 55)),b5 57 (.mkf 259 [.t 2]),ca 58 192 56 57,c1 (.mput .i (.t 49) (.t 50) (.t 58))])))) .skip)) (aa [av 59 1 2,fs 60 59,aF 61 3 1 60,av 62 1 61,I 63 1,c1 (.mput .i (.t 62) (.t 63) (gd 2))] (aa [be 4 true] .ret))))))))
@[simp] def zT:List bs:=[.tmp 4]
def DH:C:=(aa [cz 2 0,dj 4 dP] (.seq (.seq (.fz false 2 (.region [av 9 1 2,fs 10 9,aF 11 5 1 10,av 12 1 11,I 13 1,b5 14 (.mget .i (.agg dP) true (.t 12) (.t 13)),I 8 14,cD 15 0 8,cD 16 1 8,dj 5 dP,bL 4 5 15,I 6 16])) (aa [I 17 6] (aS 17 (aa [aV 18 4 5,bL 4 4 18] .ret) .skip))) (aa [I 19 1,cE 20 116 19,dj 7 dP,bL 4 7 20] (.seq (aa [av 21 1 2,fs 22 21,aF 23 2 1 22,av 24 1 23,I 25 1,b5 26 (.mget .i (.bool false) false (.t 24) (.t 25))] (aS 26 (.region [av 27 1 2,fs 28 27,aF 29 1 1 28,av 30 1 29,I 31 1,b5 32 (.mget .i (.agg dP) false (.t 30) (.t 31)),b5 33 (.mkf 260 [.t 2]),ca 34 194 32 33,bL 4 7 34]) .skip)) (.seq (.drawn true 42 [av 35 1 2,fs 36 35,aF 37 5 1 36,av 38 1 37,I 39 1,aV 40 4 7,c1 (.mput .i (.t 38) (.t 39) (.t 40))]) (aa [aV 41 4 7,bL 4 4 41] .ret))))))
@[simp] def FX:List bs:=[.cell 4 true 4]
def NU:C:=(aa [av 7 1 1,I 8 0,ca 9 216 7 8,I 6 9] (.seq (aa [av 10 1 2,I 11 10,b3 11 false 12 6,aq 11 false (av 13 1 3),aq 11 false (bm 14 .eql 12 13),c6 15 11 14] (aS 15 (aa [c1 (.store 1 (.t 2) (.c (.bool true)))] .ret) .skip)) (aa [av 16 1 4,I 17 6,b5 18 (.mget .i (.bool false) false (.t 16) (.t 17)),cw 19 18,I 20 19,aq 20 true (av 21 1 1),aq 20 true (fs 22 21),aq 20 true (aF 23 2 1 22),aq 20 true (av 24 1 23),b3 20 true 25 6,aq 20 true (b5 26 (.mget .i (.bool false) false (.t 24) (.t 25))),dx 27 20 26] (aS 27 (aa [av 28 1 4,I 29 6,c1 (.mput .i (.t 28) (.t 29) (.c (.bool true)))] (.drawn false 40 [av 30 1 1,av 31 1 1,fs 32 31,aF 33 1 1 32,av 34 1 33,I 35 6,b5 36 (.mgetB .i (.agg dP) false (.t 34) (.t 35)),av 37 1 3,av 38 1 4,dp 39 246 [.t 30,.t 36,.t 37,.t 38],bL 1 2 39])) .skip))))
@[simp] def zS:List bs:=[]
def HA:C:=(.seq (.drawn false 13 [b5 4 (.loadB false 1 (.t 1)),I 5 4,aq 5 true (av 6 1 2),aq 5 true (av 7 1 2),b3 5 true 8 0,aq 5 true (ca 9 216 7 8),aq 5 true (ca 10 248 6 9),aq 5 true (cw 11 10),dx 12 5 11]) (aS 12 (.region [c1 (.store 1 (.t 1) (.c (.bool false)))]) .skip))
@[simp] def FY:List bs:=[]
def NY:C:=(aa [bW 3 0] (.seq (.drawn false 12 [av 4 1 1,fs 5 4,aF 6 4 1 5,av 7 1 6,av 8 1 1,I 9 0,ca 10 216 8 9,b5 11 (.mgetB .i (.int .i64 0) false (.t 7) (.t 10)),I 3 11]) .ret))
@[simp] def UQ:List bs:=[.tmp 3]
def NX:C:=(aa [dj 3 dP,be 4 false] (.seq (.drawn false 10 [av 5 1 1,av 6 1 1,I 7 0,ca 8 216 6 7,ca 9 249 5 8,bL 4 3 9,be 4 true]) .ret))
@[simp] def UP:List bs:=[.cell 3 true 4,.tmp 4]
def oy:List (Nat×dB):=[
 (3,⟨1,8,.int .i64,.int .i64 0⟩),
 (4,⟨1,1,.bool,.bool false⟩),
 (9,⟨1,16,.str,.str []⟩),
 (27,⟨1,24,.slice 30,.slice 4 .nil []⟩),
 (30,⟨4,56,.struct [(0,3),(1,3),(2,9),(3,27)],.agg [.int .i64 0,.int .i64 0,.str [],.slice 4 .nil []]⟩),
 (136,⟨1,8,.map 3 4,.junk⟩),
 (194,⟨1,8,.other,.nilp⟩),
 (216,⟨1,8,.map 3 3,.junk⟩),
 (217,⟨1,8,.map 3 30,.junk⟩),
 (219,⟨6,48,.struct [(0,216),(1,217),(2,136),(3,216),(4,216),(5,217)],.agg [.junk,.junk,.junk,.junk,.junk,.junk]⟩)]
theorem jh:fN al oy=true:=by kernel_rfl
theorem ahd:bY oy Oi aiV 1 Tryz.f116=true:=by kernel_rfl
theorem aaN:al.funcs[(116:Nat)]? =some Tryz.f116:=Tryz.func116
theorem ag2:bY oy N6 UX 0 Tryz.f215=true:=by kernel_rfl
theorem aaC:al.funcs[(215:Nat)]? =some Tryz.f215:=Tryz.func215
theorem agR:bY oy NV UO 2 Tryz.f216=true:=by kernel_rfl
theorem aar:al.funcs[(216:Nat)]? =some Tryz.f216:=Tryz.func216
theorem agN:bY oy NR UL 2 Tryz.f217=true:=by kernel_rfl
theorem aan:al.funcs[(217:Nat)]? =some Tryz.f217:=Tryz.func217
theorem xF:bY oy uL nC 3 Tryz.f218=true:=by kernel_rfl
theorem wF:al.funcs[(218:Nat)]? =some Tryz.f218:=Tryz.func218
theorem agO:bY oy NS UM 2 Tryz.f245=true:=by kernel_rfl
theorem aao:al.funcs[(245:Nat)]? =some Tryz.f245:=Tryz.func245
theorem agP:bY oy NT UN 4 Tryz.f246=true:=by kernel_rfl
theorem aap:al.funcs[(246:Nat)]? =some Tryz.f246:=Tryz.func246
theorem agM:bY oy NQ UK 3 Tryz.f247=true:=by kernel_rfl
theorem aam:al.funcs[(247:Nat)]? =some Tryz.f247:=Tryz.func247
theorem Ct:bY oy yq zT 2 Tryz.f248=true:=by kernel_rfl
theorem A3:al.funcs[(248:Nat)]? =some Tryz.f248:=Tryz.func248
theorem KH:bY oy DH FX 2 Tryz.f249=true:=by kernel_rfl
theorem Ij:al.funcs[(249:Nat)]? =some Tryz.f249:=Tryz.func249
theorem agQ:bY oy NU zS 5 Tryz.f257=true:=by kernel_rfl
theorem aaq:al.funcs[(257:Nat)]? =some Tryz.f257:=Tryz.func257
theorem T7:bY oy HA FY 3 Tryz.f258=true:=by kernel_rfl
theorem Qj:al.funcs[(258:Nat)]? =some Tryz.f258:=Tryz.func258
theorem agU:bY oy NY UQ 2 Tryz.f259=true:=by kernel_rfl
theorem aau:al.funcs[(259:Nat)]? =some Tryz.f259:=Tryz.func259
theorem agT:bY oy NX UP 2 Tryz.f260=true:=by kernel_rfl
theorem aat:al.funcs[(260:Nat)]? =some Tryz.f260:=Tryz.func260
end Go.Proofs.YtahlgcidhnjlbaaGreat
namespace Go.Proofs.YtahlgcidhnjlbaaGreat
open Go Go.Pv
section
variable {α:Type} (S:α→cJ) (dC:∀a,eo (S a)) (e2:∀a b,Same (S a) (S b)) (g:Nat) (dm:List ah) (ax:∀a,aK (inObs (S a)) dm) (dd:cY dm=dm)
include dC e2 ax dd in
theorem QR(gR:α→Prop)(f:Int→α→aY α)(aI:∀v a bn,gR a→f v a=some bn→gR bn∧bQ al g (.int .i64 v::dm) (S a) fun r ai=>r= .tuple []∧ai=S bn)(t:T):
  ∀a bn,gR a→t.foldO f a=some bn→gR bn∧bQ al 134 [t.e,.func g dm] (S a) fun r ai=>r= .tuple []∧ai=S bn:=by
 have aA:∀a m,Pv.look (.loc m) (S a).b=none:=fun a=>(dC a).obj.1;have hu:∀a m cs,cx (.loc m) cs (S a).b=(S a).b++[(.loc m,cs)]:=fun a m cs=>jR (aA a m);have aw:∀a m,aH.loc m∉cS (S a):=fun a=>jM (dC a).obj;induction t with
 |pair x y o0 rl=>intro a bn hi he;have ag:=dC a;simp only[T.foldO,lH]at he;obtain⟨bE,J,U⟩:=he;obtain⟨i1,g1⟩:=o0 a bE hi J;obtain⟨i2,g2⟩:=rl bE bn i1 U;refine⟨i2,?_⟩;refine bQ.mk mixed fE yC zI (by simp) ag.obj fun aP cQ=>?_;unfold wA;simp[hu,aw,cI,aA,dd];(with_reducible repeat' first|refine aj ?_|simp[hu,aw,cI,aA]);refine c7.ob g1 ag aR aR (by simp[ax]) ?_;rintro r ai ⟨rfl,rfl⟩;refine⟨e2 _ _,?_⟩;simp[gN,im,cv,aA];(with_reducible repeat' first|refine aj ?_|simp[hu,aw,cI,aA]);rw[dd];refine c7.ob g2 (dC bE) aR aR (by simp[ax]) ?_;rintro r ai ⟨rfl,rfl⟩;refine⟨e2 _ _,?_⟩;simp[gN,im,cv,aA];refine cR.at (S bn) (.inr rfl) (dC _) (e2 _ _) aR aR ?_;simp[cX,xN,aX,aZ,aW]
 |var n=>intro a bn hi he;have ag:=dC a;simp only[T.foldO]at he;obtain⟨i1,g1⟩:=aI n a bn hi he;refine⟨i1,?_⟩;refine bQ.mk mixed fE yC zI (by simp) ag.obj fun aP cQ=>?_;unfold wA;simp[hu,aw,cI,aA,dd];(with_reducible repeat' first|refine aj ?_|simp[hu,aw,cI,aA]);refine c7.ob g1 ag aR aR (by simp[ax]) ?_;rintro r ai ⟨rfl,rfl⟩;refine⟨e2 _ _,?_⟩;simp[gN,im,cv,aA,cI];refine cR.at (S bn) (.inr rfl) (dC _) (e2 _ _) aR aR ?_;simp[cX,xN,aX,aZ,aW]
 |_=>intro a bn hi he;have ag:=dC a;simp only[T.foldO,dG]at he;subst he;refine⟨hi,?_⟩;refine bQ.mk mixed fE yC zI (by simp) ag.obj fun aP cQ=>?_;unfold wA;simp[hu,aw,cI,aA,dd];(with_reducible repeat' first|refine aj ?_|simp[hu,aw,cI,aA]);refine cR.at (S a) (.inr rfl) ag (Same.refl _) aR aR ?_;simp[cX,xN,aX,aZ,aW]
include dC e2 ax dd in
theorem IF(f:Int→α→aY α)(aI:∀v a bn,f v a=some bn→bQ al g (.int .i64 v::dm) (S a) fun r ai=>r= .tuple []∧ai=S bn)(t:T)(a bn:α)(h:t.foldO f a=some bn):bQ al 134 [t.e,.func g dm] (S a) fun r ai=>r= .tuple []∧ai=S bn:=(QR S dC e2 g dm ax dd (fun _=>True) f (fun v a bn _ h=>⟨trivial,aI v a bn h⟩) t a bn trivial h).2
include dC e2 ax dd in
theorem acw(f:Int→α→aY (T×α))(aI:∀v a p,f v a=some p→bQ al g (.int .i64 v::dm) (S a) fun r ai=>r= .tuple [p.1.e,.bool true]∧ai=S p.2)(t:T):
  ∀a p,t.mapO f a=some p→bQ al 194 [t.e,.func g dm] (S a) fun r ai=>r=p.1.e∧ai=S p.2:=by
 have aA:∀a m,Pv.look (.loc m) (S a).b=none:=fun a=>(dC a).obj.1;have cF:∀a m,Pv.look (.loc m) (S a).e=none:=fun a=>(dC a).obj.2;have hu:∀a m cs,cx (.loc m) cs (S a).b=(S a).b++[(.loc m,cs)]:=fun a m cs=>jR (aA a m);have aw:∀a m,aH.loc m∉cS (S a):=fun a=>jM (dC a).obj;have ls:∀a m p r,cx (.loc m) p ((S a).b++r)=(S a).b++cx (.loc m) p r:=fun a m p r=>Au (aA a m);induction t with
 |pair x y o0 rl=>intro a p he;have ag:=dC a;simp only[T.mapO,lH,gF]at he;obtain⟨cM,J,dn,U,rfl⟩:=he;refine bQ.mk mixed fE yD zJ (by simp) ag.obj fun aP cQ=>?_;unfold wB;simp[hu,aw,cI,aA,cF,dd,ls];(with_reducible repeat' first|refine aj ?_|simp[hu,aw,cI,aA,cF,ls]);refine hX.ob (o0 a cM J) ag (dC cM.2) (e2 _ _) aR aR (by simp[ax]) ?_;simp[gN,im,cv,aA,dd];(with_reducible repeat' first|refine aj ?_|simp[hu,aw,cI,aA,cF,ls]);refine hX.ob (rl cM.2 dn U) (dC cM.2) (dC dn.2) (e2 _ _) aR aR (by simp[ax,dd]) ?_;simp[gN,im,cv,aA,dd];(with_reducible repeat' first|refine aj ?_|refine aD (GV _ _) ?_|refine aE (GV _ _) ?_|simp[cI,aA,ls]);refine cR.at (S dn.2) (.inl rfl) (dC _) (e2 _ _) aR aR ?_;simp[cX,xO,aX,aZ,aW,cI,aA]
 |var n=>
  intro a p he;have ag:=dC a;simp only[T.mapO]at he;refine bQ.mk mixed fE yD zJ (by simp) ag.obj fun aP cQ=>?_;unfold wB;simp[hu,aw,cI,aA,dd,ls];(with_reducible repeat' first|refine aj ?_|simp[hu,aw,cI,aA,ls]);refine c7.ob (aI n a p he) ag aR aR (by simp[ax]) ?_;rintro r ai ⟨rfl,rfl⟩;refine⟨e2 _ _,?_⟩;simp[gN,im,cv,aA,hu,aw,cI];(with_reducible repeat' first|refine aj ?_|refine aD (sS _) ?_|refine aE (sS _) ?_|simp[hu,aw,cI,aA,ls]);all_goals refine cR.at (S p.2) (.inl rfl) (dC _) (e2 _ _) aR aR ?_
  all_goals simp[cX,xO,aX,aZ,aW,cI,aA]
 |_=>intro a p he;have ag:=dC a;simp only[T.mapO,dG]at he;subst he;refine bQ.mk mixed fE yD zJ (by simp) ag.obj fun aP cQ=>?_;unfold wB;simp[hu,aw,cI,aA,dd,ls];(with_reducible repeat' first|refine aj ?_|simp[hu,aw,cI,aA,ls]);refine cR.at (S a) (.inl rfl) ag (Same.refl _) aR aR ?_;simp[cX,xO,aX,aZ,aW,cI,aA]
include dC e2 ax dd in
theorem acJ(gR:α→Prop)(f:Int→α→aY (Int×α))(Bu:∀v a p,gR a→f v a=some p→gR p.2∧0≤p.1∧p.1≤1000000)(aI:∀v a p,gR a→f v a=some p→bQ al g (.int .i64 v::dm) (S a) fun r ai=>r= .int .i64 p.1∧ai=S p.2)(t:T):
  ∀a p,gR a→t.sizeO f a=some p→gR p.2∧(0≤p.1∧p.1≤5001)∧bQ al 192 [t.e,.func g dm] (S a) fun r ai=>r= .int .i64 p.1∧ai=S p.2:=by
 have aA:∀a m,Pv.look (.loc m) (S a).b=none:=fun a=>(dC a).obj.1;have hu:∀a m cs,cx (.loc m) cs (S a).b=(S a).b++[(.loc m,cs)]:=fun a m cs=>jR (aA a m);have aw:∀a m,aH.loc m∉cS (S a):=fun a=>jM (dC a).obj;induction t with
 |pair x y o0 rl=>
  intro a p hi he;have ag:=dC a;simp only[T.sizeO,lH]at he;obtain⟨cM,J,U⟩:=he;obtain⟨i1,cc,g1⟩:=o0 a cM hi J;by_cases Et:5000<cM.1
  ·rw[if_pos Et]at U;cases U;refine⟨i1,cc,?_⟩;refine bQ.mk mixed fE wG xG (by simp) ag.obj fun aP cQ=>?_;unfold uM;simp[hu,aw,cI,aA,dd];(with_reducible repeat' first|refine aj ?_|simp[hu,aw,cI,aA]);refine c7.ob g1 ag aR aR (by simp[ax]) ?_;rintro r ai ⟨rfl,rfl⟩;refine⟨e2 _ _,?_⟩;simp[gN,im,cv,aA];((with_reducible repeat' first|((first|apply bP|apply bS|apply bR)<;>intro h<;>try simp at h)|refine aj ?_|simp[hu,aw,cI,aA])<;>(try contradiction));all_goals first|omega|(refine cR.at (S p.2) (.inl rfl) (dC _) (e2 _ _) aR aR ?_;simp[cX,ue,aX,aZ,aW])
  ·rw[if_neg Et,gF]at U;obtain⟨dn,U,rfl⟩:=U;obtain⟨i2,b4,g2⟩:=rl cM.2 dn i1 U;refine⟨i2,by simp only;split<;>omega,?_⟩;refine bQ.mk mixed fE wG xG (by simp) ag.obj fun aP cQ=>?_;unfold uM;simp[hu,aw,cI,aA,dd];(with_reducible repeat' first|((first|apply bP|apply bS|apply bR)<;>intro h<;>try simp at h)|refine aj ?_|simp[hu,aw,cI,aA]);refine c7.ob g1 ag aR aR (by simp[ax]) ?_;rintro r ai ⟨rfl,rfl⟩;refine⟨e2 _ _,?_⟩;simp[gN,im,cv,aA];((with_reducible repeat' first|refine aj ?_|simp[hu,aw,cI,aA]|((first|apply bP|apply bS|apply bR)<;>intro h<;>try simp at h))<;>(try exact cp));all_goals first|omega|skip
   rw[dd];refine c7.ob g2 (dC cM.2) aR aR (by simp[ax]) ?_;rintro r s2 ⟨rfl,rfl⟩;refine⟨e2 _ _,?_⟩;simp[gN,im,cv,aA];(with_reducible repeat' first|refine aj ?_|simp[hu,aw,cI,aA]);refine cR.at (S dn.2) (.inl rfl) (dC _) (e2 _ _) aR aR ?_;simp[cX,ue,aX,aZ,aW]
 |var n=>intro a p hi he;have ag:=dC a;simp only[T.sizeO,gF]at he;obtain⟨cM,J,rfl⟩:=he;have ae:=Bu n a cM hi J;refine⟨ae.1,by simp only;split<;>omega,?_⟩;refine bQ.mk mixed fE wG xG (by simp) ag.obj fun aP cQ=>?_;unfold uM;simp[hu,aw,cI,aA,dd];(with_reducible repeat' first|refine aj ?_|simp[hu,aw,cI,aA]);refine c7.ob (aI n a cM hi J) ag aR aR (by simp[ax]) ?_;rintro r ai ⟨rfl,rfl⟩;refine⟨e2 _ _,?_⟩;simp[gN,im,cv,aA];refine cR.at (S cM.2) (.inl rfl) (dC _) (e2 _ _) aR aR ?_;simp[cX,ue,aX,aZ,aW]
 |_=>intro a p hi he;have ag:=dC a;simp only[T.sizeO,dG]at he;subst he;refine⟨hi,by simp,?_⟩;refine bQ.mk mixed fE wG xG (by simp) ag.obj fun aP cQ=>?_;unfold uM;simp[hu,aw,cI,aA,dd];(with_reducible repeat' first|refine aj ?_|simp[hu,aw,cI,aA]);refine cR.at (S a) (.inl rfl) ag (Same.refl _) aR aR ?_;simp[cX,ue,aX,aZ,aW]
end
end Go.Proofs.YtahlgcidhnjlbaaGreat
namespace Go.Pv
open Go Go.RowKit
section
variable {P:cC} {ob:List aH} {st:bq} {Q:Exit→bq→Prop} {c:C} {α:Type}
theorem dW(b9:List Nat)(cs:Nat→α→List (Nat×ah))(n:Nat)(gG:Nat→α→Prop)(a0:α)(hw:iy ob st (o4 st b9 (cs 0 a0)))(bA:gG 0 a0)(u3:∀a,gG n a→(∀i,ec (get i (o4 st b9 (cs n a)).t))→cU P ob c (bN ob (yf (fun i a=>o4 st b9 (cs i a)) n gG) 0 Q) (o4 st b9 (cs n a)))
  (jv:∀i a,i<n→gG i a→(∀j,ec (get j (o4 st b9 (cs i a)).t))→cU P ob c (bN ob (yf (fun i a=>o4 st b9 (cs i a)) n gG) (n-i) Q) (o4 st b9 (cs i a))):cU P ob (.loop c) Q st:=
 hQ (fun i a=>o4 st b9 (cs i a)) n gG a0 hw bA u3 jv
theorem uS(b9:List Nat)(cs:α→List (Nat×ah))(mA:α→Nat)(gG:α→Prop)(a0:α)(hw:iy ob st (o4 st b9 (cs a0)))(bA:gG a0)
  (jv:∀a,gG a→(∀j,ec (get j (o4 st b9 (cs a)).t))→cU P ob c (bN ob (AB (fun a=>o4 st b9 (cs a)) mA gG) (mA a) Q) (o4 st b9 (cs a))):cU P ob (.loop c) Q st:=
 nW (fun a=>o4 st b9 (cs a)) mA gG a0 hw bA jv
end
attribute [simp] agd
end Go.Pv
namespace Go.Proofs.YtahlgcidhnjlbaaGreat
open Go Go.Pv
theorem Kd{α β:Type}(k:aH):∀{l:List (aH×α)} {a1:List (aH×β)},l.map (·.1)=a1.map (·.1)→(Pv.look k l).isSome=(Pv.look k a1).isSome
 |[],[],_=>rfl
 |[],_::_,h=>by simp at h
 |_::_,[],h=>by simp at h
 |(i,x)::r,(j,y)::eF,h=>by
  simp only[gE,p0]at h;simp only[Pv.look];obtain⟨rfl,h⟩:=h;split
  ·rfl
  ·exact Kd k h
theorem _root_.Go.Pv.Same.keys{s ai:cJ}(ae:s.b.map (·.1)=ai.b.map (·.1))(he:s.e.map (·.1)=ai.e.map (·.1)):Same s ai:=⟨fun k=>Kd k ae,fun k=>Kd k he⟩
section
variable {α:Type} (e:α→ah)
def rq(l:List (Int×α)):List ah:=jz (l.map fun x=>(x.1,e x.2))
theorem M7(k:Int):∀l:List (Int×α),wv k (l.map fun x=>(x.1,e x.2))=(c0 k l).map e
 |[]=>rfl
 |(i,v)::r=>by
  simp only[gE,wv,c0];split
  ·rfl
  ·exact M7 k r
theorem Nf(k:Int)(v:α):∀l:List (Int×α),oJ k (e v) (l.map fun x=>(x.1,e x.2))=if(c0 k l).isSome then some ((eP k v l).map fun x=>(x.1,e x.2))else none
 |[]=>rfl
 |(i,w)::r=>by
  simp only[gE,oJ,c0,eP];by_cases h:k=i
  ·subst h;simp
  ·simp only[h,if_false,Nf k v r];cases (c0 k r).isSome<;>simp
theorem Wi{k:Int}{v:α}:∀{l:List (Int×α)},c0 k l=none→eP k v l=l++[(k,v)]
 |[],_=>rfl
 |(i,w)::r,h=>by
  simp only[c0]at h;split at h
  ·cases h
  ·rename_i cF;simp[eP,cF,Wi h]
theorem Kx(k:Int)(v:α)(l:List (Int×α)):og .i (.int .i64 k) (e v) (rq e l)=some (rq e (eP k v l)):=by
 simp only[rq,TU,DA,Nf];cases h:c0 k l with
 |some w=>simp
 |none=>simp[Wi h]
theorem Ks(f:aH→aY (List ah))(m:aH)(l:List (Int×α))(z:ah)(ok:Bool)(k:Int)(hm:f m=some (rq e l)):nA f .i z ok (.gmap m) (.int .i64 k)=some (True,if ok then .tuple [((c0 k l).map e).getD z,.bool (c0 k l).isSome]else((c0 k l).map e).getD z):=by rw[afZ f m _ z ok k hm,M7];cases c0 k l<;>rfl
@[simp] theorem apW(l:List (Int×α)):hM (rq e l)=false:=rfl
theorem J1(S:aH→Prop)(he:∀x,aC S (e x))(l:List (Int×α)):aK S (rq e l):=by
 have:∀l:List (Int×α),aK S (kc (l.map fun x=>(x.1,e x.2))):=by
  intro l;induction l with
  |nil=>simp[kc,aK]
  |cons x r bT=>simp[kc,aK,bT,he]
 simp[rq,jz,aK,this,aC]
end
def mW:List (Int×Int)→List ah:=rq (ah.int .i64)
def pN:List (Int×Bool)→List ah:=rq ah.bool
def sC:List (Int×T)→List ah:=rq T.e
@[simp] theorem apT(l):hM (mW l)=false:=rfl
@[simp] theorem apR(l):hM (pN l)=false:=rfl
@[simp] theorem apV(l):hM (sC l)=false:=rfl
@[simp] theorem aoE(S:aH→Prop)(l):aK S (mW l)=True:=eq_true (J1 _ S (fun _=>by simp) l)
@[simp] theorem aoD(S:aH→Prop)(l):aK S (pN l)=True:=eq_true (J1 _ S (fun _=>by simp) l)
@[simp] theorem aoF(S:aH→Prop)(l):aK S (sC l)=True:=eq_true (J1 _ S (fun _=>by simp) l)
@[simp] theorem apH(k v:Int)(l):og .i (.int .i64 k) (.int .i64 v) (mW l)=some (mW (eP k v l)):=Kx _ k v l
@[simp] theorem apG(k:Int)(v:Bool)(l):og .i (.int .i64 k) (.bool v) (pN l)=some (pN (eP k v l)):=Kx _ k v l
@[simp] theorem apJ(k:Int)(v:T)(l):og .i (.int .i64 k) v.e (sC l)=some (sC (eP k v l)):=Kx _ k v l
def Ck(b9:jm)(z:ah)(ok:Bool)(o:aY (List ah))(k:ah):aY (Prop×ah):=nA (fun _=>o) b9 z ok (.gmap (.loc 0)) k
@[simp] theorem apD(f:aH→aY (List ah))(b9:jm)(z:ah)(ok:Bool)(m:aH)(k:ah):nA f b9 z ok (.gmap m) k=Ck b9 z ok (f m) k:=by simp only[Ck,TK]
theorem af1(f:aH→aY (List ah))(m:aH)(l:List (Int×Int))(ok:Bool)(k:Int)(hm:f m=some (mW l)):nA f .i (.int .i64 0) ok (.gmap m) (.int .i64 k)=some (True,if ok then .tuple [.int .i64 (iL l k),.bool (c0 k l).isSome]else .int .i64 (iL l k)):=by rw[Ks _ f m l _ ok k hm];unfold iL;cases c0 k l<;>rfl
theorem af0(f:aH→aY (List ah))(m:aH)(l:List (Int×Bool))(ok:Bool)(k:Int)(hm:f m=some (pN l)):nA f .i (.bool false) ok (.gmap m) (.int .i64 k)=some (True,if ok then .tuple [.bool ((c0 k l).getD false),.bool (c0 k l).isSome]else .bool ((c0 k l).getD false)):=by rw[Ks _ f m l _ ok k hm];cases c0 k l<;>rfl
def Mb:ah:= .agg [.int .i64 0,.int .i64 0,.str [],.slice 4 .nil []]
def sO(o:aY T):ah:=(o.map T.e).getD Mb
theorem af2(f:aH→aY (List ah))(m:aH)(l:List (Int×T))(ok:Bool)(k:Int)(hm:f m=some (sC l)):nA f .i (.agg [.int .i64 0,.int .i64 0,.str [],.slice 4 .nil []]) ok (.gmap m) (.int .i64 k)=some (True,if ok then .tuple [sO (c0 k l),.bool (c0 k l).isSome]else sO (c0 k l)):=by rw[Ks _ f m l _ ok k hm];rfl
@[simp] theorem apB(l:List (Int×Int))(ok:Bool)(k:Int):Ck .i (.int .i64 0) ok (some (mW l)) (.int .i64 k)=some (True,if ok then .tuple [.int .i64 (iL l k),.bool (c0 k l).isSome]else .int .i64 (iL l k)):=af1 _ _ l ok k rfl
@[simp] theorem apA(l:List (Int×Bool))(ok:Bool)(k:Int):Ck .i (.bool false) ok (some (pN l)) (.int .i64 k)=some (True,if ok then .tuple [.bool ((c0 k l).getD false),.bool (c0 k l).isSome]else .bool ((c0 k l).getD false)):=af0 _ _ l ok k rfl
@[simp] theorem apC(l:List (Int×T))(ok:Bool)(k:Int):Ck .i (.agg [.int .i64 0,.int .i64 0,.str [],.slice 4 .nil []]) ok (some (sC l)) (.int .i64 k)=some (True,if ok then .tuple [sO (c0 k l),.bool (c0 k l).isSome]else sO (c0 k l)):=af2 _ _ l ok k rfl
@[simp] theorem arI(o:aY T):ds (sO o)=(o.getD .nil).e:=by cases o<;>simp[sO,Mb,ds,cY]
@[simp] theorem ape(S:aH→Prop)(o:aY T):aC S (sO o)=True:=by cases o<;>simp[sO,Mb,aC,aK]
@[simp] theorem apo:[ah.hdm 0 []]=jz []:=rfl
def az:ah:= .eptr (.agg [.gmap (.obj 702),.gmap (.obj 703),.gmap (.obj 704),.gmap (.obj 705),.gmap (.obj 706),.gmap (.obj 707)])
def ay(c:br):List (aH×List ah):=[(.obj 702,mW c.up),(.obj 703,sC c.shape),(.obj 704,pN c.shaped),(.obj 705,mW c.color),(.obj 706,mW c.size),(.obj 707,sC c.full)]
def aM(c:br):cJ:=⟨ay c,[]⟩
theorem cb(c:br):eo (aM c):=by unfold aM ay;exact eo.of ⟨by intro m;simp[Pv.look],by intro m;simp[Pv.look]⟩ (by simp) (by simp)
theorem Dt(c cm:br):Same (aM c) (aM cm):=by
 refine⟨fun k=>?_,fun k=>rfl⟩;simp only[aM,ay,Pv.look];repeat' split
 all_goals rfl
theorem qW(c:br)(v r:Int)(cm:br)(he:rt c v=some (r,cm)):bQ al 216 [az,.int .i64 v] (aM c) fun eF ai=>eF= .int .i64 r∧ai=aM cm:=by
 have ag:=cb c;have gi:=cb cm;have e2:=Dt c cm;simp only[rt,gF,jj]at he;obtain⟨⟨dI,m1⟩,he,rfl,rfl⟩:=he;unfold aM ay at ag gi e2⊢;simp only at gi e2⊢;unfold az;refine bQ.mk mixed jh aar agR (by simp) ag.obj fun aP cQ=>?_;unfold NV;simp;(with_reducible repeat' first|((first|apply bP|apply bS|apply bR)<;>intro h<;>try simp at h)|refine aj ?_|simp);all_goals
  refine nW (α:=Nat×Int×List (Int×Int)) (fun a=>⟨[(0,az),(1,.int .i64 a.2.1)],[(.obj 702,mW a.2.2),(.obj 703,sC c.shape),(.obj 704,pN c.shaped),(.obj 705,mW c.color),(.obj 706,mW c.size),(.obj 707,sC c.full)],[],0,[.obj 702,.obj 703,.obj 704,.obj 705,.obj 706,.obj 707]⟩) (fun a=>a.1) (fun a=>vO a.1 a.2.2 a.2.1=some (dI,m1)) (v.toNat+1,v,yk v c.up) (by simp[yk,h,az];exact⟨by simp[fresh,aK,aC,cd,inObs,Pv.look,az],dZ (by simp[fresh,aK,aC,cd,inObs,Pv.look,az]),ea (by simp[fresh,aK,aC,dQ,inObs,Pv.look,az]),by simp⟩) he ?_
  rintro⟨n,u,m⟩ af ae
  simp only at af ae⊢
  cases n with
  |zero=>simp[vO]at af
  |succ n=>
   simp only[vO]at af
   simp[az]
   (with_reducible repeat' first|((first|apply bP|apply bS|apply bR)<;>intro h<;>try simp at h)|refine aj ?_|simp)
   ·rw[if_neg h]at af
    refine bN.whl (n,iL (eP u (iL m (iL m u)) m) u,eP u (iL m (iL m u)) m) (Nat.lt_succ_self n) af ?_
    simp[az]
    exact⟨by simp[fresh,aK,aC,cd,inObs,Pv.look,az],dZ (by simp[fresh,aK,aC,cd,inObs,Pv.look,az]),ea (by simp[fresh,aK,aC,dQ,inObs,Pv.look,az]),by simp⟩
   ·rw[if_pos h]at af
    cases af
    refine cR.at _ (.inl rfl) gi e2 aR aR ?_
    simp[cX,UO,aX,aZ,aW]
end Go.Proofs.YtahlgcidhnjlbaaGreat
namespace Go.Proofs.YtahlgcidhnjlbaaGreat
open Go Go.Pv
theorem acx(c:br)(v r:Int)(cm:br)(he:rt c v=some (r,cm)):bQ al 245 [.int .i64 v,.eptr az] (aM c) fun eF ai=>eF= .tuple []∧ai=aM cm:=by have ag:=cb c;simp only[aM,ay]at ag⊢;refine bQ.mk mixed jh aao agO (by simp) ag.obj fun aP cQ=>?_;unfold NS;simp[az];(refine c7.ob (qW c v r cm he) (by first|exact cb _|exact cb ‹_› _) (by simp only[aM,ay,az,bU,bX];exact aR) (by simp only[aM,ay,az,bU,bX];exact aR) (by simp[inObs,Pv.look,aM,ay,az]) ?_;rintro r ai ⟨rfl,rfl⟩;refine⟨(Same.keys (by simp[aM,ay,az]) (by simp[aM,ay,az])),?_⟩;simp[cv,aM,ay,az]);(refine cR.at (aM cm) (by simp) (by first|exact cb _|exact cb ‹_› _) (Same.keys (by simp[aM,ay,az]) (by simp[aM,ay,az])) (by simp only[aM,ay,az,bU,bX];exact aR) (by simp only[aM,ay,az,bU,bX];exact aR) ?_;simp[cX,UM,aX,aZ,aW,inObs,Pv.look,aM,ay,az])
theorem IJ(c:br)(t:T)(cm:br)(he:zx t c=some cm):bQ al 217 [az,t.e] (aM c) fun eF ai=>eF= .tuple []∧ai=aM cm:=by
 have ag:=cb c;have key:=IF aM cb Dt 245 [.eptr az] (fun a=>by simp[aM,ay,az,inObs,Pv.look]) rfl (fun(v:Int) (c:br)=>(rt c v).map Prod.snd) (fun v a bn h=>by rw[gF]at h;obtain⟨⟨r,bI⟩,J,rfl⟩:=h;exact acx a v r bI J) t c cm he
 simp only[aM,ay]at ag⊢;refine bQ.mk mixed jh aan agN (by simp) ag.obj fun aP cQ=>?_;unfold NR;simp[az];(refine c7.ob (key) (by first|exact cb _|exact cb ‹_› _) (by simp only[aM,ay,az,bU,bX];exact aR) (by simp only[aM,ay,az,bU,bX];exact aR) (by simp[inObs,Pv.look,aM,ay,az]) ?_;rintro r ai ⟨rfl,rfl⟩;refine⟨(Same.keys (by simp[aM,ay,az]) (by simp[aM,ay,az])),?_⟩;simp[cv,aM,ay,az]);(refine cR.at (aM cm) (by simp) (by first|exact cb _|exact cb ‹_› _) (Same.keys (by simp[aM,ay,az]) (by simp[aM,ay,az])) (by simp only[aM,ay,az,bU,bX];exact aR) (by simp only[aM,ay,az,bU,bX];exact aR) ?_;simp[cX,UL,aX,aZ,aW,inObs,Pv.look,aM,ay,az])
def ey(K:Nat)(a:br×List (Int×Bool)):cJ:=⟨ay a.1++[(.obj K,pN a.2)],[]⟩
def fV(K:Nat)(a:s6):cJ:=⟨ay a.c++[(.obj K,pN a.seen),(.obj 712,[.bool a.found])],[]⟩
def xD(K:Nat):Prop:=K=715∨K=716
theorem hZ{K:Nat}(c9:xD K)(a):eo (ey K a):=by unfold ey ay;rcases c9 with rfl|rfl;all_goals exact eo.of ⟨by intro m;simp[Pv.look],by intro m;simp[Pv.look]⟩ (by simp) (by simp)
theorem pk{K:Nat}(c9:xD K)(a):eo (fV K a):=by unfold fV ay;rcases c9 with rfl|rfl;all_goals exact eo.of ⟨by intro m;simp[Pv.look],by intro m;simp[Pv.look]⟩ (by simp) (by simp)
theorem G7{K:Nat}(a b):Same (fV K a) (fV K b):=by
 refine⟨fun k=>?_,fun k=>rfl⟩;simp only[fV,ay,bU,bX,Pv.look];repeat' split
 all_goals rfl
theorem acD{K:Nat}(c9:xD K)(n:Nat)(x:Int)(vd:∀t c seen a,o6 n x t c seen=some a→bQ al 246 [az,t.e,.int .i64 x,.gmap (.obj K)] (ey K (c,seen)) fun r ai=>r= .bool a.found∧ai=ey K (a.c,a.seen))
  (v:Int) (a bn:s6) (he:vN (o6 n x) x v a=some bn):bQ al 257 [.int .i64 v,.eptr az,.ptr (.obj 712) 0,.eptr (.int .i64 x),.eptr (.gmap (.obj K))] (fV K a) fun r ai=>r= .tuple []∧ai=fV K bn:=by
 have ag:=pk c9 a;simp only[vN,lH]at he;obtain⟨⟨r,bI⟩,J,U⟩:=he;simp only at U;have ad:=c9;rcases ad with rfl|rfl;all_goals
  simp only[fV,ay,bU,bX]at ag⊢
  refine bQ.mk mixed jh aaq agQ (by simp) ag.obj fun aP cQ=>?_;unfold NU
  simp[az]
  (refine c7.ob (qW a.c v r bI J) (by first|exact cb _|exact cb ‹_› _) (by simp only[aM,ay,az,bU,bX];exact aR) (by simp only[aM,ay,az,bU,bX];exact aR) (by simp[inObs,Pv.look,aM,ay,az]) ?_;rintro r ai ⟨rfl,rfl⟩;refine⟨(Same.keys (by simp[aM,ay,az]) (by simp[aM,ay,az])),?_⟩;simp[cv,aM,ay,az])
  obtain⟨ac,Ag,Hl⟩:=a
  cases Hl with
  |true=>
   simp at U;subst U
   (with_reducible repeat' first|refine aj ?_|simp)
   (refine cR.at (fV _ ⟨bI,Ag,true⟩) (by simp) (by first|exact pk _|exact pk ‹_› _) (Same.keys (by simp[fV,ay,az]) (by simp[fV,ay,az])) (by simp only[fV,ay,az,bU,bX];exact aR) (by simp only[fV,ay,az,bU,bX];exact aR) ?_;simp[cX,zS,aX,aZ,aW,inObs,Pv.look,fV,ay,az])
  |false=>
   by_cases ab:r=x
   ·simp[ab]at U;subst U
    (with_reducible repeat' first|refine aj ?_|simp[ab])
    (refine cR.at (fV _ ⟨bI,Ag,true⟩) (by simp) (by first|exact pk _|exact pk ‹_› _) (Same.keys (by simp[fV,ay,az]) (by simp[fV,ay,az])) (by simp only[fV,ay,az,bU,bX];exact aR) (by simp only[fV,ay,az,bU,bX];exact aR) ?_;simp[cX,zS,aX,aZ,aW,inObs,Pv.look,fV,ay,az])
   ·have h3:(r==x)=false:=by simp[ab]
    simp only[ab,gP,or_self,if_false]at U
    cases zc:(c0 r Ag).getD false with
    |true=>
     simp[zc]at U;subst U
     (with_reducible repeat' first|refine aj ?_|simp[h3,zc])
     (refine cR.at (fV _ ⟨bI,Ag,false⟩) (by simp) (by first|exact pk _|exact pk ‹_› _) (Same.keys (by simp[fV,ay,az]) (by simp[fV,ay,az])) (by simp only[fV,ay,az,bU,bX];exact aR) (by simp only[fV,ay,az,bU,bX];exact aR) ?_;simp[cX,zS,aX,aZ,aW,inObs,Pv.look,fV,ay,az])
    |false=>
     cases gw:bI.shd r with
     |false=>
      have Jx:(c0 r bI.shaped).getD false=false:=gw
      simp[zc,gw]at U;subst U
      (with_reducible repeat' first|refine aj ?_|simp[h3,zc,Jx])
      (refine cR.at (fV _ ⟨bI,Ag,false⟩) (by simp) (by first|exact pk _|exact pk ‹_› _) (Same.keys (by simp[fV,ay,az]) (by simp[fV,ay,az])) (by simp only[fV,ay,az,bU,bX];exact aR) (by simp only[fV,ay,az,bU,bX];exact aR) ?_;simp[cX,zS,aX,aZ,aW,inObs,Pv.look,fV,ay,az])
     |true=>
      have Jx:(c0 r bI.shaped).getD false=true:=gw
      simp[zc,gw]at U
      have aL:=vd _ _ _ _ U
      (with_reducible repeat' first|refine aj ?_|simp[h3,zc,Jx])
      (refine hX.ob (aL) (by first|exact hZ _|exact hZ ‹_› _) (by first|exact hZ _|exact hZ ‹_› _) (Same.keys (by simp[ey,ay,az]) (by simp[ey,ay,az])) (by simp only[ey,ay,az,bU,bX];exact aR) (by simp only[ey,ay,az,bU,bX];exact aR) (by simp[inObs,Pv.look,ey,ay,az]) ?_;simp[cv,ey,ay,az])
      (with_reducible repeat' first|refine aj ?_|simp)
      (refine cR.at (fV _ bn) (by simp) (by first|exact pk _|exact pk ‹_› _) (Same.keys (by simp[fV,ay,az]) (by simp[fV,ay,az])) (by simp only[fV,ay,az,bU,bX];exact aR) (by simp only[fV,ay,az,bU,bX];exact aR) ?_;simp[cX,zS,aX,aZ,aW,inObs,Pv.look,fV,ay,az])
theorem Ei{K:Nat}(c9:xD K)(x:Int)(n:Nat):∀(t:T) (c:br) (seen:List (Int×Bool)) (a:s6),o6 n x t c seen=some a→bQ al 246 [az,t.e,.int .i64 x,.gmap (.obj K)] (ey K (c,seen)) fun r ai=>r= .bool a.found∧ai=ey K (a.c,a.seen):=by
 induction n with
 |zero=>intro t c seen a h;simp[o6]at h
 |succ n bT=>
  intro t c seen a h;simp only[o6]at h;have ag:=hZ c9 (c,seen);have key:=IF (fV K) (pk c9) G7 257 [.eptr az,.ptr (.obj 712) 0,.eptr (.int .i64 x),.eptr (.gmap (.obj K))] (fun a=>by rcases c9 with rfl|rfl<;>simp[fV,ay,az,inObs,Pv.look]) rfl (vN (o6 n x) x) (fun v a bn h=>acD c9 n x bT v a bn h) t ⟨c,seen,false⟩ a h;have ad:=c9;rcases ad with rfl|rfl;all_goals
   simp only[ey,ay,bU,bX]at ag⊢
   refine bQ.mk mixed jh aap agP (by simp) ag.obj fun aP cQ=>?_;unfold NT
   simp[az]
   refine c7.new key (pk c9 _) (by simp only[fV,ay,az,bU,bX];exact aR) (by simp only[fV,ay,az,bU,bX];exact aR) (by simp[inObs,Pv.look,fV,ay,az]) ?_
   rintro r ai ⟨rfl,rfl⟩
   refine⟨fun m hm=>.inl ⟨?_,G7 _ _⟩,?_⟩
   ·exact((G7 _ _).inObs _).2 hm
   simp[cv,fV,ay]
   (with_reducible repeat' first|refine aj ?_|simp)
   (refine cR.at (ey _ (a.c,a.seen)) (by simp) (by first|exact hZ _|exact hZ ‹_› _) (Same.keys (by simp[ey,ay,az]) (by simp[ey,ay,az])) (by simp only[ey,ay,az,bU,bX];exact aR) (by simp only[ey,ay,az,bU,bX];exact aR) ?_;simp[cX,UN,aX,aZ,aW,inObs,Pv.look,ey,ay,az])
@[simp] theorem Kf:pN []=jz []:=rfl
@[simp] theorem arL(t:T):sO (some t)=t.e:=rfl
@[simp] theorem arK:sO none= .agg [.int .i64 0,.int .i64 0,.str [],.slice 4 .nil []]:=rfl
theorem QU(n:Nat)(x:Int)(t:T)(c:br)(p:Bool×br)(he:tP n x t c=some p):bQ al 247 [az,.int .i64 x,t.e] (aM c) fun r ai=>r= .bool p.1∧ai=aM p.2:=by have ag:=cb c;simp only[tP,gF]at he;obtain⟨a,J,rfl⟩:=he;have c9:xD 715:= .inl rfl;have key:=Ei c9 x n t (c.know x t) [] a J;simp only[aM,ay]at ag⊢;refine bQ.mk mixed jh aam agM (by simp) ag.obj fun aP cQ=>?_;unfold NQ;simp[az];(refine c7.ob (key) (by first|exact hZ _|exact hZ ‹_› _) (by simp only[ey,ay,az,br.know,bU,bX];exact aR) (by simp only[ey,ay,az,br.know,bU,bX];exact aR) (by simp[inObs,Pv.look,ey,ay,az,br.know]) ?_;rintro r ai ⟨rfl,rfl⟩;refine⟨(Same.keys (by simp[ey,ay,az,br.know]) (by simp[ey,ay,az,br.know])),?_⟩;simp[cv,ey,ay,az,br.know]);(refine cR.at (aM a.c) (by simp) (by first|exact cb _|exact cb ‹_› _) (Same.keys (by simp[aM,ay,az]) (by simp[aM,ay,az])) (by simp only[aM,ay,az,bU,bX];exact aR) (by simp only[aM,ay,az,bU,bX];exact aR) ?_;simp[cX,UK,aX,aZ,aW,inObs,Pv.look,aM,ay,az])
set_option maxRecDepth 4000 in
theorem QS(n:Nat):∀(a b:T) (c:br) (p:Bool×br),gq n a b c=some p→bQ al 218 [az,a.e,b.e] (aM c) fun r ai=>r= .bool p.1∧ai=aM p.2:=by
 induction n with
 |zero=>intro a b c p h;simp[gq]at h
 |succ n bT=>
  intro a b c p he;have ag:=cb c;have BW:∀i j,a= .var i→b= .var j→bQ al 218 [az,a.e,b.e] (aM c) fun r ai=>r= .bool p.1∧ai=aM p.2:=by
   rintro i j rfl rfl;simp only[gq,lH]at he;obtain⟨⟨x,bI⟩,J,⟨y,ch⟩,U,ao⟩:=he;simp only at U ao;simp only[aM,ay]at ag⊢;refine bQ.mk mixed jh wF xF (by simp) ag.obj fun aP cQ=>?_;unfold uL;simp[az];(refine c7.ob (qW c i x bI J) (by first|exact cb _|exact cb ‹_› _) (by simp only[aM,ay,az,bU,bX];exact aR) (by simp only[aM,ay,az,bU,bX];exact aR) (by simp[inObs,Pv.look,aM,ay,az]) ?_;rintro r ai ⟨rfl,rfl⟩;refine⟨(Same.keys (by simp[aM,ay,az]) (by simp[aM,ay,az])),?_⟩;simp[cv,aM,ay,az]);(with_reducible repeat' first|refine aj ?_|simp);(refine c7.ob (qW bI j y ch U) (by first|exact cb _|exact cb ‹_› _) (by simp only[aM,ay,az,bU,bX];exact aR) (by simp only[aM,ay,az,bU,bX];exact aR) (by simp[inObs,Pv.look,aM,ay,az]) ?_;rintro r ai ⟨rfl,rfl⟩;refine⟨(Same.keys (by simp[aM,ay,az]) (by simp[aM,ay,az])),?_⟩;simp[cv,aM,ay,az]);by_cases hJ:x=y
   ·rw[if_pos hJ]at ao;cases ao;(with_reducible repeat' first|refine aj ?_|simp[hJ]);(refine cR.at (aM ch) (by simp) (by first|exact cb _|exact cb ‹_› _) (Same.keys (by simp[aM,ay,az]) (by simp[aM,ay,az])) (by simp only[aM,ay,az,bU,bX];exact aR) (by simp only[aM,ay,az,bU,bX];exact aR) ?_;simp[cX,nC,aX,aZ,aW,inObs,Pv.look,aM,ay,az])
   ·rw[if_neg hJ]at ao;have zj:(x==y)=false:=by simp[hJ]
    have Rb:xD 715:= .inl rfl;have ada:xD 716:= .inr rfl;obtain⟨u,v,zg,a8⟩:∃u v,((u=y∧v=x∧y<x)∨(u=x∧v=y∧¬y<x))∧qR (gq n) n u v (ch.join u v)=some p:=by
     by_cases bC:y<x
     ·rw[if_pos bC]at ao;exact⟨y,x,.inl ⟨rfl,rfl,bC⟩,ao⟩
     ·rw[if_neg bC]at ao;exact⟨x,y,.inr ⟨rfl,rfl,bC⟩,ao⟩
    clear ao;obtain⟨d,aQ⟩:∃d,d=ch.join u v:=⟨_,rfl⟩;have fk:d.up=eP v u ch.up:=by rw[aQ];rfl
    have eI:d.shape=ch.shape:=by rw[aQ];rfl
    have gu:d.shaped=ch.shaped:=by rw[aQ];rfl
    have hq:d.color=ch.color:=by rw[aQ];rfl
    have hr:d.size=ch.size:=by rw[aQ];rfl
    have hs:d.full=ch.full:=by rw[aQ];rfl
    rw[←aQ]at a8;simp only[qR]at a8;cases aJ:d.shd v with
    |false=>
     have lV:(c0 v ch.shaped).getD false=false:=by rw[←gu];exact aJ
     rw[if_pos aJ]at a8;cases hu:d.shd u with
     |false=>
      have tH:(c0 u ch.shaped).getD false=false:=by rw[←gu];exact hu
      rw[if_pos hu]at a8;cases a8;rcases zg with⟨rfl,rfl,bC⟩|⟨rfl,rfl,bC⟩;all_goals
       (with_reducible repeat' first|refine aj ?_|simp[zj,bC,lV,tH])
       (refine cR.at (aM d) (by simp) (by first|exact cb _|exact cb ‹_› _) (Same.keys (by simp[aM,ay,az,fk,eI,gu,hq,hr,hs]) (by simp[aM,ay,az,fk,eI,gu,hq,hr,hs])) (by simp only[aM,ay,az,fk,eI,gu,hq,hr,hs,bU,bX];exact aR) (by simp only[aM,ay,az,fk,eI,gu,hq,hr,hs,bU,bX];exact aR) ?_;simp[cX,nC,aX,aZ,aW,inObs,Pv.look,aM,ay,az,fk,eI,gu,hq,hr,hs])
     |true=>
      have tH:(c0 u ch.shaped).getD false=true:=by rw[←gu];exact hu
      rw[if_neg (by simp[hu]),gF]at a8;obtain⟨a,bZ,rfl⟩:=a8;have key:=Ei Rb u n _ _ _ _ bZ;rw[show d.shp u=(c0 u ch.shape).getD .nil from by rw[←eI];rfl]at key;rcases zg with⟨rfl,rfl,bC⟩|⟨rfl,rfl,bC⟩;all_goals
       (with_reducible repeat' first|refine aj ?_|simp[zj,bC,lV,tH])
       (refine c7.ob (key) (by first|exact hZ _|exact hZ ‹_› _) (by simp only[ey,ay,az,fk,eI,gu,hq,hr,hs,bU,bX];exact aR) (by simp only[ey,ay,az,fk,eI,gu,hq,hr,hs,bU,bX];exact aR) (by simp[inObs,Pv.look,ey,ay,az,fk,eI,gu,hq,hr,hs]) ?_;rintro r ai ⟨rfl,rfl⟩;refine⟨(Same.keys (by simp[ey,ay,az,fk,eI,gu,hq,hr,hs]) (by simp[ey,ay,az,fk,eI,gu,hq,hr,hs])),?_⟩;simp[cv,ey,ay,az,fk,eI,gu,hq,hr,hs])
       (with_reducible repeat' first|refine aj ?_|simp)
       (refine cR.at (aM a.c) (by simp) (by first|exact cb _|exact cb ‹_› _) (Same.keys (by simp[aM,ay,az]) (by simp[aM,ay,az])) (by simp only[aM,ay,az,bU,bX];exact aR) (by simp only[aM,ay,az,bU,bX];exact aR) ?_;simp[cX,nC,aX,aZ,aW,inObs,Pv.look,aM,ay,az])
    |true=>
     have lV:(c0 v ch.shaped).getD false=true:=by rw[←gu];exact aJ
     rw[if_neg (by simp[aJ])]at a8;rw[show d.shp v=(c0 v ch.shape).getD .nil from by rw[←eI];rfl]at a8;cases hu:d.shd u with
     |false=>
      have tH:(c0 u ch.shaped).getD false=false:=by rw[←gu];exact hu
      rw[if_pos hu]at a8;have key:=QU n u _ d p a8;cases aN:c0 v ch.shape;all_goals
       rw[aN]at key
       simp only[ky,kQ]at key
       rcases zg with⟨rfl,rfl,bC⟩|⟨rfl,rfl,bC⟩
       all_goals
        (with_reducible repeat' first|refine aj ?_|simp[zj,bC,lV,tH,aN])
        (refine c7.ob (key) (by first|exact cb _|exact cb ‹_› _) (by simp only[aM,ay,az,fk,eI,gu,hq,hr,hs,bU,bX];exact aR) (by simp only[aM,ay,az,fk,eI,gu,hq,hr,hs,bU,bX];exact aR) (by simp[inObs,Pv.look,aM,ay,az,fk,eI,gu,hq,hr,hs]) ?_;rintro r ai ⟨rfl,rfl⟩;refine⟨(Same.keys (by simp[aM,ay,az,fk,eI,gu,hq,hr,hs]) (by simp[aM,ay,az,fk,eI,gu,hq,hr,hs])),?_⟩;simp[cv,aM,ay,az,fk,eI,gu,hq,hr,hs])
        (with_reducible repeat' first|refine aj ?_|simp)
        (refine cR.at (aM p.2) (by simp) (by first|exact cb _|exact cb ‹_› _) (Same.keys (by simp[aM,ay,az]) (by simp[aM,ay,az])) (by simp only[aM,ay,az,bU,bX];exact aR) (by simp only[aM,ay,az,bU,bX];exact aR) ?_;simp[cX,nC,aX,aZ,aW,inObs,Pv.look,aM,ay,az])
     |true=>
      have tH:(c0 u ch.shaped).getD false=true:=by rw[←gu];exact hu
      rw[if_neg (by simp[hu]),lH]at a8;obtain⟨a,bZ,c4⟩:=a8;have key:=Ei Rb u n _ _ _ _ bZ;obtain⟨o,aN⟩:∃o,c0 v ch.shape=o:=⟨_,rfl⟩;rw[aN]at key c4;obtain⟨ac,Ag,Hl⟩:=a;cases Hl with
      |true=>
       simp at c4;subst c4;cases o;all_goals
        simp only[ky,kQ]at key
        rcases zg with⟨rfl,rfl,bC⟩|⟨rfl,rfl,bC⟩
        all_goals
         (with_reducible repeat' first|refine aj ?_|simp[zj,bC,lV,tH,aN])
         (refine hX.ob (key) (by first|exact hZ _|exact hZ ‹_› _) (by first|exact hZ _|exact hZ ‹_› _) (Same.keys (by simp[ey,ay,az,fk,eI,gu,hq,hr,hs]) (by simp[ey,ay,az,fk,eI,gu,hq,hr,hs])) (by simp only[ey,ay,az,fk,eI,gu,hq,hr,hs,bU,bX];exact aR) (by simp only[ey,ay,az,fk,eI,gu,hq,hr,hs,bU,bX];exact aR) (by simp[inObs,Pv.look,ey,ay,az,fk,eI,gu,hq,hr,hs]) ?_;simp[cv,ey,ay,az,fk,eI,gu,hq,hr,hs])
         (with_reducible repeat' first|refine aj ?_|simp)
         (refine cR.at (aM ac) (by simp) (by first|exact cb _|exact cb ‹_› _) (Same.keys (by simp[aM,ay,az]) (by simp[aM,ay,az])) (by simp only[aM,ay,az,bU,bX];exact aR) (by simp only[aM,ay,az,bU,bX];exact aR) ?_;simp[cX,nC,aX,aZ,aW,inObs,Pv.look,aM,ay,az])
      |false=>
       simp only[gP,if_false,lH]at c4;obtain⟨b,ee,nu⟩:=c4;have vp:=Ei ada u n _ _ _ _ ee;rw[show ac.shp u=(c0 u ac.shape).getD .nil from rfl]at vp;obtain⟨Hp,amT,XX⟩:=b;cases XX with
       |true=>
        simp at nu;subst nu;cases o;all_goals
         simp only[ky,kQ]at key
         rcases zg with⟨rfl,rfl,bC⟩|⟨rfl,rfl,bC⟩
         all_goals
          (with_reducible repeat' first|refine aj ?_|simp[zj,bC,lV,tH,aN])
          (refine hX.ob (key) (by first|exact hZ _|exact hZ ‹_› _) (by first|exact hZ _|exact hZ ‹_› _) (Same.keys (by simp[ey,ay,az,fk,eI,gu,hq,hr,hs]) (by simp[ey,ay,az,fk,eI,gu,hq,hr,hs])) (by simp only[ey,ay,az,fk,eI,gu,hq,hr,hs,bU,bX];exact aR) (by simp only[ey,ay,az,fk,eI,gu,hq,hr,hs,bU,bX];exact aR) (by simp[inObs,Pv.look,ey,ay,az,fk,eI,gu,hq,hr,hs]) ?_;simp[cv,ey,ay,az,fk,eI,gu,hq,hr,hs])
          (with_reducible repeat' first|refine aj ?_|simp)
          (refine hX.ob (vp) (by first|exact hZ _|exact hZ ‹_› _) (by first|exact hZ _|exact hZ ‹_› _) (Same.keys (by simp[ey,ay,az]) (by simp[ey,ay,az])) (by simp only[ey,ay,az,bU,bX];exact aR) (by simp only[ey,ay,az,bU,bX];exact aR) (by simp[inObs,Pv.look,ey,ay,az]) ?_;simp[cv,ey,ay,az])
          (with_reducible repeat' first|refine aj ?_|simp)
          (refine cR.at (aM Hp) (by simp) (by first|exact cb _|exact cb ‹_› _) (Same.keys (by simp[aM,ay,az]) (by simp[aM,ay,az])) (by simp only[aM,ay,az,bU,bX];exact aR) (by simp only[aM,ay,az,bU,bX];exact aR) ?_;simp[cX,nC,aX,aZ,aW,inObs,Pv.look,aM,ay,az])
       |false=>
        simp only[gP,if_false]at nu;have JY:=bT _ _ _ _ nu;rw[show Hp.shp u=(c0 u Hp.shape).getD .nil from rfl]at JY;cases o;all_goals
         simp only[ky,kQ]at key JY
         rcases zg with⟨rfl,rfl,bC⟩|⟨rfl,rfl,bC⟩
         all_goals
          (with_reducible repeat' first|refine aj ?_|simp[zj,bC,lV,tH,aN])
          (refine hX.ob (key) (by first|exact hZ _|exact hZ ‹_› _) (by first|exact hZ _|exact hZ ‹_› _) (Same.keys (by simp[ey,ay,az,fk,eI,gu,hq,hr,hs]) (by simp[ey,ay,az,fk,eI,gu,hq,hr,hs])) (by simp only[ey,ay,az,fk,eI,gu,hq,hr,hs,bU,bX];exact aR) (by simp only[ey,ay,az,fk,eI,gu,hq,hr,hs,bU,bX];exact aR) (by simp[inObs,Pv.look,ey,ay,az,fk,eI,gu,hq,hr,hs]) ?_;simp[cv,ey,ay,az,fk,eI,gu,hq,hr,hs])
          (with_reducible repeat' first|refine aj ?_|simp)
          (refine hX.ob (vp) (by first|exact hZ _|exact hZ ‹_› _) (by first|exact hZ _|exact hZ ‹_› _) (Same.keys (by simp[ey,ay,az]) (by simp[ey,ay,az])) (by simp only[ey,ay,az,bU,bX];exact aR) (by simp only[ey,ay,az,bU,bX];exact aR) (by simp[inObs,Pv.look,ey,ay,az]) ?_;simp[cv,ey,ay,az])
          (with_reducible repeat' first|refine aj ?_|simp)
          (refine hX.ob (JY) (by first|exact cb _|exact cb ‹_› _) (by first|exact cb _|exact cb ‹_› _) (Same.keys (by simp[aM,ay,az]) (by simp[aM,ay,az])) (by simp only[aM,ay,az,bU,bX];exact aR) (by simp only[aM,ay,az,bU,bX];exact aR) (by simp[inObs,Pv.look,aM,ay,az]) ?_;simp[cv,aM,ay,az])
          (with_reducible repeat' first|refine aj ?_|simp)
          (refine cR.at (aM p.2) (by simp) (by first|exact cb _|exact cb ‹_› _) (Same.keys (by simp[aM,ay,az]) (by simp[aM,ay,az])) (by simp only[aM,ay,az,bU,bX];exact aR) (by simp only[aM,ay,az,bU,bX];exact aR) ?_;simp[cX,nC,aX,aZ,aW,inObs,Pv.look,aM,ay,az])
  have aJ:∀i,a= .var i→b.kind≠1→bQ al 218 [az,a.e,b.e] (aM c) fun r ai=>r= .bool p.1∧ai=aM p.2:=by
   rintro i rfl ae;have u2:((rt c i).bind fun p=>if p.2.shd p.1=false then tP n p.1 b p.2 else gq n (p.2.shp p.1) b p.2)=some p:=by cases b<;>first|exact he|simp at ae
   simp only[lH]at u2;obtain⟨⟨x,bI⟩,J,U⟩:=u2;simp only at U;have fR:(b.kind==1)=false:=by simp[ae]
   simp only[aM,ay]at ag⊢;refine bQ.mk mixed jh wF xF (by simp) ag.obj fun aP cQ=>?_;unfold uL;simp[az];(with_reducible repeat' first|refine aj ?_|simp[fR,ae]);(refine c7.ob (qW c i x bI J) (by first|exact cb _|exact cb ‹_› _) (by simp only[aM,ay,az,bU,bX];exact aR) (by simp only[aM,ay,az,bU,bX];exact aR) (by simp[inObs,Pv.look,aM,ay,az]) ?_;rintro r ai ⟨rfl,rfl⟩;refine⟨(Same.keys (by simp[aM,ay,az]) (by simp[aM,ay,az])),?_⟩;simp[cv,aM,ay,az]);cases ab:bI.shd x with
   |false=>have h3:(c0 x bI.shaped).getD false=false:=ab;rw[if_pos ab]at U;(with_reducible repeat' first|refine aj ?_|simp[h3]);(refine c7.ob (QU n x b bI p U) (by first|exact cb _|exact cb ‹_› _) (by simp only[aM,ay,az,bU,bX];exact aR) (by simp only[aM,ay,az,bU,bX];exact aR) (by simp[inObs,Pv.look,aM,ay,az]) ?_;rintro r ai ⟨rfl,rfl⟩;refine⟨(Same.keys (by simp[aM,ay,az]) (by simp[aM,ay,az])),?_⟩;simp[cv,aM,ay,az]);(refine cR.at (aM p.2) (by simp) (by first|exact cb _|exact cb ‹_› _) (Same.keys (by simp[aM,ay,az]) (by simp[aM,ay,az])) (by simp only[aM,ay,az,bU,bX];exact aR) (by simp only[aM,ay,az,bU,bX];exact aR) ?_;simp[cX,nC,aX,aZ,aW,inObs,Pv.look,aM,ay,az])
   |true=>have h3:(c0 x bI.shaped).getD false=true:=ab;rw[if_neg (by simp[ab])]at U;have key:=bT _ _ _ _ U;(with_reducible repeat' first|refine aj ?_|simp[h3]);(refine hX.ob (key) (by first|exact cb _|exact cb ‹_› _) (by first|exact cb _|exact cb ‹_› _) (Same.keys (by simp[aM,ay,az]) (by simp[aM,ay,az])) (by simp only[aM,ay,az,bU,bX];exact aR) (by simp only[aM,ay,az,bU,bX];exact aR) (by simp[inObs,Pv.look,aM,ay,az]) ?_;simp[cv,aM,ay,az]);(with_reducible repeat' first|refine aj ?_|simp);(refine cR.at (aM p.2) (by simp) (by first|exact cb _|exact cb ‹_› _) (Same.keys (by simp[aM,ay,az]) (by simp[aM,ay,az])) (by simp only[aM,ay,az,bU,bX];exact aR) (by simp only[aM,ay,az,bU,bX];exact aR) ?_;simp[cX,nC,aX,aZ,aW,inObs,Pv.look,aM,ay,az])
  cases a with
  |var i=>
   cases b with
   |var j=>exact BW i j rfl rfl
   |_=>exact aJ i rfl (by simp)
  |pair bE a2=>
   cases b with
   |var j=>simp only[gq]at he;have key:=bT _ _ _ _ he;simp only[aM,ay]at ag⊢;refine bQ.mk mixed jh wF xF (by simp) ag.obj fun aP cQ=>?_;unfold uL;simp[az];(refine c7.ob (key) (by first|exact cb _|exact cb ‹_› _) (by simp only[aM,ay,az,bU,bX];exact aR) (by simp only[aM,ay,az,bU,bX];exact aR) (by simp[inObs,Pv.look,aM,ay,az]) ?_;rintro r ai ⟨rfl,rfl⟩;refine⟨(Same.keys (by simp[aM,ay,az]) (by simp[aM,ay,az])),?_⟩;simp[cv,aM,ay,az]);(refine cR.at (aM p.2) (by simp) (by first|exact cb _|exact cb ‹_› _) (Same.keys (by simp[aM,ay,az]) (by simp[aM,ay,az])) (by simp only[aM,ay,az,bU,bX];exact aR) (by simp only[aM,ay,az,bU,bX];exact aR) ?_;simp[cX,nC,aX,aZ,aW,inObs,Pv.look,aM,ay,az])
   |pair cc b4=>
    simp only[gq,lH]at he;obtain⟨⟨f1,bI⟩,J,U⟩:=he;have key:=bT _ _ _ _ J;simp only[aM,ay]at ag⊢;refine bQ.mk mixed jh wF xF (by simp) ag.obj fun aP cQ=>?_;unfold uL;simp[az];(with_reducible repeat' first|refine aj ?_|simp);(refine hX.ob (key) (by first|exact cb _|exact cb ‹_› _) (by first|exact cb _|exact cb ‹_› _) (Same.keys (by simp[aM,ay,az]) (by simp[aM,ay,az])) (by simp only[aM,ay,az,bU,bX];exact aR) (by simp only[aM,ay,az,bU,bX];exact aR) (by simp[inObs,Pv.look,aM,ay,az]) ?_;simp[cv,aM,ay,az]);cases f1 with
    |false=>simp at U;subst U;(with_reducible repeat' first|refine aj ?_|simp);(refine cR.at (aM bI) (by simp) (by first|exact cb _|exact cb ‹_› _) (Same.keys (by simp[aM,ay,az]) (by simp[aM,ay,az])) (by simp only[aM,ay,az,bU,bX];exact aR) (by simp only[aM,ay,az,bU,bX];exact aR) ?_;simp[cX,nC,aX,aZ,aW,inObs,Pv.look,aM,ay,az])
    |true=>simp at U;have vp:=bT _ _ _ _ U;(with_reducible repeat' first|refine aj ?_|simp);(refine hX.ob (vp) (by first|exact cb _|exact cb ‹_› _) (by first|exact cb _|exact cb ‹_› _) (Same.keys (by simp[aM,ay,az]) (by simp[aM,ay,az])) (by simp only[aM,ay,az,bU,bX];exact aR) (by simp only[aM,ay,az,bU,bX];exact aR) (by simp[inObs,Pv.look,aM,ay,az]) ?_;simp[cv,aM,ay,az]);(with_reducible repeat' first|refine aj ?_|simp);(refine cR.at (aM p.2) (by simp) (by first|exact cb _|exact cb ‹_› _) (Same.keys (by simp[aM,ay,az]) (by simp[aM,ay,az])) (by simp only[aM,ay,az,bU,bX];exact aR) (by simp only[aM,ay,az,bU,bX];exact aR) ?_;simp[cX,nC,aX,aZ,aW,inObs,Pv.look,aM,ay,az])
   |_=>simp[gq]at he;subst he;simp only[aM,ay]at ag⊢;refine bQ.mk mixed jh wF xF (by simp) ag.obj fun aP cQ=>?_;unfold uL;simp[az];(refine cR.at (aM c) (by simp) (by first|exact cb _|exact cb ‹_› _) (Same.keys (by simp[aM,ay,az]) (by simp[aM,ay,az])) (by simp only[aM,ay,az,bU,bX];exact aR) (by simp only[aM,ay,az,bU,bX];exact aR) ?_;simp[cX,nC,aX,aZ,aW,inObs,Pv.look,aM,ay,az])
  |_=>
   cases b with
   |var j=>simp only[gq]at he;have key:=bT _ _ _ _ he;simp only[aM,ay]at ag⊢;refine bQ.mk mixed jh wF xF (by simp) ag.obj fun aP cQ=>?_;unfold uL;simp[az];(refine c7.ob (key) (by first|exact cb _|exact cb ‹_› _) (by simp only[aM,ay,az,bU,bX];exact aR) (by simp only[aM,ay,az,bU,bX];exact aR) (by simp[inObs,Pv.look,aM,ay,az]) ?_;rintro r ai ⟨rfl,rfl⟩;refine⟨(Same.keys (by simp[aM,ay,az]) (by simp[aM,ay,az])),?_⟩;simp[cv,aM,ay,az]);(refine cR.at (aM p.2) (by simp) (by first|exact cb _|exact cb ‹_› _) (Same.keys (by simp[aM,ay,az]) (by simp[aM,ay,az])) (by simp only[aM,ay,az,bU,bX];exact aR) (by simp only[aM,ay,az,bU,bX];exact aR) ?_;simp[cX,nC,aX,aZ,aW,inObs,Pv.look,aM,ay,az])
   |_=>
    simp[gq]at he;subst he;simp only[aM,ay]at ag⊢;refine bQ.mk mixed jh wF xF (by simp) ag.obj fun aP cQ=>?_;unfold uL;simp[az];((with_reducible repeat' first|refine aj ?_|simp|((first|apply bP|apply bS|apply bR)<;>intro h<;>try simp at h))<;>(try exact cp));all_goals(refine cR.at (aM c) (by simp) (by first|exact cb _|exact cb ‹_› _) (Same.keys (by simp[aM,ay,az]) (by simp[aM,ay,az])) (by simp only[aM,ay,az,bU,bX];exact aR) (by simp only[aM,ay,az,bU,bX];exact aR) ?_;simp[cX,nC,aX,aZ,aW,inObs,Pv.look,aM,ay,az])
    all_goals simp_all
def l4(c:br):Prop:= ∀x,0≤c.sz x∧c.sz x≤5001
theorem l4.rt{c:br}(h:l4 c){v r:Int}{cm:br}(he:rt c v=some (r,cm)):l4 cm:=by simp only[Pv.rt,gF,jj]at he;obtain⟨p,_,_,rfl⟩:=he;exact h
theorem l4.put{c:br}(h:l4 c){x k:Int}(ad:0≤k∧k≤5001)(m:List (Int×Int)):l4 {c with size:=eP x k c.size,color:=m}:=fun z=>by
 show 0≤(c0 z (eP x k c.size)).getD 0∧(c0 z (eP x k c.size)).getD 0≤5001;rw[nc];split
 ·exact ad
 ·exact h z
theorem acU(c:br)(v:Int)(p:Int×br)(he:x0 v c=some p):bQ al 259 [.int .i64 v,.eptr az] (aM c) fun r ai=>r= .int .i64 p.1∧ai=aM p.2:=by have ag:=cb c;simp only[x0,gF]at he;obtain⟨⟨r,bI⟩,J,rfl⟩:=he;simp only[aM,ay]at ag⊢;refine bQ.mk mixed jh aau agU (by simp) ag.obj fun aP cQ=>?_;unfold NY;simp[az];(refine hX.ob (qW c v r bI J) (by first|exact cb _|exact cb ‹_› _) (by first|exact cb _|exact cb ‹_› _) (Same.keys (by simp[aM,ay,az]) (by simp[aM,ay,az])) (by simp only[aM,ay,az,bU,bX];exact aR) (by simp only[aM,ay,az,bU,bX];exact aR) (by simp[inObs,Pv.look,aM,ay,az]) ?_;simp[cv,aM,ay,az]);(with_reducible repeat' first|refine aj ?_|simp);(refine cR.at (aM bI) (by simp) (by first|exact cb _|exact cb ‹_› _) (Same.keys (by simp[aM,ay,az]) (by simp[aM,ay,az])) (by simp only[aM,ay,az,bU,bX];exact aR) (by simp only[aM,ay,az,bU,bX];exact aR) ?_;simp[cX,UQ,aX,aZ,aW,inObs,Pv.look,aM,ay,az]);all_goals rfl
def gk(a:br×Bool):cJ:=⟨ay a.1++[(.obj 712,[.bool a.2])],[]⟩
theorem p8(a):eo (gk a):=by unfold gk ay;exact eo.of ⟨by intro m;simp[Pv.look],by intro m;simp[Pv.look]⟩ (by simp) (by simp)
theorem Xv(a b):Same (gk a) (gk b):=Same.keys (by simp[gk,ay]) (by simp[gk,ay])
theorem acT(n:Nat)(vd:∀x c p,pX n x c=some p→l4 c→l4 p.2∧bQ al 248 [az,.int .i64 x] (aM c) fun r ai=>r= .bool p.1∧ai=aM p.2)
  (v:Int) (a bn:br×Bool) (bD:l4 a.1) (he:x8 (pX n) v a=some bn):l4 bn.1∧bQ al 258 [.int .i64 v,.ptr (.obj 712) 0,.eptr az] (gk a) fun r ai=>r= .tuple []∧ai=gk bn:=by
 have ag:=p8 a;obtain⟨c,f⟩:=a;cases f with
 |false=>simp[x8]at he;subst he;refine⟨bD,?_⟩;simp only[gk,ay,bU,bX]at ag⊢;refine bQ.mk mixed jh Qj T7 (by simp) ag.obj fun aP cQ=>?_;unfold HA;simp[az];(with_reducible repeat' first|refine aj ?_|simp);(refine cR.at (gk (c,false)) (by simp) (by first|exact p8 _|exact p8 ‹_› _) (Same.keys (by simp[gk,ay,az]) (by simp[gk,ay,az])) (by simp only[gk,ay,az,bU,bX];exact aR) (by simp only[gk,ay,az,bU,bX];exact aR) ?_;simp[cX,FY,aX,aZ,aW,inObs,Pv.look,gk,ay,az])
 |true=>
  simp only[x8,if_true,lH,gF]at he;obtain⟨⟨r,bI⟩,J,⟨f2,ch⟩,U,rfl⟩:=he;obtain⟨z2,key⟩:=vd _ _ _ U (bD.rt J);refine⟨z2,?_⟩;simp only[gk,ay,bU,bX]at ag⊢;refine bQ.mk mixed jh Qj T7 (by simp) ag.obj fun aP cQ=>?_;unfold HA;simp[az];(with_reducible repeat' first|refine aj ?_|simp);(refine hX.ob (qW c v r bI J) (by first|exact cb _|exact cb ‹_› _) (by first|exact cb _|exact cb ‹_› _) (Same.keys (by simp[aM,ay,az]) (by simp[aM,ay,az])) (by simp only[aM,ay,az,bU,bX];exact aR) (by simp only[aM,ay,az,bU,bX];exact aR) (by simp[inObs,Pv.look,aM,ay,az]) ?_;simp[cv,aM,ay,az]);(with_reducible repeat' first|refine aj ?_|simp);(refine hX.ob (key) (by first|exact cb _|exact cb ‹_› _) (by first|exact cb _|exact cb ‹_› _) (Same.keys (by simp[aM,ay,az]) (by simp[aM,ay,az])) (by simp only[aM,ay,az,bU,bX];exact aR) (by simp only[aM,ay,az,bU,bX];exact aR) (by simp[inObs,Pv.look,aM,ay,az]) ?_;simp[cv,aM,ay,az]);cases f2 with
  |true=>(with_reducible repeat' first|refine aj ?_|simp);(refine cR.at (gk (ch,true)) (by simp) (by first|exact p8 _|exact p8 ‹_› _) (Same.keys (by simp[gk,ay,az]) (by simp[gk,ay,az])) (by simp only[gk,ay,az,bU,bX];exact aR) (by simp only[gk,ay,az,bU,bX];exact aR) ?_;simp[cX,FY,aX,aZ,aW,inObs,Pv.look,gk,ay,az])
  |false=>(with_reducible repeat' first|refine aj ?_|simp);(refine cR.at (gk (ch,false)) (by simp) (by first|exact p8 _|exact p8 ‹_› _) (Same.keys (by simp[gk,ay,az]) (by simp[gk,ay,az])) (by simp only[gk,ay,az,bU,bX];exact aR) (by simp only[gk,ay,az,bU,bX];exact aR) ?_;simp[cX,FY,aX,aZ,aW,inObs,Pv.look,gk,ay,az])
theorem acS(n:Nat):∀(x:Int) (c:br) (p:Bool×br),pX n x c=some p→l4 c→l4 p.2∧bQ al 248 [az,.int .i64 x] (aM c) fun r ai=>r= .bool p.1∧ai=aM p.2:=by
 induction n with
 |zero=>intro x c p h;simp[pX]at h
 |succ n bT=>
  intro x c p he bD;have ag:=cb c;simp only[pX]at he;by_cases U:c.col x=2
  ·rw[if_pos U]at he;cases he;have Bi:iL c.color x=2:=U;refine⟨bD,?_⟩;simp only[aM,ay]at ag⊢;refine bQ.mk mixed jh A3 Ct (by simp) ag.obj fun aP cQ=>?_;unfold yq;simp[az];(with_reducible repeat' first|refine aj ?_|simp[Bi]);(refine cR.at (aM c) (by simp) (by first|exact cb _|exact cb ‹_› _) (Same.keys (by simp[aM,ay,az]) (by simp[aM,ay,az])) (by simp only[aM,ay,az,bU,bX];exact aR) (by simp only[aM,ay,az,bU,bX];exact aR) ?_;simp[cX,zT,aX,aZ,aW,inObs,Pv.look,aM,ay,az])
  rw[if_neg U]at he;have Bi:(iL c.color x==2)=false:=by simp;exact U
  by_cases J:c.col x=1
  ·rw[if_pos J]at he;cases he;have nt:iL c.color x=1:=J;refine⟨bD,?_⟩;simp only[aM,ay]at ag⊢;refine bQ.mk mixed jh A3 Ct (by simp) ag.obj fun aP cQ=>?_;unfold yq;simp[az];(with_reducible repeat' first|refine aj ?_|simp[nt]);(refine cR.at (aM c) (by simp) (by first|exact cb _|exact cb ‹_› _) (Same.keys (by simp[aM,ay,az]) (by simp[aM,ay,az])) (by simp only[aM,ay,az,bU,bX];exact aR) (by simp only[aM,ay,az,bU,bX];exact aR) ?_;simp[cX,zT,aX,aZ,aW,inObs,Pv.look,aM,ay,az])
  rw[if_neg J]at he;have nt:(iL c.color x==1)=false:=by simp;exact J
  have Sk:l4 (c.grey x):=bD.put (by omega) _;cases lU:(c.grey x).shd x with
  |false=>rw[if_pos lU]at he;cases he;have sn:(c0 x c.shaped).getD false=false:=lU;refine⟨Sk,?_⟩;simp only[aM,ay]at ag⊢;refine bQ.mk mixed jh A3 Ct (by simp) ag.obj fun aP cQ=>?_;unfold yq;simp[az];(with_reducible repeat' first|refine aj ?_|simp[Bi,nt,sn]);(refine cR.at (aM ((c.grey x).black x)) (by simp) (by first|exact cb _|exact cb ‹_› _) (Same.keys (by simp[aM,ay,az,br.grey,br.black]) (by simp[aM,ay,az,br.grey,br.black])) (by simp only[aM,ay,az,br.grey,br.black,bU,bX];exact aR) (by simp only[aM,ay,az,br.grey,br.black,bU,bX];exact aR) ?_;simp[cX,zT,aX,aZ,aW,inObs,Pv.look,aM,ay,az,br.grey,br.black])
  |true=>
   rw[if_neg (by simp[lU]),lH]at he;have sn:(c0 x c.shaped).getD false=true:=lU;obtain⟨⟨e,f⟩,ao,a8⟩:=he;simp only at a8;obtain⟨Xb,key⟩:=QR gk p8 Xv 258 [.ptr (.obj 712) 0,.eptr az] (fun a=>by simp[gk,ay,az,inObs,Pv.look]) rfl (fun a=>l4 a.1) (x8 (pX n)) (fun v a bn bD h=>acT n bT v a bn bD h) _ _ _ Sk ao;rw[show(c.grey x).shp x=(c0 x c.shape).getD .nil from rfl]at key;cases f with
   |false=>simp at a8;subst a8;refine⟨Xb,?_⟩;simp only[aM,ay]at ag⊢;refine bQ.mk mixed jh A3 Ct (by simp) ag.obj fun aP cQ=>?_;unfold yq;simp[az];(with_reducible repeat' first|refine aj ?_|simp[Bi,nt,sn]);(refine c7.ob (key) (by first|exact p8 _|exact p8 ‹_› _) (by simp only[gk,ay,az,br.grey,bU,bX];exact aR) (by simp only[gk,ay,az,br.grey,bU,bX];exact aR) (by simp[inObs,Pv.look,gk,ay,az,br.grey]) ?_;rintro r ai ⟨rfl,rfl⟩;refine⟨(Same.keys (by simp[gk,ay,az,br.grey]) (by simp[gk,ay,az,br.grey])),?_⟩;simp[cv,gk,ay,az,br.grey]);(with_reducible repeat' first|refine aj ?_|simp);(refine cR.at (aM e) (by simp) (by first|exact cb _|exact cb ‹_› _) (Same.keys (by simp[aM,ay,az]) (by simp[aM,ay,az])) (by simp only[aM,ay,az,bU,bX];exact aR) (by simp only[aM,ay,az,bU,bX];exact aR) ?_;simp[cX,zT,aX,aZ,aW,inObs,Pv.look,aM,ay,az])
   |true=>
    rw[if_neg (by simp),gF]at a8;obtain⟨⟨k,aB⟩,bZ,rfl⟩:=a8;obtain⟨z2,b4,vp⟩:=acJ aM cb Dt 259 [.eptr az] (fun a=>by simp[aM,ay,az,inObs,Pv.look]) rfl l4 x0 (fun v a p bD h=>by simp only[x0,gF]at h;obtain⟨⟨r,bI⟩,J,rfl⟩:=h;exact⟨bD.rt J,(bD.rt J r).1,Int.le_trans (bD.rt J r).2 (by omega)⟩) (fun v a p _ h=>acU a v p h) _ _ _ Xb bZ
    rw[show br.shp e x=(c0 x e.shape).getD .nil from rfl]at vp;refine⟨z2.put b4 _,?_⟩;simp only[aM,ay]at ag⊢;refine bQ.mk mixed jh A3 Ct (by simp) ag.obj fun aP cQ=>?_;unfold yq;simp[az];(with_reducible repeat' first|refine aj ?_|simp[Bi,nt,sn]);(refine c7.ob (key) (by first|exact p8 _|exact p8 ‹_› _) (by simp only[gk,ay,az,br.grey,bU,bX];exact aR) (by simp only[gk,ay,az,br.grey,bU,bX];exact aR) (by simp[inObs,Pv.look,gk,ay,az,br.grey]) ?_;rintro r ai ⟨rfl,rfl⟩;refine⟨(Same.keys (by simp[gk,ay,az,br.grey]) (by simp[gk,ay,az,br.grey])),?_⟩;simp[cv,gk,ay,az,br.grey]);(with_reducible repeat' first|refine aj ?_|simp);(refine hX.ob (vp) (by first|exact cb _|exact cb ‹_› _) (by first|exact cb _|exact cb ‹_› _) (Same.keys (by simp[aM,ay,az]) (by simp[aM,ay,az])) (by simp only[aM,ay,az,bU,bX];exact aR) (by simp only[aM,ay,az,bU,bX];exact aR) (by simp[inObs,Pv.look,aM,ay,az]) ?_;simp[cv,aM,ay,az]);(with_reducible repeat' first|refine aj ?_|simp);(refine cR.at (aM (({aB with size:=eP x k aB.size}:br).black x)) (by simp) (by first|exact cb _|exact cb ‹_› _) (Same.keys (by simp[aM,ay,az,br.black]) (by simp[aM,ay,az,br.black])) (by simp only[aM,ay,az,br.black,bU,bX];exact aR) (by simp only[aM,ay,az,br.black,bU,bX];exact aR) ?_;simp[cX,zT,aX,aZ,aW,inObs,Pv.look,aM,ay,az,br.black])
theorem acR(n:Nat)(vd:∀x c p,pW n x c=some p→bQ al 249 [az,.int .i64 x] (aM c) fun r ai=>r=p.1.e∧ai=aM p.2)
  (v:Int) (c:br) (p:T×br) (he:Ay (pW n) v c=some p):bQ al 260 [.int .i64 v,.eptr az] (aM c) fun r ai=>r= .tuple [p.1.e,.bool true]∧ai=aM p.2:=by
 have ag:=cb c;simp only[Ay,lH]at he;obtain⟨⟨r,bI⟩,J,U⟩:=he;have key:=vd _ _ _ U;simp only[aM,ay]at ag⊢;refine bQ.mk mixed jh aat agT (by simp) ag.obj fun aP cQ=>?_;unfold NX;simp[az];(with_reducible repeat' first|refine aj ?_|simp);(refine hX.ob (qW c v r bI J) (by first|exact cb _|exact cb ‹_› _) (by first|exact cb _|exact cb ‹_› _) (Same.keys (by simp[aM,ay,az]) (by simp[aM,ay,az])) (by simp only[aM,ay,az,bU,bX];exact aR) (by simp only[aM,ay,az,bU,bX];exact aR) (by simp[inObs,Pv.look,aM,ay,az]) ?_;simp[cv,aM,ay,az]);(with_reducible repeat' first|refine aj ?_|simp);(refine hX.ob (key) (by first|exact cb _|exact cb ‹_› _) (by first|exact cb _|exact cb ‹_› _) (Same.keys (by simp[aM,ay,az]) (by simp[aM,ay,az])) (by simp only[aM,ay,az,bU,bX];exact aR) (by simp only[aM,ay,az,bU,bX];exact aR) (by simp[inObs,Pv.look,aM,ay,az]) ?_;simp[cv,aM,ay,az]);(with_reducible repeat' first|refine aj ?_|simp);(refine cR.at (aM p.2) (by simp) (by first|exact cb _|exact cb ‹_› _) (Same.keys (by simp[aM,ay,az]) (by simp[aM,ay,az])) (by simp only[aM,ay,az,bU,bX];exact aR) (by simp only[aM,ay,az,bU,bX];exact aR) ?_;simp[cX,UP,aX,aZ,aW,inObs,Pv.look,aM,ay,az])
theorem kM(n:Int):bH al 116 [.int .i64 n] (T.var n).e:=by refine bf jh aaN ahd fun aP=>?_;unfold Oi;exact b2
theorem acQ(n:Nat):∀(x:Int) (c:br) (p:T×br),pW n x c=some p→bQ al 249 [az,.int .i64 x] (aM c) fun r ai=>r=p.1.e∧ai=aM p.2:=by
 induction n with
 |zero=>intro x c p h;simp[pW]at h
 |succ n bT=>
  intro x c p he;have ag:=cb c;simp only[pW]at he;cases aI:c0 x c.full with
  |some t=>rw[aI]at he;cases he;simp only[aM,ay]at ag⊢;refine bQ.mk mixed jh Ij KH (by simp) ag.obj fun aP cQ=>?_;unfold DH;simp[az];(with_reducible repeat' first|refine aj ?_|simp[aI]);(refine cR.at (aM c) (by simp) (by first|exact cb _|exact cb ‹_› _) (Same.keys (by simp[aM,ay,az]) (by simp[aM,ay,az])) (by simp only[aM,ay,az,bU,bX];exact aR) (by simp only[aM,ay,az,bU,bX];exact aR) ?_;simp[cX,FX,aX,aZ,aW,inObs,Pv.look,aM,ay,az])
  |none=>
   rw[aI]at he;simp only at he;cases lU:c.shd x with
   |false=>have sn:(c0 x c.shaped).getD false=false:=lU;rw[if_pos lU]at he;cases he;simp only[aM,ay]at ag⊢;refine bQ.mk mixed jh Ij KH (by simp) ag.obj fun aP cQ=>?_;unfold DH;simp[az];(with_reducible repeat' first|refine aj ?_|refine aD (kM _) ?_|refine aE (kM _) ?_|simp[aI,sn]);(refine cR.at (aM {c with full:=eP x (.var x) c.full}) (by simp) (by first|exact cb _|exact cb ‹_› _) (Same.keys (by simp[aM,ay,az]) (by simp[aM,ay,az])) (by simp only[aM,ay,az,bU,bX];exact aR) (by simp only[aM,ay,az,bU,bX];exact aR) ?_;simp[cX,FX,aX,aZ,aW,inObs,Pv.look,aM,ay,az])
   |true=>have sn:(c0 x c.shaped).getD false=true:=lU;rw[if_neg (by simp[lU]),gF]at he;obtain⟨⟨t,bI⟩,J,rfl⟩:=he;have key:=acw aM cb Dt 260 [.eptr az] (fun a=>by simp[aM,ay,az,inObs,Pv.look]) rfl (Ay (pW n)) (fun v a p h=>acR n bT v a p h) _ _ _ J;rw[show c.shp x=(c0 x c.shape).getD .nil from rfl]at key;simp only[aM,ay]at ag⊢;refine bQ.mk mixed jh Ij KH (by simp) ag.obj fun aP cQ=>?_;unfold DH;simp[az];(with_reducible repeat' first|refine aj ?_|refine aD (kM _) ?_|refine aE (kM _) ?_|simp[aI,sn]);(refine c7.ob (key) (by first|exact cb _|exact cb ‹_› _) (by simp only[aM,ay,az,bU,bX];exact aR) (by simp only[aM,ay,az,bU,bX];exact aR) (by simp[inObs,Pv.look,aM,ay,az]) ?_;rintro r ai ⟨rfl,rfl⟩;refine⟨(Same.keys (by simp[aM,ay,az]) (by simp[aM,ay,az])),?_⟩;simp[cv,aM,ay,az]);(with_reducible repeat' first|refine aj ?_|simp);(refine cR.at (aM {bI with full:=eP x t bI.full}) (by simp) (by first|exact cb _|exact cb ‹_› _) (Same.keys (by simp[aM,ay,az]) (by simp[aM,ay,az])) (by simp only[aM,ay,az,bU,bX];exact aR) (by simp only[aM,ay,az,bU,bX];exact aR) ?_;simp[cX,FX,aX,aZ,aW,inObs,Pv.look,aM,ay,az])
theorem acy:bQ al 215 [] ⟨[],[]⟩ fun r ai=>r=az∧ai=aM br.new:=by have ag:eo ⟨[],[]⟩:=eo.of xC (by simp) (by simp);refine bQ.mk mixed jh aaC ag2 (by simp) ag.obj fun aP cQ=>?_;unfold N6;simp;refine cR.new (aM br.new) (.inl rfl) (cb _) ⟨trivial,trivial⟩ (by simp only[aM,ay,br.new];exact aR) (by simp only[aM,ay,br.new];exact aR) ?_;simp[cX,UX,aX,aZ,aW,inObs,Pv.look,aM,ay,az]
theorem VU{a b:List Int}(h:a.Perm b):qC a=qC b:=by
 have aN:∀a b c:Int,(decide (a≤b))=true→(decide (b≤c))=true→(decide (a≤c))=true:=by intro a b c;simp;omega
 have zf:∀a b:Int,(decide (a≤b)||decide (b≤a))=true:=by intro a b;simp;omega
 have J:=List.pairwise_mergeSort aN zf a;have U:=List.pairwise_mergeSort aN zf b;refine ML (le:=fun x y:Int=>(decide (x≤y))=true) (fun x y _ _ J U=>by simp at J U;omega) J U ?_;exact(List.mergeSort_perm a _).trans (h.trans (List.mergeSort_perm b _).symm)
def ae5(l:List Int)(k:Nat)(st:bq):Prop:=∃(seen:List Nat) (xs:List Int),seen.Nodup∧(∀b∈seen,b<l.length)∧k=l.length-seen.length∧xs=seen.filterMap (fun b=>l[b]?)∧xs.length=seen.length∧st=⟨[(3,.row 1 (.obj 306) xs.length),(7,.ptr (.loc 0) 0)],[(.obj 304,nT l),(.loc 0,cd l.length seen (.obj 304))],[(.obj 306,⟨xs.length,3,1,some (ep xs)⟩)],1,[.obj 306,.obj 304]⟩
@[simp] theorem aom(xs:List Int):(ep xs).length=xs.length:=by simp[ep]
@[simp] theorem arC(xs:List Int):cY (ep xs)=ep xs:=by
 induction xs with
 |nil=>rfl
 |cons x r bT=>simp only[ep,gE,cY,ds]at bT⊢;rw[bT]
@[simp] theorem aon:ep []=[]:=rfl
theorem ae0(xs:List Int)(x:Int):ep xs++[ah.int .i64 x]=ep (xs++[x]):=by simp[ep]
theorem acP(l:List Int)(au:l.length≤1000000):bQ al 136 [.gmap (.obj 304)] (s7 l) fun r ai=>r= .slice 1 .no (ep (qC l))∧ai=s7 l:=by
 have ag:=MV l;unfold s7 at ag⊢;refine bQ.mk mixed fE aaM ahc (by simp) ag.obj fun aP cQ=>?_;unfold Oh;simp;refine oR (ae5 l) l.length _ ⟨by simp[fresh,aK,aC,cd,inObs,Pv.look,mq,sx],dZ (by simp[fresh,aK,aC,cd,inObs,Pv.look,mq,sx]),ea (by simp[fresh,aK,aC,dQ,inObs,Pv.look,mq,sx]),by simp⟩ ⟨[],[],by simp,by simp,by simp,by simp,by simp,rfl⟩ ?_;rintro k st ⟨seen,xs,aQ,bC,ad,h4,jY,rfl⟩ kE cQ;clear kE cQ;have hle:=Gs aQ bC;simp;refine Zd (mk:= .obj 304) (seen:=seen) (l:=l) (by simp) (by simp) rfl (fun lf=>?_) (fun b x ab ae=>?_)
 ·simp;have vc:=LP aQ bC lf;rw[←h4]at vc;refine c7.ob (acN 306 xs (by omega)) (G8 306 xs) (by unfold mE;exact aR) (by unfold mE;exact aR) (by simp[mE,inObs,Pv.look]) ?_;rintro r ai ⟨rfl,rfl⟩;refine⟨⟨fun _=>rfl,fun k=>by simp only[mE,Pv.look];split<;>rfl⟩,?_⟩;unfold mE;simp[cv,VT];refine cR.at _ (.inl rfl) ag (Same.refl _) aR aR ?_;simp[cX,U2,aX,aZ,aW];rw[VU vc];simp[aC,sx]
 ·have y5:∀f:aH→aY (List ah),f (.loc 0)=some (cd l.length (seen++[b]) (.obj 304))→f (.obj 304)=some (nT l)→o3 f (.ptr (.loc 0) 0)=some (True,.tuple [.int .i64 x,.bool true]):=fun f J U=>afT f (.loc 0) (.obj 304) l.length seen b l x J U rfl ab;have fw:b<l.length:=(fL.1 ab).1;have pD:=LQ aQ bC fw ae;simp[y5,ae0];refine⟨by unfold lim;omega,?_⟩;refine bN.next (l.length-(seen.length+1)) (by omega) ⟨seen++[b],xs++[x],KD aQ ae,(by simp;intro c ax;rcases ax with ax|rfl;exact bC c ax;exact fw),by simp,by rw[List.filterMap_append,←h4];simp[ab],by simp[jY],rfl⟩ ⟨by simp[fresh,aK,aC,cd,inObs,Pv.look,mq,sx],dZ (by simp[fresh,aK,aC,cd,inObs,Pv.look,mq,sx]),ea (by simp[fresh,aK,aC,dQ,inObs,Pv.look,mq,sx]),by simp⟩
@[simp] theorem aoC(S:aH→Prop)(xs:List Int):aK S (ep xs)=True:=eq_true (sx S xs)
@[simp] theorem anc:cells .junk=[.junk]:=rfl
def Og:C:=(aa [eE 6 5,be 7 false] (aa [dp 12 215 [],I 8 12] (.seq (aa [I 13 0,cl 14 13,bW 15 0] (ft 16 15 14 (.seq (.block 1 (aa [cu 17 5 13 15,aV 18 5 17,dj 10 jy,bL 5 10 18] (aa [I 19 8,aF 20 0 1 10,av 21 1 20,ca 22 216 19 21] (aa [I 23 8,hC 24 1 4 10,aV 25 4 24,ca 26 217 23 25] (.seq (.drawn false 69 [I 27 8,aF 28 0 1 10,av 29 1 28,cE 30 116 29,hC 31 1 4 10,aV 32 4 31,dp 33 218 [.t 27,.t 30,.t 32],cw 34 33]) (aS 34 (aa [eE 6 5,be 7 false] .ret) .skip)))))) (.region [aU 35 .add 15 1,I 15 35])))) (.seq (aa [I 36 1,cl 37 36,bW 38 0] (.block 2 (.loop (aa [bm 39 .lss 38 37] (.seq (aS 39 .skip (.exit 2)) (.seq (.block 3 (aa [I 40 38,I 11 40] (aa [I 41 8,I 42 1,I 43 11,cu 44 4 42 43,aV 45 4 44,ca 46 217 41 45] (aa [I 47 8,I 48 2,I 49 11,cu 50 4 48 49,aV 51 4 50,ca 52 217 47 51] (.seq (.drawn false 69 [I 53 8,I 54 1,I 55 11,cu 56 4 54 55,aV 57 4 56,I 58 2,I 59 11,cu 60 4 58 59,aV 61 4 60,dp 62 218 [.t 53,.t 57,.t 61],cw 63 62]) (aS 63 (aa [eE 6 5,be 7 false] .ret) .skip)))))) (.region [aU 64 .add 38 1,I 38 64]))))))) (aa [I 65 8,cE 66 219 65,cD 67 0 66,cD 68 1 66,I 6 67,I 7 68] .ret)))))
@[simp] def Lc:List bs:=[.tmp 6,.tmp 7]
def NW:C:=(aa [eE 2 5,be 3 false] (aa [c1 (.mkmap 12 (some 304)),I 4 12] (.seq (aa [I 13 0,fs 14 13,aF 15 0 1 14,av 16 1 15,c1 (.range 17 none (.t 16))] (.block 0 (.loop (aa [⟨none,.next 18 (.t 17)⟩,cD 19 0 18] (.seq (aS 19 .skip (.exit 0)) (.block 1 (aa [b5 20 (.ment (.t 17)),cD 21 0 20,I 5 21] (.region [I 22 4,I 23 5,c1 (.mput .i (.t 22) (.t 23) (.c (.bool true)))])))))))) (aa [I 24 4,cE 25 136 24,I 6 25] (aa [c1 (.bslm 26 none 5 113 []),I 7 26] (.seq (aa [I 27 6,cl 28 27,bW 29 0] (.block 2 (.loop (aa [bm 30 .lss 29 28] (.seq (aS 30 .skip (.exit 2)) (.seq (.block 3 (aa [cu 31 1 27 29,av 32 1 31,I 9 32] (aa [I 33 0,I 34 9,ca 35 216 33 34,I 10 35] (.seq (aa [I 36 0,I 37 10,ca 38 248 36 37,cw 39 38] (aS 39 (aa [eE 2 5,be 3 false] .ret) .skip)) (.seq (aa [I 40 10,I 41 9,bm 42 .eql 40 41,I 43 42,b3 43 true 44 0,aq 43 true (fs 45 44),aq 43 true (aF 46 2 1 45),aq 43 true (av 47 1 46),b3 43 true 48 10,aq 43 true (b5 49 (.mget .i (.bool false) false (.t 47) (.t 48))),aq 43 true (cw 50 49),dx 51 43 50] (aS 51 (.exit 3) .skip)) (aa [I 52 7,I 53 9,iq 54 jy [(0,1,(.t 53))],ek 55 5 113 [.t 54],c1 (.appm 56 none 5 113 (.t 52) (.t 55)),I 7 56] (aa [I 57 0,fs 58 57,aF 59 4 1 58,av 60 1 59,I 61 10,b5 62 (.mget .i (.int .i64 0) false (.t 60) (.t 61)),aU 63 .gtr 62 5000,I 64 63,b3 64 false 65 7,aq 64 false (cl 66 65),aq 64 false (aU 67 .gtr 66 400),c6 68 64 67] (aS 68 (aa [eE 2 5,be 3 false] .ret) .skip)))))))) (.region [aU 69 .add 29 1,I 29 69]))))))) (.seq (aa [I 70 7,cl 71 70,bW 72 0] (.block 4 (.loop (aa [bm 73 .lss 72 71] (.seq (aS 73 .skip (.exit 4)) (.seq (.block 5 (aa [I 74 72,I 11 74] (.region [I 75 7,I 76 11,I 77 0,I 78 0,I 79 7,I 80 11,cu 81 5 79 80,aF 82 0 1 81,av 83 1 82,ca 84 216 78 83,ca 85 249 77 84,cE 86 143 85,cu 87 5 75 76,hC 88 1 4 87,bL 4 88 86]))) (.region [aU 89 .add 72 1,I 72 89]))))))) (.seq (.pub 7 (.region [I 90 7,I 2 90,be 3 true])) .ret))))))))
@[simp] def FW:List bs:=[.tmp 2,.tmp 3]
def Mh:List (Nat×dB):=[
 (3,⟨1,8,.int .i64,.int .i64 0⟩),
 (4,⟨1,1,.bool,.bool false⟩),
 (27,⟨1,24,.slice 30,.slice 4 .nil []⟩),
 (30,⟨4,56,.struct [(0,3),(1,3),(2,9),(3,27)],.agg [.int .i64 0,.int .i64 0,.str [],.slice 4 .nil []]⟩),
 (46,⟨1,24,.slice 113,.slice 5 .nil []⟩),
 (76,⟨1,24,.slice 3,.slice 1 .nil []⟩),
 (113,⟨5,64,.struct [(0,3),(1,30)],.agg [.int .i64 0,.int .i64 0,.int .i64 0,.str [],.slice 4 .nil []]⟩),
 (136,⟨1,8,.map 3 4,.junk⟩),
 (216,⟨1,8,.map 3 3,.junk⟩),
 (219,⟨6,48,.struct [(0,216),(1,217),(2,136),(3,216),(4,216),(5,217)],.agg [.junk,.junk,.junk,.junk,.junk,.junk]⟩)]
theorem Wj:fN al Mh=true:=by kernel_rfl
theorem ahb:bY Mh Og Lc 3 Tryz.f186=true:=by kernel_rfl
theorem aaL:al.funcs[(186:Nat)]? =some Tryz.f186:=Tryz.func186
theorem agS:bY Mh NW FW 1 Tryz.f219=true:=by kernel_rfl
theorem aas:al.funcs[(219:Nat)]? =some Tryz.f219:=Tryz.func219
def fy(o:aY (List ar)):ah:= .tuple [.slice 5 .no ((o.getD []).map ar.e),.bool o.isSome]
theorem afV(f:aH→aY (List ah))(fh mk:aH)(n:Nat)(seen:List Nat)(b:Nat)(l:List (Int×Int))(x:Int×Int)(hi:f fh=some (cd n (seen++[b]) mk))(hm:f mk=some (mW l))(aA:n=l.length)(ab:l[b]? =some x):o3 f (.ptr fh 0)=some (True,.tuple [.int .i64 x.1,.int .i64 x.2]):=by rw[TG f fh mk n seen b _ hi hm (by simpa using aA)];simp[ab]
theorem Ze{st:bq}{d:Nat}{K:bq→Prop}{fh mk:aH}{n:Nat}{seen:List Nat}{l:List (Int×Int)}(hi:Pv.look fh st.b=some (cd n seen mk))(hm:Pv.look mk st.b=some (mW l))(aA:n=l.length)
  (J:(∀b,b<l.length→b∈seen)→K {st with t:=Pv.put d (.tuple [.bool false]) st.t}) (U:∀b x,l[b]? =some x→b∉seen→K {st with t:=Pv.put d (.tuple [.bool true,.int .i64 x.1,.int .i64 x.2]) st.t,b:=cx fh (cd n (seen++[b]) mk) st.b}):
  r5 st d (.ptr fh 0) K:=by
 refine P9 hi hm (by simpa using aA) (fun h=>J fun b ae=>h b (by omega)) (fun b k v ae ag=>?_);simp only[List.getElem?_map,gF]at ae;obtain⟨x,ak,aB⟩:=ae;simp only[jj]at aB;obtain⟨rfl,rfl⟩:=aB;exact U b x ak ag
@[simp] theorem aqI(m:aH)(l:List (Int×Int)):vM m (mW l)=some (cd l.length [] m):=by simp[mW,rq]
def nm(v:Int):ah:= .agg [.int .i64 v,.int .i64 0,.int .i64 0,.str [],.slice 4 .nil []]
@[simp] theorem afo(S:aH→Prop)(l:List Int):aK S (l.map nm)=True:=by
 apply eq_true;induction l with
 |nil=>simp[aK]
 |cons x r bT=>simp only[gE,aK];exact⟨by simp[nm,aC,aK],bT⟩
@[simp] theorem aoQ(S:aH→Prop)(v:Int):aC S (nm v)=True:=by simp[nm,aC,aK]
@[simp] theorem aqS(v:Int):dY (nm v)=true:=rfl
@[simp] theorem amW(v:Int):cells (nm v)=[.int .i64 v,.int .i64 0,.int .i64 0,.str [],.slice 4 .nil []]:=rfl
theorem ajS(v:Int)(f:Nat)(cs:List ah):mx (nm v) f cs= .agg (nD [.int .i64 v,.int .i64 0,.int .i64 0,.str [],.slice 4 .nil []] f cs):=rfl
theorem iV{S:aH→Prop}:∀{a b:List ah},aK S (a++b)↔(aK S a∧aK S b)
 |[],b=>by simp[aK]
 |x::a,b=>by simp[aK,iV (a:=a),and_assoc]
@[simp] theorem aoB(S:aH→Prop)(k:Nat)(l:List Int):aK S (nh k (l.map nm))=True:=by rw[←List.map_drop];exact afo S _
@[simp] theorem ao6(S:aH→Prop)(o:aY (List ar)):aC S (fy o)=True:=by simp[fy]
theorem Ho(l:List Int)(v:Int):l.map nm++[.agg [.int .i64 v,.int .i64 0,.int .i64 0,.str [],.slice 4 .nil []]]=(l++[v]).map nm:=by simp[nm]
def ae1(c:br)(k:Nat)(st:bq):Prop:=∃(seen:List Nat) (xs:List Int),seen.Nodup∧(∀b∈seen,b<c.up.length)∧k=c.up.length-seen.length∧xs=seen.filterMap (fun b=>(c.up[b]?).map (·.1))∧xs.length=seen.length∧st=⟨[(0,az),(4,.gmap (.obj 304)),(17,.ptr (.loc 0) 0)],ay c++[(.obj 304,nT xs),(.loc 0,cd c.up.length seen (.obj 702))],[],1,[.obj 304,.obj 702,.obj 703,.obj 704,.obj 705,.obj 706,.obj 707]⟩
theorem aj3{c:br}{seen:List Nat}(aQ:seen.Nodup)(bC:∀b∈seen,b<c.up.length)(lf:∀b,b<c.up.length→b∈seen):(seen.filterMap fun b=>(c.up[b]?).map (·.1)).Perm (cn c.up):=by have:=LP (l:=cn c.up) aQ (by simpa[cn]using bC) (by simpa[cn]using lf);simpa[cn]using this
theorem aj4{c:br}(aA:(cn c.up).Nodup){seen:List Nat}{b:Nat}(ae:b∉seen){x:Int×Int}(ab:c.up[b]? =some x):x.1∉seen.filterMap fun b=>(c.up[b]?).map (·.1):=by
 intro hm;rw[List.mem_filterMap]at hm;obtain⟨bO,J,U⟩:=hm;obtain⟨y,ao,a8⟩:=gF.1 U;have ak:(cn c.up)[b]? =some x.1:=by simp[cn,ab]
 have aB:(cn c.up)[bO]? =some x.1:=by simp[cn,ao,a8]
 have bC:=(fL.1 ak).1;have va:=(fL.1 aB).1;have f1:=(fL.1 ak).2;have f2:=(fL.1 aB).2;rcases Nat.lt_trichotomy b bO with h|h|h
 ·exact pg.1 aA b bO bC va h (f1.trans f2.symm)
 ·subst h;exact ae J
 ·exact pg.1 aA bO b va bC h (f2.trans f1.symm)
set_option maxRecDepth 4000 in
theorem acL(n:Nat)(c:br)(o:aY (List ar))(he:C0 n (qD (cn c.up)) c=some o)(BF:(cn c.up).Nodup)(hlen:c.up.length≤1000000)(bD:l4 c):bQ al 219 [az] (aM c) fun r ai=>r=fy o∧∃cm,ai=aM cm:=by
 have ag:=cb c;simp only[aM,ay]at ag⊢;refine bQ.mk mixed Wj aas agS (by simp) ag.obj fun aP cQ=>?_;unfold NW;simp[az];have BB:∀S:aH→Prop,aK S (jz []):=fun S=>mq S [];refine oR (ae1 c) c.up.length _ ⟨by simp[fresh,aK,aC,cd,inObs,Pv.look,mq,az,ay,BB],dZ (by simp[fresh,aK,aC,cd,inObs,Pv.look,mq,az,ay,BB]),ea (by simp[fresh,aK,aC,dQ,inObs,Pv.look,mq,az,ay,BB]),by simp⟩ ⟨[],[],by simp,by simp,by simp,by simp,by simp,rfl⟩ ?_;rintro k st ⟨seen,xs,aQ,bC,ad,h4,jY,rfl⟩ kE cQ;clear kE cQ;have hle:=Gs aQ bC;simp[ay,az];refine Ze (mk:= .obj 702) (seen:=seen) (l:=c.up) (by simp) (by simp) rfl (fun lf=>?_) (fun b x ab ae=>?_);rotate_left
 ·have y5:∀f:aH→aY (List ah),f (.loc 0)=some (cd c.up.length (seen++[b]) (.obj 702))→f (.obj 702)=some (mW c.up)→o3 f (.ptr (.loc 0) 0)=some (True,.tuple [.int .i64 x.1,.int .i64 x.2]):=fun f J U=>afV f (.loc 0) (.obj 702) c.up.length seen b c.up x J U rfl ab;have fw:b<c.up.length:=(fL.1 ab).1;have pD:=LQ aQ bC fw ae;have kj:=aj4 BF ae ab;rw[←h4]at kj;simp[y5,Hk,kj];refine bN.next (c.up.length-(seen.length+1)) (by omega) ⟨seen++[b],xs++[x.1],KD aQ ae,(by simp;intro c ax;rcases ax with ax|rfl;exact bC c ax;exact fw),by simp,by rw[List.filterMap_append,←h4];simp[ab],by simp[jY],rfl⟩ ⟨by simp[fresh,aK,aC,cd,inObs,Pv.look,mq,az,ay],dZ (by simp[fresh,aK,aC,cd,inObs,Pv.look,mq,az,ay]),ea (by simp[fresh,aK,aC,dQ,inObs,Pv.look,mq,az,ay]),by simp⟩
 ·simp;have vc:=aj3 aQ bC lf;rw[←h4]at vc;have aeL:xs.length≤1000000:=by omega
  refine c7.ob (acP xs aeL) (MV _) (by simp only[s7];exact aR) (by simp only[s7];exact aR) (by simp[inObs,s7,Pv.look]) ?_;rintro r ai ⟨rfl,rfl⟩;refine⟨Same.refl _,?_⟩;have zd:qC xs=qD (cn c.up):=VU vc;rw[zd];obtain⟨bc,kH⟩:∃bc,bc=qD (cn c.up):=⟨_,rfl⟩;rw[←kH]at he⊢;simp[s7,cv];simp only[C0,lH]at he;obtain⟨res,yX,n2⟩:=he;have pE:bc.length≤1000000:=by rw[kH,(C3 _).length_eq];simpa[cn]using hlen
  refine hQ (α:=br×List Int) (fun i a=>⟨[(0,az),(27,.slice 1 .no (ep bc)),(28,.int .i64 bc.length),(7,.row 5 (.loc 1) a.2.length),(29,.int .i64 i)],ay a.1,[(.loc 1,⟨a.2.length,113,5,some (a.2.map nm)⟩)],2,[.obj 702,.obj 703,.obj 704,.obj 705,.obj 706,.obj 707]⟩) bc.length (fun i a=>rG n (bc.drop i) a.1 a.2=some res∧l4 a.1∧a.2.length≤400) (c,[]) (by simp[az,ay];exact⟨by simp[fresh,aK,aC,cd,inObs,Pv.look,mq,az,ay],dZ (by simp[fresh,aK,aC,cd,inObs,Pv.look,mq,az,ay]),ea (by simp[fresh,aK,aC,dQ,inObs,Pv.look,mq,az,ay]),by simp⟩) ⟨by simpa using yX,bD,by simp⟩ ?_ ?_
  ·rintro⟨bI,out⟩ ⟨J,U,ao⟩ ae;simp only at J U ao ae⊢;simp[rG]at J;subst J;simp only[gF]at n2;obtain⟨⟨L,Ye⟩,adt,rfl⟩:=n2;simp[az,ay];refine hQ (α:=br×List ar) (fun j a=>⟨[(0,az),(7,.row 5 (.loc 1) out.length),(71,.int .i64 out.length),(72,.int .i64 j)],ay a.1,[(.loc 1,⟨out.length,113,5,some (a.2.map ar.e++(out.drop j).map nm)⟩)],2,[.obj 702,.obj 703,.obj 704,.obj 705,.obj 706,.obj 707]⟩) out.length (fun j a=>a.2.length=j∧∃rest,x1 n (out.drop j) a.1=some (rest,Ye)∧a.2++rest=L) (bI,[]) (by simp[az,ay];exact⟨by simp[fresh,aK,aC,cd,inObs,Pv.look,az,ay],dZ (by simp[fresh,aK,aC,cd,inObs,Pv.look,az,ay]),ea (by simp[fresh,aK,aC,dQ,inObs,Pv.look,az,ay]),by simp⟩) ⟨rfl,L,by simpa using adt,rfl⟩ ?_ ?_
   ·rintro⟨ch,done⟩ ⟨a8,rest,bZ,c4⟩ ae;simp only at a8 bZ c4 ae⊢;simp[x1]at bZ;obtain⟨rfl,rfl⟩:=bZ;simp at c4;subst c4;simp[az,ay,a8];refine cR.at (aM ch) (by simp) (cb _) (Same.keys (by simp[aM,ay]) (by simp[aM,ay])) (by simp only[aM,ay];exact aR) (by simp only[aM,ay];exact aR) ?_;simp[cX,FW,aX,aZ,aW,aM,ay,fy];exact⟨ch,by simp⟩
   ·rintro j ⟨ch,done⟩ af ⟨a8,rest,bZ,c4⟩ ae;simp only at a8 bZ c4 ae⊢;obtain⟨v,aJ⟩:∃v,out[j]? =some v:=⟨_,cf af⟩;have aQ:out.drop j=v::out.drop (j+1):=by rw[k7 af];rw[cf af]at aJ;cases aJ;rfl
    rw[aQ]at bZ;simp only[x1,lH,gF,jj]at bZ;obtain⟨⟨x,dc⟩,ee,⟨t,ie⟩,nu,⟨ajP,anp⟩,r9,rfl,rfl⟩:=bZ;simp only at nu r9;have key:=acQ n x dc _ nu;rw[aQ];have gT:∀R,(done.map ar.e++nm v::R)[j]? =some (nm v):=fun R=>by rw[List.getElem?_append_right (by simp;omega)];simp[a8]
    have vf:∀R x,(done.map ar.e++nm v::R).set j x=done.map ar.e++x::R:=fun R x=>by rw[List.set_append_right _ _ (by simp;omega)];simp[a8]
    simp[az,ay];(with_reducible repeat' first|refine aj ?_|simp[gT,af]);(refine c7.ob (qW ch v x dc ee) (by first|exact cb _|exact cb ‹_› _) (by simp only[aM,ay,az,bU,bX];exact aR) (by simp only[aM,ay,az,bU,bX];exact aR) (by simp[inObs,Pv.look,aM,ay,az]) ?_;rintro r ai ⟨rfl,rfl⟩;refine⟨(Same.keys (by simp[aM,ay,az]) (by simp[aM,ay,az])),?_⟩;simp[cv,aM,ay,az]);(with_reducible repeat' first|refine aj ?_|simp);(refine c7.ob (key) (by first|exact cb _|exact cb ‹_› _) (by simp only[aM,ay,az,bU,bX];exact aR) (by simp only[aM,ay,az,bU,bX];exact aR) (by simp[inObs,Pv.look,aM,ay,az]) ?_;rintro r ai ⟨rfl,rfl⟩;refine⟨(Same.keys (by simp[aM,ay,az]) (by simp[aM,ay,az])),?_⟩;simp[cv,aM,ay,az]);(with_reducible repeat' first|refine aj ?_|refine aD (sS _) ?_|refine aE (sS _) ?_|simp[gT,vf,af,ajS,-mx]);refine bN.rng (ie,done++[⟨v,t⟩]) af ⟨by simp[a8],ajP,r9,by simpa using c4⟩ ?_;simp[az,ay];exact⟨by simp[fresh,aK,aC,cd,inObs,Pv.look,az,ay,iV],dZ (by simp[fresh,aK,aC,cd,inObs,Pv.look,az,ay,iV]),ea (by simp[fresh,aK,aC,dQ,inObs,Pv.look,az,ay,iV]),by simp⟩
  ·rintro i ⟨bI,out⟩ hi ⟨J,U,ao⟩ ae;simp only at J U ao ae⊢;obtain⟨v,aJ⟩:∃v,bc[i]? =some v:=⟨_,cf hi⟩;have aQ:bc.drop i=v::bc.drop (i+1):=by rw[k7 hi];rw[cf hi]at aJ;cases aJ;rfl
   rw[aQ]at J;simp only[rG,lH]at J;obtain⟨⟨x,ch⟩,a8,⟨f,dc⟩,bZ,c4⟩:=J;simp only at bZ c4;obtain⟨z3,key⟩:=acS n x ch _ bZ (U.rt a8);have adJ:∀h,(ep bc)[i]'h= .int .i64 v:=fun h=>by rw[cf hi]at aJ;simp only[dG]at aJ;simp[ep,aJ]
   simp[az,ay];(with_reducible repeat' first|refine aj ?_|simp[adJ,hi]);(refine c7.ob (qW bI v x ch a8) (by first|exact cb _|exact cb ‹_› _) (by simp only[aM,ay,az,bU,bX];exact aR) (by simp only[aM,ay,az,bU,bX];exact aR) (by simp[inObs,Pv.look,aM,ay,az]) ?_;rintro r ai ⟨rfl,rfl⟩;refine⟨(Same.keys (by simp[aM,ay,az]) (by simp[aM,ay,az])),?_⟩;simp[cv,aM,ay,az]);(with_reducible repeat' first|refine aj ?_|simp);(refine c7.ob (key) (by first|exact cb _|exact cb ‹_› _) (by simp only[aM,ay,az,bU,bX];exact aR) (by simp only[aM,ay,az,bU,bX];exact aR) (by simp[inObs,Pv.look,aM,ay,az]) ?_;rintro r ai ⟨rfl,rfl⟩;refine⟨(Same.keys (by simp[aM,ay,az]) (by simp[aM,ay,az])),?_⟩;simp[cv,aM,ay,az]);cases f with
   |false=>simp at c4;subst c4;simp at n2;subst n2;(with_reducible repeat' first|refine aj ?_|simp);refine cR.at (aM dc) (by simp) (cb _) (Same.keys (by simp[aM,ay]) (by simp[aM,ay])) (by simp only[aM,ay];exact aR) (by simp only[aM,ay];exact aR) ?_;simp[cX,FW,aX,aZ,aW,aM,ay,fy];exact⟨dc,by simp⟩
   |true=>
    simp only[Bool.true_eq_false,if_false]at c4;by_cases ax:x=v∧dc.shd x=false
    ·rw[if_pos ax]at c4;obtain⟨aeM,lU⟩:=ax;subst aeM;have sn:(c0 x dc.shaped).getD false=false:=lU;(with_reducible repeat' first|refine aj ?_|simp[sn]);refine bN.rng (dc,out) hi ⟨c4,z3,ao⟩ ?_;exact⟨by simp[fresh,aK,aC,cd,inObs,Pv.look,az,ay],dZ (by simp[fresh,aK,aC,cd,inObs,Pv.look,az,ay]),ea (by simp[fresh,aK,aC,dQ,inObs,Pv.look,az,ay]),by simp⟩
    ·rw[if_neg ax]at c4;have RZ:(x==v)=false∨((x==v)=true∧(c0 x dc.shaped).getD false=true):=by
      by_cases e:x=v
      ·right;refine⟨by simp[e],?_⟩;cases aB:dc.shd x with
       |false=>exact absurd ⟨e,aB⟩ ax
       |true=>exact aB
      ·left;simp[e]
     by_cases au:5000<dc.sz x∨400<out.length+1
     ·rw[if_pos au]at c4;cases c4;simp at n2;subst n2;have n3:(decide (5000<iL dc.size x))=true∨(decide (5000<iL dc.size x)=false∧400<out.length+1):=by
       by_cases e:5000<iL dc.size x
       ·left;simp[e]
       ·right;exact⟨by simp[e],au.resolve_left e⟩
      have y9:True:=trivial;have iR:True:=trivial;rcases RZ with bJ|⟨bJ,y9⟩;all_goals
       rcases n3 with bo|⟨bo,iR⟩
       all_goals
        ((with_reducible repeat' first|refine aj ?_|simp[bJ,y9,bo,iR]|((first|apply bP|apply bS|apply bR)<;>intro h<;>try simp at h))<;>(try exact cp))
        refine cR.at (aM dc) (by simp) (cb _) (Same.keys (by simp[aM,ay]) (by simp[aM,ay])) (by simp only[aM,ay];exact aR) (by simp only[aM,ay];exact aR) ?_
        simp[cX,FW,aX,aZ,aW,aM,ay,fy]
        exact⟨dc,by simp⟩
     ·rw[if_neg au]at c4;have bo:decide (5000<iL dc.size x)=false:=by simp;exact Int.not_lt.1 fun h=>au (.inl h)
      have iR:¬400<out.length+1:=fun h=>au (.inr h);have y9:True:=trivial;rcases RZ with bJ|⟨bJ,y9⟩;all_goals
       ((with_reducible repeat' first|refine aj ?_|simp[bJ,y9,bo,iR]|((first|apply bP|apply bS|apply bR)<;>intro h<;>try simp at h))<;>(try exact cp))
       all_goals first|(refine⟨by unfold lim;omega,?_⟩)|skip
       ((with_reducible repeat' first|refine aj ?_|simp[bJ,y9,bo,iR]|((first|apply bP|apply bS|apply bR)<;>intro h<;>try simp at h))<;>(try exact cp))
       refine bN.rng (dc,out++[v]) hi ⟨c4,z3,by simp;omega⟩ ?_
       exact⟨by simp[fresh,aK,aC,cd,inObs,Pv.look,az,ay,Ho,iV],dZ (by simp[fresh,aK,aC,cd,inObs,Pv.look,az,ay,Ho,iV]),ea (by simp[fresh,aK,aC,dQ,inObs,Pv.look,az,ay,Ho,iV]),by simp⟩
theorem C6:∀{a b:T},a.tm=b.tm→a=b:=by
 intro a;induction a with
 |pair x y o0 rl=>intro b h;cases b<;>simp[T.tm]at h;rw[o0 h.1,rl h.2]
 |_=>intro b h;cases b<;>simp[T.tm]at h⊢ <;>exact h
def XC(l:List cT):Prop:= ∃s:List ar,l=s.map ar.b∧pT s∧ir s∧hn s
def Hc(l:List cT):Prop:= ∃s:List ar,l=s.map ar.b∧pT s∧fC s∧hn s
theorem Nr:∀{l:List cT},(∀b∈l,b.t.fits=true)→∃s:List ar,l=s.map ar.b∧yI s
 |[],_=>⟨[],rfl,fun b ae=>by simp at ae⟩
 |b::l,h=>by
  obtain⟨s,J,U⟩:=Nr (l:=l) fun c ax=>h c (by simp[ax]);obtain⟨x,ao,a8⟩:=bG.fits_ex (h b (by simp));refine⟨⟨b.v,x⟩::s,by rw[J];simp[ar.b,ao],fun c ax=>?_⟩;rcases fU.1 ax with rfl|ax
  ·exact a8
  ·exact U c ax
theorem GX{l:List cT}:yj l↔XC l:=by
 constructor
 ·rintro⟨J,U⟩;obtain⟨s,rfl,adx⟩:=Nr (l:=l) fun b ae=>by obtain⟨i,hi,e⟩:=ni ae;exact(U i hi b (by rw[cf hi,e])).2.2
  have Rx:∀b∈s,b.t.ok=true∧b.t.size≤5000:=fun b ae=>by have:=adx b ae;simpa[T.fit]using this
  refine⟨s,rfl,fun b ae=>⟨?_,(Rx b ae).1⟩,?_,by simpa using J,fun b ae=>(Rx b ae).2⟩
  ·obtain⟨i,hi,e⟩:=ni ae;have:=(U i (by simpa using hi) b.b (by simp[cf hi,e])).1;exact this
  ·rw[ir,pg];have jv:∀i (h:i+1<s.length),s[i].v<s[i+1].v:=fun i h=>by have:=(U (i+1) (by simpa using h) s[i+1].b (by simp[cf h])).2.1 s[i].b (by omega) (by simp[cf (show i<s.length by omega)]);exact this
   have:∀(d i:Nat) (h:i+d+1<s.length),s[i].v<s[i+d+1].v:=by
    intro d;induction d with
    |zero=>intro i h;exact jv i h
    |succ d bT=>intro i h;have bE:=bT i (by omega);have a2:=jv (i+d+1) (by omega);simp only[Nat.add_assoc]at bE a2⊢;omega
   intro i j hi af lR;have:=this (j-i-1) i (by omega);simpa[show i+(j-i-1)+1=j from by omega]using this
 ·rintro⟨s,rfl,aw,bF,aI⟩;refine⟨by simpa using aI.1,fun i hi b ae=>?_⟩;simp only[List.getElem?_map,gF]at ae;obtain⟨c,ax,rfl⟩:=ae;have hm:=eG ax;refine⟨(aw c hm).1,fun d bA aQ=>?_,?_⟩
  ·simp only[List.getElem?_map,gF]at aQ;obtain⟨e,he,rfl⟩:=aQ;obtain⟨J,ak⟩:=fL.1 he;obtain⟨U,aB⟩:=fL.1 ax;have:=pg.1 bF (i-1) i J U (by omega);rw[ak,aB]at this;exact this
  ·show c.t.tm.fits=true;rw[bG.fits_T];simp[T.fit,(aw c hm).2,aI.2 c hm]
def uQ(s:List ar)(v:Int)(f:Bool):Bool:=if 0≤mJ s v then false else f
def l5(s:List ar)(b:ar):Bool:=b.t.fold (uQ s) true&& !(b.t.kind==1&&decide (b.v≤b.t.int))
theorem QI{s:List ar}(bF:ir s)(t:T):∀f:Bool,t.fold (uQ s) f=true↔f=true∧∀w,t.occ w=true→dh s w=none:=by
 induction t with
 |var n=>
  intro f;simp only[T.fold,T.occ,dL,uQ];have:=QG bF n;by_cases h:0≤mJ s n
  ·rw[if_pos h];constructor
   ·intro h;cases h
   ·rintro⟨_,U⟩;have:=this.2 (U n rfl);omega
  ·rw[if_neg h];exact⟨fun aI=>⟨aI,fun w hw=>by subst hw;exact this.1 (by omega)⟩,fun h=>h.1⟩
 |pair a b dR dS=>
  intro f;simp only[T.fold,dR,dS,T.occ,mB];constructor
  ·rintro⟨⟨J,U⟩,ao⟩;exact⟨J,fun w hw=>hw.elim (U w) (ao w)⟩
  ·rintro⟨J,U⟩;exact⟨⟨J,fun w hw=>U w (.inl hw)⟩,fun w hw=>U w (.inr hw)⟩
 |_=>intro f;simp[T.fold,T.occ]
theorem Hq{s:List ar}(bF:ir s)(b:ar):l5 s b=true↔(∀w,b.t.occ w=true→dh s w=none)∧∀w,b.t= .var w→w<b.v:=by
 unfold l5;rw[cA,QI bF];simp only[true_and];refine and_congr_right fun _=>?_;constructor
 ·intro h w hw;have ad:(b.t.kind==1)=true:=by rw[hw];rfl
  have hi:b.t.int=w:=by rw[hw];rfl
  rw[ad,hi]at h;simpa using h
 ·intro h;cases ad:(b.t.kind==1)with
  |false=>rfl
  |true=>
   obtain⟨w,hw⟩:∃w,b.t= .var w:=by
    cases e:b.t with
    |var w=>exact⟨w,rfl⟩
    |_=>rw[e]at ad;simp at ad
   have hi:b.t.int=w:=by rw[hw];rfl
   have:=h w hw;rw[hi];simpa using this
theorem VS{s:List ar}(bF:ir s):fC s↔∀b∈s,l5 s b=true:=by
 constructor
 ·intro h b ae;exact(Hq bF b).2 ⟨h.free b ae,h.ori b ae⟩
 ·intro h;exact⟨bF,fun b ae=>((Hq bF b).1 (h b ae)).1,fun b ae=>((Hq bF b).1 (h b ae)).2⟩
def o2{α:Type}(p:α→Bool)(s:List α)(i:Nat)(_:Unit):Prop:= ∀k b,k<i→s[k]? =some b→p b=true
theorem o2.step{α:Type}{p:α→Bool}{s:List α}{i:Nat}(h:o2 p s i ()){b:α}(ae:s[i]? =some b)(bJ:p b=true):o2 p s (i+1) ():=fun k c ad ax=>by
 rcases(by omega:k<i∨k=i)with J|rfl
 ·exact h k c J ax
 ·rw[ae]at ax;cases ax;exact bJ
open Classical in
noncomputable def gy(l:List cT):Bool:=decide (Hc l)
theorem qG{l:List cT}:gy l=true↔Hc l:=by unfold gy;simp
def iu(f:Bool):cJ:=⟨[(.obj 731,[.bool f])],[]⟩
theorem uD(f:Bool):eo (iu f):=by unfold iu;exact eo.of ⟨by intro m;simp[Pv.look],by intro m;simp[Pv.look]⟩ (by simp) (by simp)
theorem Xt(a b:Bool):Same (iu a) (iu b):=Same.keys (by simp[iu]) (by simp[iu])
theorem acn(s:List ar)(au:s.length≤1000000)(v:Int)(f:Bool):bQ al 159 [.int .i64 v,.eptr (.slice 5 .no (s.map ar.e)),.ptr (.obj 731) 0] (iu f) fun r ai=>r= .tuple []∧ai=iu (uQ s v f):=by
 have ag:=uD f;simp only[iu]at ag⊢;by_cases h:0≤mJ s v
 ·rw[uQ,if_pos h];refine bQ.mk mixed qH Qh T5 (by simp) ag.obj fun aP cQ=>?_;unfold Hy;simp;(with_reducible repeat' first|refine aj ?_|refine aD (sU s v au) ?_|refine aE (sU s v au) ?_|simp[h]);(refine cR.at (iu false) (by simp) (by first|exact uD _|exact uD ‹_› _) (Same.keys (by simp[iu]) (by simp[iu])) (by simp only[iu,bU,bX];exact aR) (by simp only[iu,bU,bX];exact aR) ?_;simp[cX,K7,aX,aZ,aW,inObs,Pv.look,iu])
 ·rw[uQ,if_neg h];refine bQ.mk mixed qH Qh T5 (by simp) ag.obj fun aP cQ=>?_;unfold Hy;simp;(with_reducible repeat' first|refine aj ?_|refine aD (sU s v au) ?_|refine aE (sU s v au) ?_|simp[h]);(refine cR.at (iu f) (by simp) (by first|exact uD _|exact uD ‹_› _) (Same.keys (by simp[iu]) (by simp[iu])) (by simp only[iu,bU,bX];exact aR) (by simp only[iu,bU,bX];exact aR) ?_;simp[cX,K7,aX,aZ,aW,inObs,Pv.look,iu])
theorem Ml(l:List cT):bH al 86 [.slice 5 .no (l.map cT.e)] (.bool (gy l)):=by
 have aJ:=ale l;by_cases h:yj l;rotate_left
 ·have bA:gy l=false:=by unfold gy;simp only[hE];rintro⟨s,J,U,ao,a8⟩;exact h (GX.2 ⟨s,J,U,ao.asc,a8⟩)
  rw[bA];refine bf qH Qg T4 fun aP=>?_;unfold Hx;exact b2
 ·obtain⟨s,rfl,aw,bF,aI⟩:=GX.1 h;have au:s.length≤1000000:=by have:=aI.1;omega
  have ak:(s.map ar.b).map cT.e=s.map ar.e:=by rw[List.map_map];exact List.map_congr_left fun b _=>ar.b_e b
  have bA:gy (s.map ar.b)=s.all (l5 s):=by
   rw[pZ,jb,qG,←VS bF];constructor
   ·rintro⟨ai,J,U,ao,a8⟩;have:ai=s:=by
     have adI:∀a b:List ar,a.map ar.b=b.map ar.b→a=b:=by
      intro a;induction a with
      |nil=>intro b ae;cases b<;>simp at ae⊢
      |cons x a bT=>
       intro b ae;cases b with
       |nil=>simp at ae
       |cons y b=>simp only[gE,p0,ar.b,cT.mk.injEq]at ae;rw[bT b ae.2];have:=C6 ae.1.2;obtain⟨⟨lg,_⟩,_⟩:=ae;cases x;cases y;simp_all
     exact(adI _ _ J).symm
    rw[←this];exact ao
   ·intro ao;exact⟨s,rfl,aw,ao,aI⟩
  rw[bA];rw[ak]at aJ⊢;refine bf qH Qg T4 fun aP=>?_;unfold Hx;simp;(with_reducible repeat' first|refine aj ?_|refine aD aJ ?_|refine aE aJ ?_|simp[h]);refine hQ (α:=Unit) (fun i _=>⟨[(1,.eptr (.slice 5 .no (s.map ar.e))),(9,.slice 5 .no (s.map ar.e)),(10,.int .i64 s.length),(11,.int .i64 i)],[],[],1,[]⟩) s.length (o2 (l5 s) s) () b0 (fun k b ad=>by omega) (fun _ af _=>?_) (fun i _ hi af _=>?_)
  ·have:s.all (l5 s)=true:=by rw[jb];intro b ae;obtain⟨k,ad,e⟩:=ni ae;exact af k b ad (by rw[cf ad,e])
   rw[this];exact b2
  ·obtain⟨b,lV⟩:∃b,s[i]? =some b:=⟨_,cf hi⟩;have fY:∀h,(s[i]'h)=b:=fun h=>by rw[cf hi]at lV;exact fB lV
   have key:=QQ iu uD Xt 159 [.eptr (.slice 5 .no (s.map ar.e)),.ptr (.obj 731) 0] (fun a=>by simp[iu,inObs,Pv.look]) (by simp) (uQ s) (fun v a=>acn s au v a) b.t true;have gr:l5 s b=false→s.all (l5 s)=false:=fun h=>by rw[Bool.eq_false_iff];intro cr;rw[jb]at cr;rw[cr b (eG lV)]at h;cases h
   simp[hi,fY];(with_reducible repeat' first|refine aj ?_|simp[fY,hi]);(refine c7.ob (key) (by first|exact uD _|exact uD ‹_› _) (by simp only[iu,bU,bX];exact aR) (by simp only[iu,bU,bX];exact aR) (by simp[inObs,Pv.look,iu]) ?_;rintro r ai ⟨rfl,rfl⟩;refine⟨(Same.keys (by simp[iu]) (by simp[iu])),?_⟩;simp[cv,iu]);generalize adz:b.t.fold (uQ s) true=r6;have wR:l5 s b=(r6&& !(b.t.kind==1&&decide (b.v≤b.t.int))):=by unfold l5;rw[adz]
   cases r6 with
   |false=>rw[gr (by rw[wR];rfl)];exact b2
   |true=>
    cases ad:(b.t.kind==1)with
    |false=>(with_reducible repeat' first|refine aj ?_|simp[ad]);refine bN.rng () hi (af.step lV (by rw[wR,ad];rfl)) ?_;exact b0
    |true=>
     by_cases hle:b.v≤b.t.int
     ·rw[gr (by rw[wR,ad];simp[hle])];exact b2
     ·(with_reducible repeat' first|refine aj ?_|simp[ad,hle]);refine bN.rng () hi (af.step lV (by rw[wR,ad];simp[hle])) ?_;exact b0
@[simp] theorem aoJ(S:aH→Prop):aK S (jz [])=True:=eq_true (mq S [])
set_option maxRecDepth 4000 in
theorem acK(n:Nat)(s:List ar)(l r:List T)(au:l.length=r.length)(kl:s.length≤1000000)(w5:l.length≤1000000)(o:aY (List ar))(he:Ah n (hz s++l.zip r)=some o)
  (hinv:∀c,pq n (hz s++l.zip r) br.new=some (true,c)→(cn c.up).Nodup∧c.up.length≤1000000∧l4 c):bH al 186 [.slice 5 .no (s.map ar.e),.slice 4 .no (l.map T.e),.slice 4 .no (r.map T.e)] (fy o):=by
 obtain⟨E,dw⟩:∃E,E=hz s++l.zip r:=⟨_,rfl⟩;rw[←dw]at he hinv;simp only[Ah,lH]at he;obtain⟨fin,yX,n2⟩:=he;have hlen:E.length=s.length+l.length:=by rw[dw];simp[hz,au]
 have ac5:∀i b,s[i]? =some b→E.drop i=(.var b.v,b.t)::E.drop (i+1):=fun i b ae=>by
  have hi:=(fL.1 ae).1;have a7:E[i]? =some (.var b.v,b.t):=by rw[dw,List.getElem?_append_left (by simp[hz];exact hi)];simp[hz,ae]
  rw[k7 (by omega)];rw[cf (by omega)]at a7;simp only[dG]at a7;rw[a7]
 have ac4:∀i a b,l[i]? =some a→r[i]? =some b→E.drop (s.length+i)=(a,b)::E.drop (s.length+(i+1)):=fun i a b bF ae=>by
  have hi:=(fL.1 bF).1;have a7:E[s.length+i]? =some (a,b):=by rw[dw,List.getElem?_append_right (by simp[hz])];simp[hz,List.getElem?_zip_eq_some,bF,ae]
  rw[k7 (by omega)];rw[cf (by omega)]at a7;simp only[dG]at a7;rw[a7];rfl
 refine bf Wj aaL ahb fun aP=>?_;unfold Og;simp;refine c7.new acy (eo.of xC (by simp) (by simp)) (fun k cs h=>by simp[Pv.look]at h) (fun k cs h=>by simp[Pv.look]at h) (by simp) ?_;rintro r0 s0 ⟨rfl,rfl⟩;refine⟨fun m hm=>.inr (by simp),?_⟩;simp[aM,ay,cv,az];refine hQ (α:=br) (fun i c=>⟨[(1,.slice 4 .no (l.map T.e)),(2,.slice 4 .no (r.map T.e)),(8,az),(13,.slice 5 .no (s.map ar.e)),(14,.int .i64 s.length),(15,.int .i64 i)],ay c,[],0,[.obj 702,.obj 703,.obj 704,.obj 705,.obj 706,.obj 707]⟩) s.length (fun i c=>pq n (E.drop i) c=some fin) br.new (by simp[az,ay];exact⟨by simp[fresh,aK,aC,cd,inObs,Pv.look,az,ay,br.new],dZ (by simp[fresh,aK,aC,cd,inObs,Pv.look,az,ay,br.new]),ea (by simp[fresh,aK,aC,dQ,inObs,Pv.look,az,ay,br.new]),by simp⟩) (by simpa using yX) ?_ ?_
 ·rintro c J ae;simp[az,ay];refine hQ (α:=br) (fun i c=>⟨[(1,.slice 4 .no (l.map T.e)),(2,.slice 4 .no (r.map T.e)),(8,az),(37,.int .i64 l.length),(38,.int .i64 i)],ay c,[],0,[.obj 702,.obj 703,.obj 704,.obj 705,.obj 706,.obj 707]⟩) l.length (fun i c=>pq n (E.drop (s.length+i)) c=some fin) c (by simp[az,ay];exact⟨by simp[fresh,aK,aC,cd,inObs,Pv.look,az,ay],dZ (by simp[fresh,aK,aC,cd,inObs,Pv.look,az,ay]),ea (by simp[fresh,aK,aC,dQ,inObs,Pv.look,az,ay]),by simp⟩) J ?_ ?_
  ·rintro bI J ae;rw[List.drop_eq_nil_of_le (by omega)]at J;simp[pq]at J;subst J;simp at n2;obtain⟨a6,bu,bV⟩:=hinv bI yX;simp[az,ay];refine c7.ob (acL n bI o n2 a6 bu bV) (cb _) (by simp only[aM,ay];exact aR) (by simp only[aM,ay];exact aR) (by simp[inObs,Pv.look,aM,ay,az]) ?_;rintro r0 s0 ⟨rfl,cm,rfl⟩;refine⟨Same.keys (by simp[aM,ay]) (by simp[aM,ay]),?_⟩;simp[cv,aM,ay,fy];exact b2
  ·rintro i c hi J ae;simp only at J ae⊢;obtain⟨a,bF⟩:∃a,l[i]? =some a:=⟨_,cf hi⟩;obtain⟨b,fR⟩:∃b,r[i]? =some b:=⟨_,cf (by omega)⟩;have mO:∀h,(l[i]'h)=a:=fun h=>by rw[cf hi]at bF;exact fB bF
   have cK:∀h,(r[i]'h)=b:=fun h=>by rw[cf h]at fR;exact fB fR
   have q8:i<r.length:=by omega
   rw[ac4 i a b bF fR]at J;simp only[pq,lH]at J;obtain⟨bI,U,ch,ao,⟨f,dc⟩,a8,bZ⟩:=J;simp only at a8 bZ;have key:=QS n _ _ _ _ a8;simp[az,ay];(with_reducible repeat' first|refine aj ?_|simp[mO,cK,hi,q8]);(refine c7.ob (IJ c a bI U) (by first|exact cb _|exact cb ‹_› _) (by simp only[aM,ay,az,bU,bX];exact aR) (by simp only[aM,ay,az,bU,bX];exact aR) (by simp[inObs,Pv.look,aM,ay,az]) ?_;rintro r ai ⟨rfl,rfl⟩;refine⟨(Same.keys (by simp[aM,ay,az]) (by simp[aM,ay,az])),?_⟩;simp[cv,aM,ay,az]);(with_reducible repeat' first|refine aj ?_|simp[mO,cK,hi,q8]);(refine c7.ob (IJ bI b ch ao) (by first|exact cb _|exact cb ‹_› _) (by simp only[aM,ay,az,bU,bX];exact aR) (by simp only[aM,ay,az,bU,bX];exact aR) (by simp[inObs,Pv.look,aM,ay,az]) ?_;rintro r ai ⟨rfl,rfl⟩;refine⟨(Same.keys (by simp[aM,ay,az]) (by simp[aM,ay,az])),?_⟩;simp[cv,aM,ay,az]);(with_reducible repeat' first|refine aj ?_|simp[mO,cK,hi,q8]);(refine hX.ob (key) (by first|exact cb _|exact cb ‹_› _) (by first|exact cb _|exact cb ‹_› _) (Same.keys (by simp[aM,ay,az]) (by simp[aM,ay,az])) (by simp only[aM,ay,az,bU,bX];exact aR) (by simp only[aM,ay,az,bU,bX];exact aR) (by simp[inObs,Pv.look,aM,ay,az]) ?_;simp[cv,aM,ay,az]);cases f with
   |false=>simp at bZ;subst bZ;simp at n2;subst n2;(with_reducible repeat' first|refine aj ?_|simp);simp[bt,Lc,aX,aZ,aW];simp[fy]
   |true=>simp at bZ;(with_reducible repeat' first|refine aj ?_|simp);refine bN.rng dc hi bZ ?_;simp[az,ay];exact⟨by simp[fresh,aK,aC,cd,inObs,Pv.look,az,ay],dZ (by simp[fresh,aK,aC,cd,inObs,Pv.look,az,ay]),ea (by simp[fresh,aK,aC,dQ,inObs,Pv.look,az,ay]),by simp⟩
 ·rintro i c hi J ae;simp only at J ae⊢;obtain⟨b,aJ,fY⟩:=ed hi;rw[ac5 i b aJ]at J;simp only[pq,lH]at J;obtain⟨bI,U,ch,ao,⟨f,dc⟩,a8,bZ⟩:=J;simp only[zx,T.foldO,gF]at U;obtain⟨⟨x,Nv⟩,U,rfl⟩:=U;simp only at U ao a8 bZ;have key:=QS n _ _ _ _ a8;simp[az,ay];(with_reducible repeat' first|refine aj ?_|simp[fY,hi]);(refine c7.ob (qW c b.v x Nv U) (by first|exact cb _|exact cb ‹_› _) (by simp only[aM,ay,az,bU,bX];exact aR) (by simp only[aM,ay,az,bU,bX];exact aR) (by simp[inObs,Pv.look,aM,ay,az]) ?_;rintro r ai ⟨rfl,rfl⟩;refine⟨(Same.keys (by simp[aM,ay,az]) (by simp[aM,ay,az])),?_⟩;simp[cv,aM,ay,az]);(with_reducible repeat' first|refine aj ?_|simp);(refine c7.ob (IJ Nv b.t ch ao) (by first|exact cb _|exact cb ‹_› _) (by simp only[aM,ay,az,bU,bX];exact aR) (by simp only[aM,ay,az,bU,bX];exact aR) (by simp[inObs,Pv.look,aM,ay,az]) ?_;rintro r ai ⟨rfl,rfl⟩;refine⟨(Same.keys (by simp[aM,ay,az]) (by simp[aM,ay,az])),?_⟩;simp[cv,aM,ay,az]);(with_reducible repeat' first|refine aj ?_|refine aD (kM _) ?_|refine aE (kM _) ?_|simp);(refine hX.ob (key) (by first|exact cb _|exact cb ‹_› _) (by first|exact cb _|exact cb ‹_› _) (Same.keys (by simp[aM,ay,az]) (by simp[aM,ay,az])) (by simp only[aM,ay,az,bU,bX];exact aR) (by simp only[aM,ay,az,bU,bX];exact aR) (by simp[inObs,Pv.look,aM,ay,az]) ?_;simp[cv,aM,ay,az]);cases f with
  |false=>simp at bZ;subst bZ;simp at n2;subst n2;(with_reducible repeat' first|refine aj ?_|simp);simp[bt,Lc,aX,aZ,aW];simp[fy]
  |true=>simp at bZ;(with_reducible repeat' first|refine aj ?_|simp);refine bN.rng dc hi bZ ?_;simp[az,ay];exact⟨by simp[fresh,aK,aC,cd,inObs,Pv.look,az,ay],dZ (by simp[fresh,aK,aC,cd,inObs,Pv.look,az,ay]),ea (by simp[fresh,aK,aC,dQ,inObs,Pv.look,az,ay]),by simp⟩
theorem WU(s:List ar)(l r:List T)(au:l.length=r.length)(ag:fC s)(aI:hn s)(aw:pT s)(w5:l.length≤1000000)(J:∀t∈l,t.ok=true)(U:∀t∈r,t.ok=true):
  bH al 186 [.slice 5 .no (s.map ar.e),.slice 4 .no (l.map T.e),.slice 4 .no (r.map T.e)] (fy (mgu s (l.zip r))):=by
 have dw:∀e∈hz s++l.zip r,e.1.ok=true∧e.2.ok=true:=fun e he=>by
  rcases kx.1 he with he|he
  ·obtain⟨b,ae,rfl⟩:=h8.1 he;have:=aw b ae;exact⟨by simpa[T.ok]using this.1,this.2⟩
  ·exact⟨J _ (List.of_mem_zip he).1,U _ (List.of_mem_zip he).2⟩
 have bA:KE (hz s++l.zip r):=fun e he v aJ=>by
  rcases aJ with aJ|aJ
  ·exact(v8 (dw e he).1 aJ).1
  ·exact(v8 (dw e he).2 aJ).1
 obtain⟨n,o,a6,bu,bV⟩:=akq _ bA;rw[rv (XA.1 bu)];refine acK n s l r au (by have:=aI.1;omega) w5 o a6 fun c ax=>?_;obtain⟨bE,a2,a3⟩:=bV c ax;have:=SV bE fun v aJ=>by
  obtain⟨e,he,aJ⟩:=a2 v aJ;rcases aJ with aJ|aJ
  ·exact v8 (dw e he).1 aJ
  ·exact v8 (dw e he).2 aJ
 refine⟨bE,by simp[cn]at this;omega,fun x=>?_⟩;simp[br.sz,a3,c0]
structure eM (s:List ar):Prop where
 ok:pT s
 sol:fC s
 fits:hn s
theorem eM.len{s:List ar}(h:eM s):s.length≤1000000:=by have:=h.fits.1;omega
theorem eM.fit{s:List ar}(h:eM s):yI s:=fun b ae=>by simp[T.fit,(h.ok b ae).2,h.fits.2 b ae]
theorem eM.mgu{s:List ar}(h:eM s){E:List (T×T)}(dw:∀e∈E,e.1.ok=true∧e.2.ok=true){ai:List ar}(hm:mgu s E=some ai):eM ai:=⟨af4 h.sol h.fits h.ok dw hm,(zy h.sol h.fits hm).1,(zy h.sol h.fits hm).2⟩
theorem xy(s:List ar):(s.map ar.b).map cT.e=s.map ar.e:=by rw[List.map_map];exact List.map_congr_left fun b _=>ar.b_e b
theorem pb{s:List ar}(h:eM s):bH al 86 [.slice 5 .no (s.map ar.e)] (.bool true):=by have:=Ml (s.map ar.b);rw[xy,qG.2 ⟨s,rfl,h.ok,h.sol,h.fits⟩]at this;exact this
def afg(t:List ar)(i:Nat)(p:List T×List T):Prop:=p.1=(t.take i).map (fun b=>T.var b.v)∧p.2=(t.take i).map (·.t)
theorem als(t:List ar)(aN:t.length≤1000000):bH al 205 [.slice 5 .no (t.map ar.e)] (.tuple [.slice 4 .no ((t.map fun b=>T.var b.v).map T.e),.slice 4 .no ((t.map (·.t)).map T.e)]):=by
 generalize bh:((t.map fun b=>T.var b.v).map T.e)=R1;generalize kh:((t.map fun x=>x.t).map T.e)=R2;have gn:∀S:aH→Prop,aK S R1=True:=fun S=>by rw[←bh];exact S5 S _
 have kV:∀S:aH→Prop,aK S R2=True:=fun S=>by rw[←kh];exact S5 S _
 refine bH.mk mixed qH aay agY (by simp) (by simp[aC,gn,kV]) fun aP=>?_;unfold N2;simp;refine hQ (α:=List T×List T) (fun i p=>⟨[(10,.slice 5 .no (t.map ar.e)),(11,.int .i64 t.length),(4,.slice 4 (.own (.loc 0)) (p.1.map T.e)),(5,.slice 4 (.own (.loc 1)) (p.2.map T.e)),(12,.int .i64 i)],[],[(.loc 0,⟨p.1.length,30,4,none⟩),(.loc 1,⟨p.2.length,30,4,none⟩)],2,[]⟩) t.length (afg t) ([],[]) b0 ⟨by simp,by simp⟩ (fun p af _=>?_) (fun i p hi af _=>?_)
 ·obtain⟨A,B⟩:=p;obtain⟨bg,kD⟩:=af;simp only at bg kD⊢;rw[hl (eR _)]at bg kD;rw[←bh,←kh,←bg,←kD];simp;(with_reducible repeat' first|refine aj ?_|simp);simp[bt,UT,aX,aZ,aW]
 ·obtain⟨A,B⟩:=p;obtain⟨bg,kD⟩:=af;simp only at bg kD⊢;obtain⟨b,aJ,fY⟩:=ed hi;have vg:t.take (i+1)=t.take i++[b]:=by rw[List.take_succ,aJ];rfl
  have ac2:A.length≤1000000:=by rw[bg];simp;omega
  have ac3:B.length≤1000000:=by rw[kD];simp;omega
  simp[hi,fY];((with_reducible repeat' first|refine aj ?_|refine aD (kM _) ?_|refine aE (kM _) ?_|simp[fY,hi]|((first|apply bP|apply bS|apply bR)<;>intro h<;>try simp at h))<;>(try exact cp));all_goals first|(refine⟨by unfold lim;omega,?_⟩)|skip
  (with_reducible repeat' first|refine aj ?_|simp);all_goals first|(refine⟨by unfold lim;omega,?_⟩)|skip
  (with_reducible repeat' first|refine aj ?_|simp);refine bN.rng (A++[.var b.v],B++[b.t]) hi ⟨by rw[vg,bg];simp,by rw[vg,kD];simp⟩ ?_;simp;exact⟨by simp[fresh,aK,aC,cd,inObs,Pv.look,iV],dZ (by simp[fresh,aK,aC,cd,inObs,Pv.look,iV]),ea (by simp[fresh,aK,aC,dQ,inObs,Pv.look,iV]),by simp⟩
theorem ak4{s t:List ar}(ag:eM s)(aN:eM t):bH al 165 [.slice 5 .no (s.map ar.e),.slice 5 .no (t.map ar.e)] (fy (mgu s (hz t))):=by
 have bD:(t.map fun b=>T.var b.v).zip (t.map (·.t))=hz t:=by rw[hz,List.zip_map']
 have key:=WU s (t.map fun b=>T.var b.v) (t.map (·.t)) (by simp) ag.sol ag.fits ag.ok (by simpa using aN.len) (fun x ab=>by
  obtain⟨b,ae,rfl⟩:=h8.1 ab;have:=aN.ok b ae;simpa[T.ok]using this.1) (fun x ab=>by
  obtain⟨b,ae,rfl⟩:=h8.1 ab;exact(aN.ok b ae).2)
 rw[bD]at key;have heq:=als t aN.len;generalize (t.map fun b=>T.var b.v)=A at key heq;generalize (t.map fun x=>x.t)=B at key heq;refine bf qH Z9 agz fun aP=>?_;unfold NC;simp;(with_reducible repeat' first|refine aj ?_|refine aD (pb ag) ?_|refine aE (pb ag) ?_|refine aD (pb aN) ?_|refine aE (pb aN) ?_|refine aD heq ?_|refine aE heq ?_|refine aD key ?_|refine aE key ?_|simp);simp[bt,UG,aX,aZ,aW];simp[fy]
theorem ox{α:Type}{t:List α}{i:Nat}{b:α}(aJ:t[i]? =some b):t.take (i+1)=t.take i++[b]:=by rw[List.take_succ,aJ];rfl
def gv(s t:List ar):List ar:=t.filter fun b=>(dh s b.v).isNone
def qv(s t:List ar)(i:Nat)(out:List ar):Prop:=out=gv s (t.take i)
theorem ak9{s t:List ar}(ag:eM s)(aN:eM t):bH al 166 [.slice 5 .no (s.map ar.e),.slice 5 .no (t.map ar.e)] (.slice 5 .no ((gv s t).map ar.e)):=by
 have aey:=aN.len;generalize bh:gv s t=R;refine bf qH aae agE fun aP=>?_;unfold NI;simp;(with_reducible repeat' first|refine aj ?_|refine aD (pb ag) ?_|refine aE (pb ag) ?_|refine aD (pb aN) ?_|refine aE (pb aN) ?_|simp);refine hQ (α:=List ar) (fun i out=>⟨[(0,.slice 5 .no (s.map ar.e)),(17,.slice 5 .no (t.map ar.e)),(18,.int .i64 t.length),(5,.slice 5 (.own (.loc 0)) (out.map ar.e)),(19,.int .i64 i)],[],[(.loc 0,⟨out.length,113,5,none⟩)],1,[]⟩) t.length (qv s t) [] b0 (by simp[qv,gv]) (fun out af _=>?_) (fun i out hi af _=>?_)
 ·rw[qv,hl (eR _),bh]at af;rw[←af];exact b2
 ·obtain⟨b,aJ,fY⟩:=ed hi;have y7:out.length≤1000000:=by
   have:out.length≤(t.take i).length:=by rw[af];exact List.length_filter_le _ _
   simp at this;omega
  have qm:=QG ag.sol.asc b.v;simp[hi,fY];by_cases ae:mJ s b.v<0
  ·(with_reducible repeat' first|refine aj ?_|refine aD (sU s b.v ag.len) ?_|refine aE (sU s b.v ag.len) ?_|refine aD (sS _) ?_|refine aE (sS _) ?_|simp[fY,hi,ae]);all_goals first|(refine⟨by unfold lim;omega,?_⟩)|skip
   (with_reducible repeat' first|refine aj ?_|simp);refine bN.rng (out++[b]) hi (by rw[qv,ox aJ,gv,List.filter_append,af];simp[gv,qm.1 ae]) ?_;simp;exact⟨by simp[fresh,aK,aC,cd,inObs,Pv.look,iV],dZ (by simp[fresh,aK,aC,cd,inObs,Pv.look,iV]),ea (by simp[fresh,aK,aC,dQ,inObs,Pv.look,iV]),by simp⟩
  ·(with_reducible repeat' first|refine aj ?_|refine aD (sU s b.v ag.len) ?_|refine aE (sU s b.v ag.len) ?_|simp[fY,hi,ae]);refine bN.rng out hi (by
    have:dh s b.v≠none:=fun e=>ae (qm.2 e);rw[qv,ox aJ,gv,List.filter_append,af];cases e:dh s b.v with
    |none=>exact absurd e this
    |some x=>simp[gv,e]) ?_
   exact b0
def E2(t:List ar)(i:Nat)(out:List ar):Prop:=out=t.take i
theorem GN(t:List ar)(aN:t.length≤1000000):bH al 168 [.slice 5 .no (t.map ar.e)] (.slice 5 .no (t.map ar.e)):=by
 refine bf qH aav agV fun aP=>?_;unfold NZ;simp;refine hQ (α:=List ar) (fun i out=>⟨[(7,.slice 5 .no (t.map ar.e)),(8,.int .i64 t.length),(3,.slice 5 (.own (.loc 0)) (out.map ar.e)),(9,.int .i64 i)],[],[(.loc 0,⟨out.length,113,5,none⟩)],1,[]⟩) t.length (E2 t) [] b0 (by simp[E2]) (fun out af _=>?_) (fun i out hi af _=>?_)
 ·rw[E2,hl (eR _)]at af;subst af;exact b2
 ·obtain⟨b,aJ,fY⟩:=ed hi;have y7:out.length≤1000000:=by rw[af];simp;omega
  simp[hi,fY];(with_reducible repeat' first|refine aj ?_|refine aD (sS _) ?_|refine aE (sS _) ?_|simp[fY,hi]);all_goals first|(refine⟨by unfold lim;omega,?_⟩)|skip
  (with_reducible repeat' first|refine aj ?_|simp);refine bN.rng (out++[b]) hi (by rw[E2,ox aJ,af]) ?_;simp;exact⟨by simp[fresh,aK,aC,cd,inObs,Pv.look,iV],dZ (by simp[fresh,aK,aC,cd,inObs,Pv.look,iV]),ea (by simp[fresh,aK,aC,dQ,inObs,Pv.look,iV]),by simp⟩
def rs(t:List ar)(b:ar):Bool:=decide (cB t b.v=b.t.ap (cB t))
def mX(s t:List ar):Bool:=s.all (rs t)
theorem CW{t:List ar}(aN:eM t)(v:Int):(cB t v).size≤5000:=by
 unfold cB;cases e:dh t v with
 |none=>simp[T.size]
 |some x=>exact aN.fits.2 _ (jT e)
theorem WO(s:List ar){t:List ar}(ag:s.length≤1000000)(aN:eM t):bH al 208 [.slice 5 .no (s.map ar.e),.slice 5 .no (t.map ar.e)] (.bool (mX s t)):=by
 refine bf qH aaB ag1 fun aP=>?_;unfold N5;simp;refine dW [1,11,12] (fun i (_:Unit)=>[(13,.int .i64 i)]) s.length (o2 (rs t) s) () b0 (fun k b ad=>by omega) (fun _ af _=>?_) (fun i _ hi af _=>?_)
 ·have:mX s t=true:=by rw[mX,jb];intro b ae;obtain⟨k,ad,e⟩:=ni ae;exact af k b ad (by rw[cf ad,e])
  rw[this];exact b2
 ·obtain⟨b,aJ,fY⟩:=ed hi;have gr:rs t b=false→mX s t=false:=fun h=>by rw[Bool.eq_false_iff];intro cr;rw[mX,jb]at cr;rw[cr b (eG aJ)]at h;cases h
  have aT:=GW t (.var b.v) aN.len aN.sol.asc aN.fit;have bz:=GW t b.t aN.len aN.sol.asc aN.fit;have xi:=CW aN b.v;have EV:((T.var b.v).ap (cB t)).size≤5000:=xi;rw[if_pos EV,jk EV]at aT;rw[show(T.var b.v).ap (cB t)=cB t b.v from rfl]at aT;simp[hi,fY];by_cases bD:(b.t.ap (cB t)).size≤5000
  ·rw[if_pos bD,jk bD]at bz;by_cases he:cB t b.v=b.t.ap (cB t)
   ·rw[he]at aT;(with_reducible repeat' first|refine aj ?_|refine aD (kM _) ?_|refine aE (kM _) ?_|refine aD aT ?_|refine aE aT ?_|refine aD bz ?_|refine aE bz ?_|refine aD (sT _ _) ?_|refine aE (sT _ _) ?_|simp[fY,hi,he]);exact bN.rng () hi (af.step aJ (by simp[rs,he])) b0
   ·rw[gr (by simp[rs,he])];(with_reducible repeat' first|refine aj ?_|refine aD (kM _) ?_|refine aE (kM _) ?_|refine aD aT ?_|refine aE aT ?_|refine aD bz ?_|refine aE bz ?_|refine aD (sT _ _) ?_|refine aE (sT _ _) ?_|simp[fY,hi,he]);simp[bt,K9,aX,aZ,aW]
  ·rw[if_neg bD,jH bD]at bz;rw[gr (by simp only[rs,hE];intro e;rw[←e]at bD;exact bD xi)];(with_reducible repeat' first|refine aj ?_|refine aD (kM _) ?_|refine aE (kM _) ?_|refine aD aT ?_|refine aE aT ?_|refine aD bz ?_|refine aE bz ?_|refine aD (sT _ _) ?_|refine aE (sT _ _) ?_|simp[fY,hi]);simp[bt,K9,aX,aZ,aW]
theorem Cc(c:ar→ar→Int):∀a b:List ar,a=[]∨b=[]→jL c a b=ev a.length b.length
 |[],[],_=>by simp[jL,ev]
 |[],_::_,_=>by simp[jL,ev]<;>omega
 |_::_,[],_=>by simp[jL,ev]<;>omega
 |_::_,_::_,h=>by simp at h
theorem Un(x y:ar)(xs ys:List ar):eu (x::xs) (y::ys)=if ev x.v y.v=0 then(if er x.t y.t=0 then eu xs ys else er x.t y.t)else ev x.v y.v:=by
 by_cases a6:ev x.v y.v=0
 ·by_cases bu:er x.t y.t=0<;>simp[eu,jL,xK,a6,bu]
 ·simp[eu,jL,xK,a6]
theorem Uo(a b k:Int):ev (a-k) (b-k)=ev a b:=by unfold ev;(repeat' split)<;>omega
def JS(d e:List ar)(i:Nat):Prop:=i≤d.length∧i≤e.length∧eu (d.drop i) (e.drop i)=eu d e
theorem GU(d e:List ar):bH al 207 [.slice 5 .no (d.map ar.e),.slice 5 .no (e.map ar.e)] (.int .i64 (eu d e)):=by
 generalize bh:eu d e=R;refine bf qH aaE ag4 fun aP=>?_;unfold N8;have aQ:d.length≤68719476736:=by simp[eB,ec,et,lim]at aP;omega
 have he:e.length≤68719476736:=by simp[eB,ec,et,lim]at aP;omega
 simp;refine uS [0,1] (fun(i:Nat)=>[(5,.int .i64 i)]) (fun i=>d.length-i) (JS d e) 0 b0 ⟨by omega,by omega,by simp⟩ (fun i af _=>?_);obtain⟨J,U,ao⟩:=af;rw[bh]at ao;by_cases hi:i<d.length
 ·by_cases ht:i<e.length
  ·obtain⟨x,ab⟩:∃x,d[i]? =some x:=⟨_,cf hi⟩;obtain⟨y,aG⟩:∃y,e[i]? =some y:=⟨_,cf ht⟩;have cy:∀h,(d[i]'h)=x:=fun h=>by rw[cf hi]at ab;exact fB ab
   have eJ:∀h,(e[i]'h)=y:=fun h=>by rw[cf ht]at aG;exact fB aG
   have yV:d.drop i=x::d.drop (i+1):=by rw[k7 hi,cy]
   have yW:e.drop i=y::e.drop (i+1):=by rw[k7 ht,eJ]
   rw[yV,yW]at ao;rw[Un]at ao;simp[hi,ht,cy,eJ];by_cases a6:ev x.v y.v=0
   ·rw[if_pos a6]at ao;by_cases bu:er x.t y.t=0
    ·rw[if_pos bu]at ao;(with_reducible repeat' first|refine aj ?_|refine aD (nI _ _) ?_|refine aE (nI _ _) ?_|refine aD (Ax _ _) ?_|refine aE (Ax _ _) ?_|simp[cy,eJ,hi,ht,a6,bu]);refine bN.whl (i+1) (by omega) ⟨by omega,by omega,by rw[bh];exact ao⟩ ?_;exact b0
    ·rw[if_neg bu]at ao;((with_reducible repeat' first|refine aj ?_|refine aD (nI _ _) ?_|refine aE (nI _ _) ?_|refine aD (Ax _ _) ?_|refine aE (Ax _ _) ?_|simp[cy,eJ,hi,ht,a6,bu]|((first|apply bP|apply bS|apply bR)<;>intro h<;>try simp at h))<;>(try exact cp));simp[bt,CI,aX,aZ,aW];exact ao
   ·rw[if_neg a6]at ao;((with_reducible repeat' first|refine aj ?_|refine aD (nI _ _) ?_|refine aE (nI _ _) ?_|simp[cy,eJ,hi,ht,a6]|((first|apply bP|apply bS|apply bR)<;>intro h<;>try simp at h))<;>(try exact cp));simp[bt,CI,aX,aZ,aW];exact ao
  ·have:ev d.length e.length=R:=by rw[←ao,eu,Cc _ _ _ (.inr (List.drop_eq_nil_of_le (by omega)))];rw[←Uo d.length e.length i];simp only[rS];congr 1<;>omega
   simp[hi,ht];(with_reducible repeat' first|refine aj ?_|refine aD (nI _ _) ?_|refine aE (nI _ _) ?_|simp[hi,ht]);simp[bt,CI,aX,aZ,aW];exact this
 ·have:ev d.length e.length=R:=by rw[←ao,eu,Cc _ _ _ (.inl (List.drop_eq_nil_of_le (by omega)))];rw[←Uo d.length e.length i];simp only[rS];congr 1<;>omega
  simp[hi];(with_reducible repeat' first|refine aj ?_|refine aD (nI _ _) ?_|refine aE (nI _ _) ?_|simp[hi]);simp[bt,CI,aX,aZ,aW];exact this
theorem Wy(a b:List ar)(bF:a.length≤1000000):bH al 169 [.slice 5 .no (a.map ar.e),.slice 5 .no (b.map ar.e)] (.bool (decide (a=b))):=by
 by_cases au:a.length=b.length;rotate_left
 ·have bA:decide (a=b)=false:=by simp only[hE];rintro rfl;exact au rfl
  have si:((a.length:Int) !=(b.length:Int))=true:=by simp;omega
  have n3:¬(a.length:Int)=b.length:=by omega
  rw[bA];refine bf qH Ql T9 fun aP=>?_;unfold HC;exact b2
 ·generalize bh:decide (a=b)=R;refine bf qH Ql T9 fun aP=>?_;unfold HC;simp;(with_reducible repeat' first|refine aj ?_|simp[au]);refine dW [0,1,12] (fun i (_:Unit)=>[(13,.int .i64 i)]) b.length (fun i (_:Unit)=> ∀k,k<i→a[k]? =b[k]?) () b0 (fun k ad=>by omega) (fun _ af _=>?_) (fun i _ hi af _=>?_)
  ·have:R=true:=by
    rw[←bh,fH];apply List.ext_getElem?;intro k;by_cases ad:k<b.length
    ·exact af k ad
    ·rw[p1 (by omega),p1 (by omega)]
   rw[this];exact b2
  ·obtain⟨x,ab⟩:∃x,a[i]? =some x:=⟨_,cf (by omega)⟩;obtain⟨y,aG⟩:∃y,b[i]? =some y:=⟨_,cf hi⟩;have gh:i<a.length:=by omega
   have cy:∀h,(a[i]'h)=x:=fun h=>by rw[cf gh]at ab;exact fB ab
   have eJ:∀h,(b[i]'h)=y:=fun h=>by rw[cf hi]at aG;exact fB aG
   have gr:x≠y→R=false:=fun h=>by rw[←bh,hE];rintro rfl;rw[ab]at aG;cases aG;exact h rfl
   simp[hi,gh,cy,eJ];by_cases a6:x.v=y.v
   ·have sI:(x.v !=y.v)=false:=by simp[a6]
    by_cases bu:x.t=y.t
    ·(with_reducible repeat' first|refine aj ?_|refine aD (sT _ _) ?_|refine aE (sT _ _) ?_|simp[cy,eJ,hi,gh,a6,sI,bu]);refine bN.rng () hi (fun k ad=>?_) ?_
     ·rcases(by omega:k<i∨k=i)with h|rfl
      ·exact af k h
      ·rw[ab,aG];cases x;cases y;simp_all
     ·exact b0
    ·rw[gr (fun e=>bu (by rw[e]))];(with_reducible repeat' first|refine aj ?_|refine aD (sT _ _) ?_|refine aE (sT _ _) ?_|simp[cy,eJ,hi,gh,a6,sI,bu]);simp[bt,UR,aX,aZ,aW]
   ·have sI:(x.v !=y.v)=true:=by simp[a6]
    rw[gr (fun e=>a6 (by rw[e]))];exact b2
def iF(l:List (List ar))(e:List ar):Bool:=l.all fun d=>decide (d=e)|| !mX d e
theorem afk{l a1:List (List ar)}(h:∀x,x∈l↔x∈a1)(e:List ar):iF l e=iF a1 e:=by rw[pZ,iF,iF,jb,jb];exact⟨fun J x ab=>J x ((h x).2 ab),fun J x ab=>J x ((h x).1 ab)⟩
def kI(l:List (List ar)):List (List ar):=(asc eu l).filter (iF l)
theorem zz{l:List (List ar)}{x:List ar}:x∈kI l↔x∈l∧iF l x=true:=by rw[kI,nj,TE]
theorem TM(l:List (List ar)):hF eu (kI l):=(Hn ly l).filter _
theorem TN{l a1:List (List ar)}(bF:hF eu a1)(hm:∀x,x∈a1↔x∈l∧iF l x=true):kI l=a1:=(TM l).ext ly bF fun x=>by rw[hm,zz]
structure c8 where
 n:Int
 b:List ar
 d:List (List ar)
 k:List bK
 m:List bk
 deriving DecidableEq,Inhabited
noncomputable def gA(b:List ar)(k:List bK)(m:List bk):List (List ar)→aY (List (List ar))
 |[]=>some []
 |d::r=>match mgu b (hz d)with
  |none=>gA b k m r
  |some x=>if ga x k []=none∨gb x m []=none then gA b k m r else if gv b x=[]then none else(gA b k m r).map (gv b x:: ·)
def kq(k:List bK)(x:bk):Bool:=k0 k x.v !=some 3
noncomputable def ks(s:c8):aY c8:=match ga s.b s.k []with
 |none=>none
 |some k=>match gb s.b s.m []with
  |none=>none
  |some m=>match gA s.b k (m.filter (kq k)) s.d with
   |none=>none
   |some L=>if(kI L).length≤30 then some ⟨s.n,s.b,kI L,k,m.filter (kq k)⟩else none
def wy(t:T)(n:Int):Prop:= ∀v,t.occ v=true→v<n
def pn(l:List ar)(n:Int):Prop:= ∀b∈l,b.v<n∧wy b.t n
structure qE (s:c8):Prop where
 n:0≤s.n∧s.n≤100000
 b:eM s.b
 d:∀x∈s.d,eM x
 k:iU s.k
 m:hB s.m
 bb:pn s.b s.n
 db:∀x∈s.d,pn x s.n
 kb:∀x∈s.k,x.v<s.n
 mb:∀x∈s.m,x.v<s.n
def rH(s:c8):Prop:=qE s∧ks s=some s
theorem Ae{s:List ar}(ag:eM s){v:Int}(aJ:0≤v∧v≤100000):(cB s v).ok=true:=by have:=Gt ag.ok (t:= .var v) (by simpa[T.ok]using aJ);exact this
theorem Ga{s:List ar}(ag:eM s):∀{l acc a:List bK},(∀x∈l,(0≤x.v∧x.v≤100000)∧(x.k=2∨x.k=3))→iU acc→ga s l acc=some a→iU a
 |[],acc,a,_,h,he=>by simp only[ga,dG]at he;rw[←he];exact h
 |x::r,acc,a,au,h,he=>by
  simp only[ga]at he;split at he
  ·rename_i bE ak;have ab:=au x (by simp);exact Ga ag (fun y aG=>au y (by simp[aG])) (Hg h (Ae ag ab.1) ab.2 ak) he
  ·cases he
theorem Gb{s:List ar}(ag:eM s):∀{l acc a:List bk},(∀x∈l,(0≤x.v∧x.v≤100000)∧jw x.s=true)→hB acc→gb s l acc=some a→hB a
 |[],acc,a,_,h,he=>by simp only[gb,dG]at he;rw[←he];exact h
 |x::r,acc,a,au,h,he=>by
  simp only[gb]at he;split at he
  ·rename_i bE ak;have ab:=au x (by simp);exact Gb ag (fun y aG=>au y (by simp[aG])) (Hi h (Ae ag ab.1) ab.2 ak) he
  ·cases he
def nE(G:List (List dz))(l:List bk):Prop:= ∀x∈l,x.s∈G
theorem Hj{G:List (List dz)}{l a1:List bk}{t:T}{s:List dz}(h:nE G l)(ag:s∈G)(he:lJ l t s=some a1):nE G a1:=fun x ab=>by
 rcases(Cj he x).1 ab with J|⟨J,_⟩
 ·exact h x J
 ·rw[J];exact ag
theorem Gc{G:List (List dz)}{s:List ar}:∀{l acc a:List bk},nE G l→nE G acc→gb s l acc=some a→nE G a
 |[],acc,a,_,h,he=>by simp only[gb,dG]at he;rw[←he];exact h
 |x::r,acc,a,au,h,he=>by
  simp only[gb]at he;split at he
  ·rename_i bE ak;exact Gc (fun y aG=>au y (by simp[aG])) (Hj h (au x (by simp)) ak) he
  ·cases he
theorem aiy{α:Type}[DecidableEq α]:∀{G:List α} {l:List (Nat×α)},l.Nodup→(∀x∈l,x.1<100001∧x.2∈G)→l.length≤100001*G.length:=by
 intro G l aA h;have:=MK aA (l₂:=(List.range 100001).flatMap fun i=>G.map fun g=>(i,g)) (fun x ab=>by obtain⟨J,U⟩:=h x ab;rw[List.mem_flatMap];exact⟨x.1,List.mem_range.2 J,h8.2 ⟨x.2,U,rfl⟩⟩)
 have e:((List.range 100001).flatMap fun i=>G.map fun g=>(i,g)).length=100001*G.length:=by
  generalize 100001=n;induction n with
  |zero=>simp
  |succ n bT=>rw[List.range_succ,List.flatMap_append,pd,bT];simp[Nat.succ_mul]
 omega
theorem Ch{G:List (List dz)}{l:List bk}(h:hB l)(a7:nE G l):l.length≤100001*G.length:=by
 have J:(l.map fun x=>(x.v.toNat,x.s)).Nodup:=by rw[List.nodup_iff_pairwise_ne,List.pairwise_map];refine amA (fun{a b} bF ae cF e=>cF ?_) (h.asc.nodup lz);have:=(h.at' a bF).1;have:=(h.at' b ae).1;simp only[jj]at e;cases a;cases b;simp only[bk.mk.injEq];simp only at*;exact⟨by omega,e.2⟩
 have:=aiy (G:=G) J fun x ab=>by obtain⟨y,aG,rfl⟩:=h8.1 ab;have:=(h.at' y aG).1;exact⟨by simp;omega,a7 y aG⟩
 simpa using this
def jE(m:List bk):Prop:= ∃G:List (List dz),G.length≤687000∧nE G m
theorem jE.len{m:List bk}(h:jE m)(hm:hB m):m.length≤68719470000:=by obtain⟨G,J,U⟩:=h;have:=Ch hm U;omega
theorem jE.of{m:List bk}(h:m.length≤687000):jE m:=⟨m.map (·.s),by simpa using h,fun _ ab=>List.mem_map_of_mem ab⟩
theorem aj1{s:List ar}(h:eM s)(p:ar→Bool):eM (s.filter p):=by
 have mT:∀b∈s.filter p,b∈s:=fun b ae=>(nj.1 ae).1;have aA:∀w,dh s w=none→dh (s.filter p) w=none:=fun w hw=>by rw[uI]at hw⊢;exact fun b ae=>hw b (mT b ae)
 exact⟨fun b ae=>h.ok b (mT b ae),⟨Xd p h.sol.asc,fun b ae w hw=>aA w (h.sol.free b (mT b ae) w hw),fun b ae=>h.sol.ori b (mT b ae)⟩,
  j4 (List.length_filter_le _ _) h.fits.1,fun b ae=>h.fits.2 b (mT b ae)⟩
theorem FA{b x:List ar}(h:eM x):eM (gv b x):=aj1 h _
theorem agr{b x:List ar}(ae:fC b)(ab:fC x)(aI:hn x)(h:∀aO,gH x aO→gH b aO):ix b (hz (gv b x)) (some x):=by
 refine⟨⟨ab,aI⟩,fun aO=>⟨fun hg=>⟨h aO hg,fun e he=>?_⟩,fun⟨J,U⟩ c ax=>?_⟩⟩
 ·obtain⟨c,ax,rfl⟩:=h8.1 he;exact hg c (nj.1 ax).1
 ·have kj:∀c∈x,dh b c.v=none→aO c.v=c.t.ap aO:=fun c ax aA=>by have:=U (.var c.v,c.t) (h8.2 ⟨c,nj.2 ⟨ax,by simp[aA]⟩,rfl⟩);exact this
  have wY:∀w,dh b w=none→(cB x w).ap aO=aO w:=fun w hw=>by
   unfold cB;cases e:dh x w with
   |none=>rfl
   |some t=>have hm:=jT e;exact(kj _ hm hw).symm
  cases e:dh b c.v with
  |none=>exact kj c ax e
  |some t=>
   have ak:aO c.v=t.ap aO:=J _ (jT e);have aB:=h (cB x) (x2 ab) _ (jT e);simp only at aB;have bj:cB x c.v=c.t:=by unfold cB;rw[uH ab.asc ax];rfl
   rw[bj]at aB;rw[ak,aB,AM];exact tc fun w hw=>(wY w (ae.free _ (jT e) w hw)).symm
theorem af5{s:List ar}(ag:fC s)(aI:hn s){E:List (T×T)}{x:List ar}(h:mgu s E=some x):∀aO,gH x aO↔gH s aO∧jo E aO:=by have:=Fx ag aI E;rw[h]at this;exact this.2
theorem af3{s:List ar}(ag:fC s)(aI:hn s){E:List (T×T)}{x:List ar}(h:mgu s E=some x):mgu s (hz (gv s x))=some x:=rv (agr ag (zy ag aI h).1 (zy ag aI h).2 fun aO hg=>((af5 ag aI h aO).1 hg).1)
theorem TL(p:Int→Prop){E:List (T×T)}:∀{s ai:List ar},fC s→hn s→(∀b∈s,p b.v∧∀w,b.t.occ w=true→p w)→(∀e∈E,(∀w,e.1.occ w=true→p w)∧∀w,e.2.occ w=true→p w)→mgu s E=some ai→∀b∈ai,p b.v∧∀w,b.t.occ w=true→p w:=by
 induction E with
 |nil=>intro s ai ag aI J _ h;rw[Ku ag aI]at h;cases h;exact J
 |cons e E bT=>
  intro s ai ag aI J U h;rw[Kt ag aI]at h;split at h
  ·rename_i s1 ak;obtain⟨V,jW⟩:∃V,V=s.flatMap (fun b=>b.v::ng b.t)++ng e.1++ng e.2:=⟨_,rfl⟩;have Rf:∀w∈V,p w:=by
    intro w hw;rw[jW]at hw;simp only[kx,List.mem_flatMap,fU]at hw;rcases hw with(⟨b,ae,rfl|hw⟩|hw)|hw
    ·exact(J b ae).1
    ·exact(J b ae).2 w (De.1 hw)
    ·exact(U e (by simp)).1 w (De.1 hw)
    ·exact(U e (by simp)).2 w (De.1 hw)
   obtain⟨n,o,h7,iK,pV⟩:=Wl V _ _ s e.1 e.2 ag aI (fun c ax=>⟨by rw[jW];simp only[kx,List.mem_flatMap];exact .inl (.inl ⟨c,ax,by simp⟩),fun w hw=>by rw[jW];simp only[kx,List.mem_flatMap];exact .inl (.inl ⟨c,ax,by simp[xz hw]⟩)⟩)
    (fun w hw=>by rw[jW];simp only[kx];exact .inl (.inr (xz hw))) (fun w hw=>by rw[jW];simp only[kx];exact .inr (xz hw)) rfl rfl
   have x7:=rv iK;rw[ak]at x7;subst x7;obtain⟨Wk,_⟩:=pV s1 rfl;have oZ:=zy ag aI ak;exact bT oZ.1 oZ.2 (fun b ae=>⟨Rf _ (Wk b ae).1,fun w hw=>Rf w ((Wk b ae).2 w hw)⟩) (fun fJ he=>U fJ (by simp[he])) h
  ·cases h
theorem aj7{s:List ar}(ag:fC s){v n:Int}(h:cB s v= .var n):dh s n=none:=by have:=LU ag (t:= .var v) (w:=n) (by show(cB s v).occ n=true;rw[h];simp[T.occ]);exact this
theorem MZ{l a1:List bK}{t:T}{k:Int}(h:j7 l t k=some a1):∀x∈a1,x∈l∨t= .var x.v:=by
 unfold j7 at h;split at h
 ·rename_i n;split at h
  ·split at h
   ·cases h;exact fun x ab=>.inl ab
   ·cases h
  ·cases h;intro x ab;rcases Fv.1 ab with rfl|ab
   ·exact .inr rfl
   ·exact .inl ab
 ·split at h
  ·cases h;exact fun x ab=>.inl ab
  ·cases h
theorem Vl{s:List ar}(ag:fC s):∀{l acc a:List bK},(∀x∈acc,dh s x.v=none)→ga s l acc=some a→∀x∈a,dh s x.v=none
 |[],acc,a,h,he=>by simp only[ga,dG]at he;rw[←he];exact h
 |y::r,acc,a,h,he=>by
  simp only[ga]at he;split at he
  ·rename_i bE ak;refine Vl ag (fun x ab=>?_) he;rcases MZ ak x ab with J|J
   ·exact h x J
   ·exact aj7 ag J
  ·cases he
theorem Sx{x:bK}:∀{l:List bK},(∀y∈l,y.v<x.v)→lu x l=l++[x]
 |[],_=>rfl
 |y::l,h=>by simp only[lu,if_pos (h y (by simp)),Sx (l:=l) fun z bD=>h z (by simp[bD]),bU]
theorem Vm{s:List ar}:∀{l acc:List bK},(acc++l).Pairwise (fun x y=>x.v<y.v)→(∀x∈l,dh s x.v=none)→ga s l acc=some (acc++l)
 |[],acc,_,_=>by simp[ga]
 |x::r,acc,bF,aI=>by
  have J:∀y∈acc,y.v<x.v:=fun y aG=>(List.pairwise_append.1 bF).2.2 y aG x (by simp);have U:k0 acc x.v=none:=xq.2 fun y aG=>by have:=J y aG;omega
  have ao:j7 acc (cB s x.v) x.k=some (acc++[x]):=by rw[Ad (aI x (by simp))];simp only[j7,U];rw[Sx J]
  simp only[ga,ao];rw[Vm (by simpa using bF) fun y aG=>aI y (by simp[aG])];simp
theorem Vo{s:List ar}(ag:fC s):∀{l acc a:List bk},(∀x∈acc,dh s x.v=none)→gb s l acc=some a→∀x∈a,dh s x.v=none
 |[],acc,a,h,he=>by simp only[gb,dG]at he;rw[←he];exact h
 |y::r,acc,a,h,he=>by
  simp only[gb]at he;split at he
  ·rename_i bE ak;refine Vo ag (fun x ab=>?_) he;rcases(Cj ak x).1 ab with J|⟨_,J⟩
   ·exact h x J
   ·exact LU ag (t:= .var y.v) J
  ·cases he
theorem Vp{s:List ar}:∀{l acc:List bk},hF e9 (acc++l)→(∀x∈l,dh s x.v=none)→gb s l acc=some (acc++l)
 |[],acc,_,_=>by simp[gb]
 |x::r,acc,bF,aI=>by
  have ao:lJ acc (cB s x.v) x.s=some (acc++[x]):=by
   rw[Ad (aI x (by simp))];refine Hh rfl (arW ?_ bF) fun z=>?_
   ·simp
   ·simp only[kx,List.mem_singleton,T.occ,dL];refine or_congr_right ⟨fun h=>by rw[h];exact⟨rfl,rfl⟩,fun⟨J,U⟩=>?_⟩;cases z;cases x;simp_all
  simp only[gb,ao];rw[Vp (by simpa using bF) fun y aG=>aI y (by simp[aG])];simp
def C4(b:List ar)(k:List bK)(m:List bk)(d:List ar):Prop:= ∃x,mgu b (hz d)=some x∧¬(ga x k []=none∨gb x m []=none)∧gv b x=d∧d≠[]
theorem Fk{b:List ar}(ae:eM b){k:List bK}{m:List bk}:∀{l L:List (List ar)},gA b k m l=some L→∀d∈L,C4 b k m d
 |[],L,h=>by simp only[gA,dG]at h;rw[←h];simp
 |d0::r,L,h=>by
  simp only[gA]at h;split at h
  ·exact Fk ae h
  ·rename_i x ab;split at h
   ·exact Fk ae h
   ·rename_i ad;split at h
    ·cases h
    ·rename_i aA;rw[gF]at h;obtain⟨MT,J,rfl⟩:=h;intro d aQ;rcases fU.1 aQ with rfl|aQ
     ·exact⟨x,af3 ae.sol ae.fits ab,ad,rfl,aA⟩
     ·exact Fk ae J d aQ
theorem Tk{b:List ar}{k:List bK}{m:List bk}:∀{L:List (List ar)},(∀d∈L,C4 b k m d)→gA b k m L=some L
 |[],_=>rfl
 |d::L,h=>by obtain⟨x,J,U,ao,a8⟩:=h d (by simp);simp only[gA,J,if_neg U,ao,if_neg a8,Tk (L:=L) fun e he=>h e (by simp[he]),nM]
theorem Fj{b:List ar}(ae:eM b){k:List bK}{m:List bk}:∀{l L:List (List ar)},(∀d∈l,eM d)→gA b k m l=some L→∀d∈L,eM d
 |[],L,_,h=>by simp only[gA,dG]at h;rw[←h];simp
 |d0::r,L,au,h=>by
  simp only[gA]at h;split at h
  ·exact Fj ae (fun d aQ=>au d (by simp[aQ])) h
  ·rename_i x ab;split at h
   ·exact Fj ae (fun d aQ=>au d (by simp[aQ])) h
   ·split at h
    ·cases h
    ·rw[gF]at h;obtain⟨MT,J,rfl⟩:=h;intro d aQ;rcases fU.1 aQ with rfl|aQ
     ·exact FA (ae.mgu (fun e he=>by obtain⟨c,ax,rfl⟩:=h8.1 he;have:=(au d0 (by simp)).ok c ax;exact⟨by simpa[T.ok]using this.1,this.2⟩) ab)
     ·exact Fj ae (fun d aQ=>au d (by simp[aQ])) J d aQ
theorem Fi{b:List ar}(ae:eM b){n:Int}(aA:pn b n){k:List bK}{m:List bk}:∀{l L:List (List ar)},(∀d∈l,pn d n)→gA b k m l=some L→∀d∈L,pn d n
 |[],L,_,h=>by simp only[gA,dG]at h;rw[←h];simp
 |d0::r,L,au,h=>by
  simp only[gA]at h;split at h
  ·exact Fi ae aA (fun d aQ=>au d (by simp[aQ])) h
  ·rename_i x ab;split at h
   ·exact Fi ae aA (fun d aQ=>au d (by simp[aQ])) h
   ·split at h
    ·cases h
    ·rw[gF]at h;obtain⟨MT,J,rfl⟩:=h;intro d aQ;rcases fU.1 aQ with rfl|aQ
     ·have:=TL (fun v=>v<n) ae.sol ae.fits aA (fun e he=>by obtain⟨c,ax,rfl⟩:=h8.1 he;have:=au d0 (by simp) c ax;exact⟨fun w hw=>by simp[T.occ]at hw;subst hw;exact this.1,this.2⟩) ab
      exact fun c ax=>this c (nj.1 ax).1
     ·exact Fi ae aA (fun d aQ=>au d (by simp[aQ])) J d aQ
theorem af8{L:List (List ar)}:kI (kI L)=kI L:=TN (TM L) fun x=>by rw[zz,and_assoc];refine⟨fun⟨J,U⟩=>⟨J,U,?_⟩,fun⟨J,U,_⟩=>⟨J,U⟩⟩;rw[iF,jb]at U⊢;exact fun d aQ=>U d (zz.1 aQ).1
theorem SL{b:List ar}(ae:eM b){n:Int}(aA:pn b n){v w:Int}(aJ:v<n)(h:(cB b v).occ w=true):w<n:=by
 unfold cB at h;cases e:dh b v with
 |none=>rw[e]at h;simp[T.occ]at h;omega
 |some t=>rw[e]at h;exact(aA _ (jT e)).2 w h
theorem Vk{b:List ar}(ae:eM b){n:Int}(aA:pn b n):∀{l acc a:List bK},(∀x∈l,x.v<n)→(∀x∈acc,x.v<n)→ga b l acc=some a→∀x∈a,x.v<n
 |[],acc,a,_,h,he=>by simp only[ga,dG]at he;rw[←he];exact h
 |y::r,acc,a,au,h,he=>by
  simp only[ga]at he;split at he
  ·rename_i bE ak;refine Vk ae aA (fun x ab=>au x (by simp[ab])) (fun x ab=>?_) he;rcases MZ ak x ab with J|J
   ·exact h x J
   ·exact SL ae aA (au y (by simp)) (by rw[J];simp[T.occ])
  ·cases he
theorem Vn{b:List ar}(ae:eM b){n:Int}(aA:pn b n):∀{l acc a:List bk},(∀x∈l,x.v<n)→(∀x∈acc,x.v<n)→gb b l acc=some a→∀x∈a,x.v<n
 |[],acc,a,_,h,he=>by simp only[gb,dG]at he;rw[←he];exact h
 |y::r,acc,a,au,h,he=>by
  simp only[gb]at he;split at he
  ·rename_i bE ak;refine Vn ae aA (fun x ab=>au x (by simp[ab])) (fun x ab=>?_) he;rcases(Cj ak x).1 ab with J|⟨_,J⟩
   ·exact h x J
   ·exact SL ae aA (au y (by simp)) J
  ·cases he
theorem VN{s ai:c8}(h:qE s)(he:ks s=some ai):rH ai∧ai.n=s.n∧ai.b=s.b:=by
 unfold ks at he;split at he
 ·cases he
 rename_i k ad;split at he
 ·cases he
 rename_i m hm;split at he
 ·cases he
 rename_i L jr;split at he;rotate_left
 ·cases he
 rename_i ld;cases he;have aT:=Ga h.b h.k.at' ⟨by simp,by simp⟩ ad;have m1:=Gb h.b h.m.at' ⟨by simp,by simp[hF]⟩ hm;have m2:hB (m.filter (kq k)):=⟨fun x ab=>m1.at' x (nj.1 ab).1,Xd _ m1.asc⟩;have dd:=Fk h.b jr;have xe:=Fj h.b h.d jr;refine⟨⟨⟨h.n,h.b,fun x ab=>xe x (zz.1 ab).1,aT,m2,h.bb,fun x ab=>Fi h.b h.bb h.db jr x (zz.1 ab).1,Vk h.b h.bb h.kb (by simp) ad,fun x ab=>Vn h.b h.bb h.mb (by simp) hm x (nj.1 ab).1⟩,?_⟩,rfl,rfl⟩;unfold ks;have ak:ga s.b k []=some k:=Vm (acc:=[]) aT.asc (Vl h.b.sol (by simp) ad);have aB:gb s.b (m.filter (kq k)) []=some (m.filter (kq k)):=Vp (acc:=[]) m2.asc fun x ab=>Vo h.b.sol (by simp) hm x (nj.1 ab).1;have bj:(m.filter (kq k)).filter (kq k)=m.filter (kq k):=by rw[List.filter_filter];simp
 have de:gA s.b k (m.filter (kq k)) (kI L)=some (kI L):=Tk fun d aQ=>dd d (zz.1 aQ).1;simp only[ak,aB,bj,de,af8,if_pos ld]
theorem sy{α:Type}{s:List α}{i:Nat}{t:α}(h:s[i]? =some t):s.drop i=t::s.drop (i+1):=by obtain⟨hi,e⟩:=fL.1 h;rw[k7 hi,e]
def pQ(L:List (List ar))(a:List (List ar))(e:List ar):List (List ar):=if iF L e=true then jZ eu e a else a
theorem Kv{L:List (List ar)}:∀(xs:List (List ar)) {a:List (List ar)},hF eu a→hF eu (xs.foldl (pQ L) a)
 |[],_,h=>h
 |x::xs,a,h=>Kv xs (a:=pQ L a x) (by unfold pQ;split<;>first|exact JN ly h|exact h)
theorem TP{L:List (List ar)}{x:List ar}:∀(xs:List (List ar)) {a:List (List ar)},x∈xs.foldl (pQ L) a↔x∈a∨(x∈xs∧iF L x=true)
 |[],a=>by simp
 |y::xs,a=>by
  rw[List.foldl_cons,TP xs,fU];unfold pQ;by_cases ad:iF L y=true
  ·rw[if_pos ad,Fu ly];constructor
   ·rintro((rfl|h)|h)
    ·exact .inr ⟨.inl rfl,ad⟩
    ·exact .inl h
    ·exact .inr ⟨.inr h.1,h.2⟩
   ·rintro(h|⟨rfl|J,U⟩)
    ·exact .inl (.inr h)
    ·exact .inl (.inl rfl)
    ·exact .inr ⟨J,U⟩
  ·rw[if_neg ad];constructor
   ·rintro(h|h)
    ·exact .inl h
    ·exact .inr ⟨.inr h.1,h.2⟩
   ·rintro(h|⟨rfl|J,U⟩)
    ·exact .inl h
    ·exact absurd U ad
    ·exact .inr ⟨J,U⟩
theorem TO{L:List (List ar)}:∀(xs a:List (List ar)),(xs.foldl (pQ L) a).length≤a.length+xs.length
 |[],a=>by simp
 |y::xs,a=>by
  have J:=TO (L:=L) xs (pQ L a y);have U:(pQ L a y).length≤a.length+1:=by
   unfold pQ;split
   ·exact JP _ _
   ·omega
  simp only[List.foldl_cons,p2];omega
theorem aga(L:List (List ar)):kI L=L.foldl (pQ L) []:=TN (Kv L (by simp[hF])) fun x=>by rw[TP];simp
def xo(L:List (List ar))(i:Nat)(a:List (List ar)):Prop:=a=(L.take i).foldl (pQ L) []
theorem xo.step{L:List (List ar)}{i:Nat}{a:List (List ar)}(h:xo L i a){e:List ar}(he:L[i]? =some e):xo L (i+1) (pQ L a e):=by rw[xo,ox he,List.foldl_append,h];rfl
def vs(e d:List ar):Bool:=decide (d=e)|| !mX d e
def pG(L:List (List ar))(e:List ar)(j:Nat)(k:Bool):Prop:=k=(L.take j).all (vs e)
theorem pG.step{L:List (List ar)}{e:List ar}{j:Nat}{k:Bool}(h:pG L e j k){d:List ar}(aQ:L[j]? =some d):pG L e (j+1) (k&&vs e d):=by rw[pG,ox aQ,List.all_append,h];simp
def E3(a:List (List ar))(e:List ar)(k:Nat):Prop:=k≤a.length∧∀c,a[k]? =some c→0≤eu c e
theorem E3.fin{a:List (List ar)}{e:List ar}{k:Nat}(h:E3 a e k)(bF:hF eu a)(ax:∀d,0<k→a[k-1]? =some d→eu d e<0):jZ eu e a=if(match a[k]? with|some y=>decide (eu y e=0)|none=>false)=true then a else a.take k++e::a.drop k:=
 (JO ly e a k (fun i c hi jX=>by
  have ad:=h.1;obtain⟨d,aQ⟩:∃d,a[k-1]? =some d:=⟨_,cf (by omega)⟩;have J:=ax d (by omega) aQ;rcases Nat.lt_or_ge i (k-1)with U|U
  ·have se:=(fL.1 jX);have me:=(fL.1 aQ);have:=pg.1 bF i (k-1) se.1 me.1 U;rw[se.2,me.2]at this;exact ly.ltr this (by omega)
  ·have:i=k-1:=by omega
   subst this;rw[aQ]at jX;cases jX;exact J) h.2 h.1).trans (by cases a[k]?<;>rfl)
theorem SO(L:List (List ar))(e:List ar):iF L e=L.all (vs e):=rfl
theorem VV{l:List (List ar)}{x:List ar}:x∈oq eu l↔x∈l:=(x3 eu l).mem_iff
theorem af9(l:List (List ar)):kI l=(cG none (oq eu l)).filter (iF (oq eu l)):=by have h:iF l=iF (oq eu l):=funext fun e=>afk (fun x=>VV.symm) e;rw[kI,h];rfl
def mn(s:List (List ar))(i:Nat)(acc:List (List ar)):Prop:=acc++(cG (if i=0 then none else s[i-1]?) (s.drop i)).filter (iF s)=(cG none s).filter (iF s)
def lF:c8:=⟨0,[],[],[],[]⟩
noncomputable def xZ(s:c8):c8:=match ga s.b s.k []with
 |none=>lF
 |some k=>match gb s.b s.m []with
  |none=>lF
  |some m=>match gA s.b k (m.filter (kq k)) s.d with
   |none=>lF
   |some L=>⟨s.n,s.b,kI L,k,m.filter (kq k)⟩
theorem LS{s ai:c8}(h:ks s=some ai):xZ s=ai:=by
 unfold ks at h;unfold xZ;cases J:ga s.b s.k []with
 |none=>rw[J]at h;cases h
 |some k=>
  rw[J]at h;simp only at h⊢;cases U:gb s.b s.m []with
  |none=>rw[U]at h;cases h
  |some m=>
   rw[U]at h;simp only at h⊢;cases ao:gA s.b k (m.filter (kq k)) s.d with
   |none=>rw[ao]at h;cases h
   |some L=>
    rw[ao]at h;simp only at h⊢;split at h
    ·cases h;rfl
    ·cases h
theorem XE{k:List bK}(ad:iU k)(v:Int):(j7 k (.var v) 2).isSome=(k0 k v !=some 3):=by
 unfold j7;simp only;cases h:k0 k v with
 |none=>simp
 |some x=>have:=(ad.at' _ (SY h)).2;simp only at this;rcases this with rfl|rfl<;>simp
theorem XI{k:List bK}(bF:k.Pairwise fun x y=>x.v<y.v)(v:Int):(k.any fun x=>x.v==v&&x.k==3)=(k0 k v==some 3):=by
 rw[pZ,List.any_eq_true,dL];constructor
 ·rintro⟨x,ab,h⟩;simp only[cA,dL]at h;have:=Fb bF ab;rw[h.1,h.2]at this;exact this
 ·intro h;exact⟨_,SY h,by simp⟩
theorem J9{b:List ar}{k:List bK}{m:List bk}{d:List ar}{r:List (List ar)}(h:mgu b (hz d)=none):gA b k m (d::r)=gA b k m r:=by rw[gA,h]
theorem J8{b:List ar}{k:List bK}{m:List bk}{d x:List ar}{r:List (List ar)}(h:mgu b (hz d)=some x)(ad:ga x k []=none∨gb x m []=none):gA b k m (d::r)=gA b k m r:=by rw[gA,h];simp only[if_pos ad]
theorem J7{b:List ar}{k:List bK}{m:List bk}{d x:List ar}{r:List (List ar)}(h:mgu b (hz d)=some x)(ad:¬(ga x k []=none∨gb x m []=none))(aA:gv b x=[]):gA b k m (d::r)=none:=by rw[gA,h];simp only[if_neg ad,if_pos aA]
theorem Ka{b:List ar}{k:List bK}{m:List bk}{d x:List ar}{r:List (List ar)}(h:mgu b (hz d)=some x)(ad:¬(ga x k []=none∨gb x m []=none))(aA:gv b x≠[]):gA b k m (d::r)=(gA b k m r).map (gv b x:: ·):=by rw[gA,h];simp only[if_neg ad,if_neg aA]
def pH(b:List ar)(k:List bK)(m:List bk)(D:List (List ar))(i:Nat)(a:List (List ar)):Prop:=a.length≤i∧(∀x∈a,eM x)∧(gA b k m (D.drop i)).map (a++ ·)=gA b k m D
def ez(n:Int):T→Bool
 | .var v=>decide (v<n)
 | .pair a b=>ez n a&&ez n b
 |_=>true
theorem AQ{n:Int}:∀{t:T},ez n t=true↔wy t n
 | .var v=>by simp[ez,wy,T.occ]
 | .pair a b=>by simp only[ez,cA,AQ (t:=a),AQ (t:=b),wy,T.occ,mB];exact⟨fun h v aJ=>aJ.elim (h.1 v) (h.2 v),fun h=>⟨fun v aJ=>h v (.inl aJ),fun v aJ=>h v (.inr aJ)⟩⟩
 | .nil=>by simp[ez,wy,T.occ]
 | .sym _=>by simp[ez,wy,T.occ]
 | .num _=>by simp[ez,wy,T.occ]
def kC(n:Int)(b:ar):Bool:=decide (b.v<n)&&ez n b.t
theorem uJ{n:Int}{s:List ar}:s.all (kC n)=true↔pn s n:=by simp[jb,kC,pn,AQ]
def qJ(v m:Int):Int:=if m<v+1 then v+1 else m
theorem GY{n:Int}:∀(t:T) (m:Int),t.fold qJ m≤n↔m≤n∧ez n t=true
 | .var v,m=>by simp only[T.fold,qJ,ez,fH];split<;>omega
 | .pair a b,m=>by simp only[T.fold,GY b,GY a,ez,cA,and_assoc]
 | .nil,m=>by simp[T.fold,ez]
 | .sym _,m=>by simp[T.fold,ez]
 | .num _,m=>by simp[T.fold,ez]
def Df(v m:Int):aY Int:=if 0≤v∧v≤100000 then some (qJ v m)else none
theorem Mx:∀(t:T) (m:Int),t.ok=true→t.foldO Df m=some (t.fold qJ m)
 | .var v,m,h=>by
  have:0≤v∧v≤100000:=by simpa[T.ok]using h
  simp[T.foldO,T.fold,Df,this]
 | .pair a b,m,h=>by
  have J:a.ok=true∧b.ok=true:=by simpa[T.ok]using h
  simp[T.foldO,T.fold,Mx a m J.1,Mx b _ J.2]
 | .nil,m,_=>rfl
 | .sym _,m,_=>rfl
 | .num _,m,_=>rfl
structure ff where
 n:Int
 b:List cT
 d:List (List cT)
 k:List bK
 m:List bk
def c8.r(s:c8):ff:=⟨s.n,s.b.map ar.b,s.d.map fun x=>x.map ar.b,s.k,s.m⟩
def ij(r:ff):Prop:= ∃s:c8,r=s.r∧rH s
def jV(n:Int)(x:List cT):Prop:= ∃s:List ar,x=s.map ar.b∧eM s∧pn s n
structure Lt (r:ff):Prop where
 n:0≤r.n∧r.n≤100000
 b:jV r.n r.b
 d:∀x∈r.d,jV r.n x
 k:iU r.k
 m:hB r.m
 kb:∀x∈r.k,x.v<r.n
 mb:∀x∈r.m,x.v<r.n
theorem ij.raw{r:ff}(h:ij r):Lt r:=by obtain⟨s,rfl,J,_⟩:=h;exact⟨J.n,⟨s.b,rfl,J.b,J.bb⟩,fun x ab=>by obtain⟨y,aG,rfl⟩:=h8.1 ab;exact⟨y,rfl,J.d y aG,J.db y aG⟩,J.k,J.m,J.kb,J.mb⟩
theorem uG:∀{a b:List ar},a.map ar.b=b.map ar.b→a=b
 |[],b,h=>by cases b<;>simp at h⊢
 |x::a,[],h=>by simp at h
 |x::a,y::b,h=>by simp only[gE,p0,ar.b,cT.mk.injEq]at h;rw[uG h.2];have:=C6 h.1.2;obtain⟨⟨J,_⟩,_⟩:=h;cases x;cases y;simp_all
theorem Nh:∀{a b:List (List ar)},(a.map fun x=>x.map ar.b)=(b.map fun x=>x.map ar.b)→a=b
 |[],b,h=>by cases b<;>simp at h⊢
 |x::a,[],h=>by simp at h
 |x::a,y::b,h=>by rw[gE,gE,p0]at h;rw[Nh h.2,uG h.1]
theorem c8.r_inj{s t:c8}(h:s.r=t.r):s=t:=by obtain⟨n,b,d,k,m⟩:=s;obtain⟨n',bO,b8,bM,hj⟩:=t;simp only[c8.r,ff.mk.injEq]at h;obtain⟨J,U,ao,a8,bZ⟩:=h;rw[J,uG U,Nh ao,a8,bZ]
theorem PU{n:Int}:∀{d:List (List cT)},(∀x∈d,jV n x)→∃D:List (List ar),d=(D.map fun x=>x.map ar.b)∧(∀x∈D,eM x)∧∀x∈D,pn x n
 |[],_=>⟨[],rfl,by simp,by simp⟩
 |x::d,h=>by
  obtain⟨D,J,U,ao⟩:=PU (d:=d) fun y aG=>h y (by simp[aG]);obtain⟨s,ak,aB,bj⟩:=h x (by simp);refine⟨s::D,by rw[J,ak];rfl,fun y aG=>?_,fun y aG=>?_⟩
  ·rcases fU.1 aG with rfl|aG
   ·exact aB
   ·exact U y aG
  ·rcases fU.1 aG with rfl|aG
   ·exact bj
   ·exact ao y aG
theorem VX{s:c8}(h:qE s):ij s.r↔ks s=some s:=by
 constructor
 ·rintro⟨t,e,_,U⟩;rw[c8.r_inj e];exact U
 ·intro U;exact⟨s,rfl,h,U⟩
theorem vS{l:List cT}:Hc l↔∃s:List ar,l=s.map ar.b∧eM s:=⟨fun⟨s,J,U,ao,a8⟩=>⟨s,J,U,ao,a8⟩,fun⟨s,J,U⟩=>⟨s,J,U.ok,U.sol,U.fits⟩⟩
def qQ{α:Type}(a b:List α)(i:Nat)(_:Unit):Prop:= ∀k,k<i→a[k]? =b[k]?
theorem qQ.fin{α:Type}{a b:List α}(h:qQ a b b.length ())(au:a.length=b.length):a=b:=by
 apply List.ext_getElem?;intro k;by_cases ad:k<b.length
 ·exact h k ad
 ·rw[p1 (by omega),p1 (by omega)]
theorem qQ.step{α:Type}{a b:List α}{i:Nat}(h:qQ a b i ()){x:α}(bF:a[i]? =some x)(ae:b[i]? =some x):qQ a b (i+1) ():=fun k ad=>by
 rcases(by omega:k<i∨k=i)with J|rfl
 ·exact h k J
 ·rw[bF,ae]
def rn{α:Type}(p:α→Prop)(s:List α)(i:Nat)(_:Unit):Prop:= ∀k b,k<i→s[k]? =some b→p b
theorem rn.step{α:Type}{p:α→Prop}{s:List α}{i:Nat}(h:rn p s i ()){b:α}(ae:s[i]? =some b)(bJ:p b):rn p s (i+1) ():=fun k c ad ax=>by
 rcases(by omega:k<i∨k=i)with J|rfl
 ·exact h k c J ax
 ·rw[ae]at ax;cases ax;exact bJ
theorem rn.fin{α:Type}{p:α→Prop}{s:List α}(h:rn p s s.length ()):∀b∈s,p b:=fun b ae=>by obtain⟨k,ad,e⟩:=ni ae;exact h k b ad (by rw[cf ad,e])
def ND:C:=(aa [be 2 false] (.seq (aa [I 5 0,cl 6 5,bW 7 0] (ft 8 7 6 (.seq (.block 1 (aa [I 9 7,cu 10 2 5 7,aV 11 2 10,c1 (.alloc 4 none (.agg [.int .i64 0,.int .i64 0])),I 3 9,bL 2 4 11] (.seq (.drawn true 46 [aF 12 0 1 4,av 13 1 12,aU 14 .lss 13 0,I 15 14,aq 15 false (aF 16 0 1 4),aq 15 false (av 17 1 16),aq 15 false (aU 18 .gtr 17 100000),c6 19 15 18,I 20 19,aq 20 false (aF 21 1 1 4),aq 20 false (av 22 1 21),aq 20 false (aU 23 .neq 22 2),b3 20 false 24 23,aq 24 true (aF 25 1 1 4),aq 24 true (av 26 1 25),aq 24 true (aU 27 .neq 26 3),aq 20 false (dx 28 24 27),c6 29 20 28,I 30 29,b3 30 false 31 3,aq 30 false (aU 32 .gtr 31 0),b3 30 false 33 32,b3 33 true 34 0,b3 33 true 35 3,aq 33 true (aU 36 .sub 35 1),aq 33 true (cu 37 2 34 36),aq 33 true (aF 38 0 1 37),aq 33 true (av 39 1 38),aq 33 true (aF 40 0 1 4),aq 33 true (av 41 1 40),aq 33 true (bm 42 .geq 39 41),aq 30 false (dx 43 33 42),c6 44 30 43]) (aS 44 (aa [be 2 false] .ret) .skip)))) (.region [aU 45 .add 7 1,I 7 45])))) (aa [be 2 true] .ret)))
@[simp] def UH:List bs:=[.tmp 2]
def NF:C:=(aa [be 2 false] (.seq (aa [I 5 0,cl 6 5,bW 7 0] (ft 8 7 6 (.seq (.block 1 (aa [I 9 7,cu 10 2 5 7,aV 11 2 10,c1 (.alloc 4 none (.agg [.int .i64 0,.str []])),I 3 9,bL 2 4 11] (.seq (.drawn true 41 [aF 12 0 1 4,av 13 1 12,aU 14 .lss 13 0,I 15 14,aq 15 false (aF 16 0 1 4),aq 15 false (av 17 1 16),aq 15 false (aU 18 .gtr 17 100000),c6 19 15 18,I 20 19,aq 20 false (aF 21 1 1 4),aq 20 false (av 22 1 21),aq 20 false (cE 23 160 22),aq 20 false (cw 24 23),c6 25 20 24,I 26 25,b3 26 false 27 3,aq 26 false (aU 28 .gtr 27 0),b3 26 false 29 28,b3 29 true 30 0,b3 29 true 31 3,aq 29 true (aU 32 .sub 31 1),aq 29 true (cu 33 2 30 32),aq 29 true (aV 34 2 33),aq 29 true (aV 35 2 4),aq 29 true (ca 36 161 34 35),aq 29 true (cw 37 36),aq 26 false (dx 38 29 37),c6 39 26 38]) (aS 39 (aa [be 2 false] .ret) .skip)))) (.region [aU 40 .add 7 1,I 7 40])))) (aa [be 2 true] .ret)))
@[simp] def K4:List bs:=[.tmp 2]
def qc:C:=(aa [cz 6 2,eE 8 2,be 9 false] (.seq (aa [I 15 0,cE 16 86 15,cw 17 16,I 18 17,aq 18 false (aV 19 4 6),aq 18 false (cE 20 64 19),aq 18 false (cw 21 20),c6 22 18 21,I 23 22,b3 23 false 24 1,aq 23 false (cE 25 87 24),aq 23 false (cw 26 25),c6 27 23 26,I 28 27,b3 28 false 29 3,aq 28 false (aU 30 .neq 29 2),b3 28 false 31 30,b3 31 true 32 3,aq 31 true (aU 33 .neq 32 3),aq 28 false (dx 34 31 33),c6 35 28 34] (aS 35 (aa [eE 8 2,be 9 false] .ret) .skip)) (aa [I 37 0,aV 38 4 6,ca 39 69 37 38,I 36 39,cD 40 0 36,cD 41 1 36,dj 10 dP,bL 4 10 40,I 11 41] (.seq (aa [I 42 11,cw 43 42] (aS 43 (aa [eE 8 2,be 9 false] .ret) .skip)) (aa [c1 (.bslm 44 (some 803) 2 98 []),I 45 1,c1 (.appm 46 none 2 98 (.t 44) (.t 45)),c1 (.alloc 12 (some 804) (.slice 2 .nil [])),bL 1 12 46] (.seq (aa [aF 47 0 1 10,av 48 1 47,aU 49 .neq 48 1] (aS 49 (.seq (aa [aF 50 0 1 10,av 51 1 50,I 52 3,bm 53 .neq 51 52] (aS 53 (aa [eE 8 2,be 9 false] .ret) .skip)) (.seq (.pubB 12 (.region [av 54 1 12,I 8 54,be 9 true])) .ret)) .skip)) (.seq (aa [I 55 1,cl 56 55,bW 57 0] (ft 58 57 56 (.seq (.block 1 (aa [cu 59 2 55 57,aV 60 2 59,c1 (.alloc 14 none (.agg [.int .i64 0,.int .i64 0])),bL 2 14 60] (aa [aF 61 0 1 14,av 62 1 61,aF 63 1 1 10,av 64 1 63,bm 65 .eql 62 64] (aS 65 (.seq (aa [aF 66 1 1 14,av 67 1 66,I 68 3,bm 69 .neq 67 68] (aS 69 (aa [eE 8 2,be 9 false] .ret) .skip)) (.seq (.pubB 12 (.region [av 70 1 12,I 8 70,be 9 true])) .ret)) .skip)))) (.region [aU 71 .add 57 1,I 57 71])))) (aa [av 72 1 12,aF 73 1 1 10,av 74 1 73,I 75 3,b5 76 (.build [.int .i64 0,.int .i64 0] [(0,1,(.t 74)),(1,1,(.t 75))]),ek 77 2 98 [.t 76],c1 (.appm 78 none 2 98 (.t 72) (.t 77)),bL 1 12 78] (aa [av 79 1 12,b5 80 (.mkif 48 (.t 79)),b5 81 (.mkf 183 [.t 12]),ca 82 182 80 81] (.seq (.pubB 12 (.region [av 83 1 12,I 8 83,be 9 true])) .ret))))))))))
@[simp] def jN:List bs:=[.tmp 8,.tmp 9]
def DF:C:=(aa [cz 6 2,c1 (.box 7 (some 811) (.t 3)),eE 8 2,be 9 false] (.seq (aa [I 17 0,cE 18 86 17,cw 19 18,I 20 19,aq 20 false (aV 21 4 6),aq 20 false (cE 22 64 21),aq 20 false (cw 23 22),c6 24 20 23,I 25 24,b3 25 false 26 1,aq 25 false (cE 27 88 26),aq 25 false (cw 28 27),c6 29 25 28,I 30 29,aq 30 false (av 31 1 7),aq 30 false (cE 32 160 31),aq 30 false (cw 33 32),c6 34 30 33] (aS 34 (aa [eE 8 2,be 9 false] .ret) .skip)) (aa [I 36 0,aV 37 4 6,ca 38 69 36 37,I 35 38,cD 39 0 35,cD 40 1 35,dj 10 dP,bL 4 10 39,I 11 40] (.seq (aa [I 41 11,cw 42 41,I 43 42,aq 43 false (aV 44 4 10),aq 43 false (av 45 1 7),aq 43 false (ca 46 177 44 45),c6 47 43 46] (aS 47 (aa [eE 8 2,be 9 false] .ret) .skip)) (aa [c1 (.mkmap 48 (some 812)),c1 (.alloc 12 (some 813) (.junk)),bL 1 12 48] (.seq (aa [I 49 1,cl 50 49,bW 51 0] (ft 52 51 50 (.seq (.block 1 (aa [cu 53 2 49 51,aV 54 2 53,c1 (.alloc 14 none (.agg [.int .i64 0,.str []])),bL 2 14 54] (.region [av 55 1 12,aV 56 2 14,c1 (.mput (.a [false,true]) (.t 55) (.t 56) (.c (.bool true)))]))) (.region [aU 57 .add 51 1,I 51 57])))) (aa [aV 58 4 10,b5 59 (.mkf 184 [.t 12,.t 7]),ca 60 134 58 59] (aa [c1 (.bslm 61 (some 814) 2 100 []),c1 (.alloc 15 (some 815) (.slice 2 .nil [])),bL 1 15 61] (.seq (aa [av 62 1 12,c1 (.range 63 none (.t 62))] (.block 2 (.loop (aa [⟨none,.next 64 (.t 63)⟩,cD 65 0 64] (.seq (aS 65 .skip (.exit 2)) (.block 3 (aa [b5 66 (.ment (.t 63)),cD 67 0 66,c1 (.alloc 16 none (.agg [.int .i64 0,.str []])),bL 2 16 67] (.region [av 68 1 15,aV 69 2 16,ek 70 2 100 [.t 69],c1 (.appm 71 none 2 100 (.t 68) (.t 70)),bL 1 15 71])))))))) (aa [av 72 1 15,b5 73 (.mkif 49 (.t 72)),b5 74 (.mkf 185 [.t 15]),ca 75 182 73 74] (.seq (.pubB 15 (.region [av 76 1 15,I 8 76,be 9 true])) .ret)))))))))))
@[simp] def FT:List bs:=[.tmp 8,.tmp 9]
def DG:C:=(aa [cz 2 0,cz 3 1,be 4 false] (aa [aF 5 0 1 2,av 6 1 5,aF 7 0 1 3,av 8 1 7,bm 9 .lss 6 8,I 10 9,aq 10 false (aF 11 0 1 2),aq 10 false (av 12 1 11),aq 10 false (aF 13 0 1 3),aq 10 false (av 14 1 13),aq 10 false (bm 15 .eql 12 14),b3 10 false 16 15,aq 16 true (aF 17 1 1 2),aq 16 true (av 18 1 17),aq 16 true (aF 19 1 1 3),aq 16 true (av 20 1 19),aq 16 true (bm 21 .lss 18 20),aq 10 false (dx 22 16 21),c6 23 10 22,I 4 23] .ret))
@[simp] def aiO:List bs:=[.tmp 4]
def DJ:C:=(aa [cz 2 0,be 4 false] (.seq (aa [aF 5 0 1 2,av 6 1 5,aU 7 .eql 6 4] (aS 7 (aa [aF 8 3 1 2,av 9 1 8,jF 10 4 9 0,aV 11 4 10,I 12 1,ca 13 177 11 12,I 14 13,aq 14 false (aF 15 3 1 2),aq 14 false (av 16 1 15),aq 14 false (jF 17 4 16 1),aq 14 false (aV 18 4 17),b3 14 false 19 1,aq 14 false (ca 20 177 18 19),c6 21 14 20,I 4 21] .ret) .skip)) (aa [aF 22 0 1 2,av 23 1 22,aU 24 .eql 23 2,I 25 24,aq 25 true (aF 26 2 1 2),aq 25 true (av 27 1 26),b3 25 true 28 1,aq 25 true (bm 29 .eql 27 28),dx 30 25 29,I 4 30] .ret)))
@[simp] def FZ:List bs:=[.tmp 4]
def NA:C:=(aa [be 5 false] (.seq (.drawn true 17 [av 6 1 2,I 7 0,cu 8 2 6 7,aF 9 0 1 8,av 10 1 9,av 11 1 2,I 12 1,cu 13 2 11 12,aF 14 0 1 13,av 15 1 14,bm 16 .lss 10 15,I 5 16]) .ret))
@[simp] def UE:List bs:=[.tmp 5]
def Ny:C:=(.region [av 4 1 1,I 5 0,av 6 1 2,b5 7 (.build [.int .i64 0,.str []] [(0,1,(.t 5)),(1,1,(.t 6))]),c1 (.mput (.a [false,true]) (.t 4) (.t 7) (.c (.bool true)))])
@[simp] def UC:List bs:=[]
def Nz:C:=(aa [be 5 false] (.seq (.drawn true 15 [av 6 1 2,I 7 0,cu 8 2 6 7,aV 9 2 8,av 10 1 2,I 11 1,cu 12 2 10 11,aV 13 2 12,ca 14 161 9 13,I 5 14]) .ret))
@[simp] def UD:List bs:=[.tmp 5]
def sQ:List (Nat×dB):=[
 (3,⟨1,8,.int .i64,.int .i64 0⟩),
 (9,⟨1,16,.str,.str []⟩),
 (27,⟨1,24,.slice 30,.slice 4 .nil []⟩),
 (30,⟨4,56,.struct [(0,3),(1,3),(2,9),(3,27)],.agg [.int .i64 0,.int .i64 0,.str [],.slice 4 .nil []]⟩),
 (48,⟨1,24,.slice 98,.slice 2 .nil []⟩),
 (49,⟨1,24,.slice 100,.slice 2 .nil []⟩),
 (98,⟨2,16,.struct [(0,3),(1,3)],.agg [.int .i64 0,.int .i64 0]⟩),
 (100,⟨2,24,.struct [(0,3),(1,9)],.agg [.int .i64 0,.str []]⟩),
 (165,⟨1,8,.map 100 4,.junk⟩)]
theorem jP:fN al sQ=true:=by kernel_rfl
theorem agA:bY sQ ND UH 1 Tryz.f87=true:=by kernel_rfl
theorem aaa:al.funcs[(87:Nat)]? =some Tryz.f87:=Tryz.func87
theorem agB:bY sQ NF K4 1 Tryz.f88=true:=by kernel_rfl
theorem aab:al.funcs[(88:Nat)]? =some Tryz.f88:=Tryz.func88
theorem rz:bY sQ qc jN 4 Tryz.f118=true:=by kernel_rfl
theorem qU:al.funcs[(118:Nat)]? =some Tryz.f118:=Tryz.func118
theorem KF:bY sQ DF FT 4 Tryz.f120=true:=by kernel_rfl
theorem Ih:al.funcs[(120:Nat)]? =some Tryz.f120:=Tryz.func120
theorem KG:bY sQ DG aiO 2 Tryz.f161=true:=by kernel_rfl
theorem Ii:al.funcs[(161:Nat)]? =some Tryz.f161:=Tryz.func161
theorem KJ:bY sQ DJ FZ 2 Tryz.f177=true:=by kernel_rfl
theorem Il:al.funcs[(177:Nat)]? =some Tryz.f177:=Tryz.func177
theorem agx:bY sQ NA UE 3 Tryz.f183=true:=by kernel_rfl
theorem Z7:al.funcs[(183:Nat)]? =some Tryz.f183:=Tryz.func183
theorem agv:bY sQ Ny UC 3 Tryz.f184=true:=by kernel_rfl
theorem Z5:al.funcs[(184:Nat)]? =some Tryz.f184:=Tryz.func184
theorem agw:bY sQ Nz UD 3 Tryz.f185=true:=by kernel_rfl
theorem Z6:al.funcs[(185:Nat)]? =some Tryz.f185:=Tryz.func185
def lX(x:bK):Prop:=(0≤x.v∧x.v≤100000)∧(x.k=2∨x.k=3)
def mV(x y:bK):Prop:=x.v<y.v
theorem E9{l:List bK}:iU l↔∀i,i<l.length→h0 lX mV l i:=by rw[M0 (p:=lX) (r:=mV) (fun a b c J U=>by unfold mV at*;omega)];exact⟨fun h=>⟨h.at',h.asc⟩,fun h=>⟨h.1,h.2⟩⟩
def j0(x:bk):Prop:=(0≤x.v∧x.v≤100000)∧jw x.s=true
def kp(x y:bk):Prop:=e9 x y<0
theorem Fq{l:List bk}:hB l↔∀i,i<l.length→h0 j0 kp l i:=by rw[M0 (p:=j0) (r:=kp) (fun a b c J U=>by unfold kp at*;exact lz.ltr J (Int.le_of_lt U))];exact⟨fun h=>⟨h.at',h.asc⟩,fun h=>⟨h.1,h.2⟩⟩
open Classical in
theorem Wp(l:List bK):bH al 87 [.slice 2 .no (l.map bK.e)] (.bool (decide (iU l))):=by
 generalize bh:decide (iU l)=R;refine bf jP aaa agA fun aP=>?_;unfold ND;have eO:l.length≤68719476736:=by simp[eB,ec,et,lim]at aP;omega
 simp;refine dW [0,5,6] (fun i (_:Unit)=>[(7,.int .i64 i)]) l.length (fun i _=> ∀j,j<i→h0 lX mV l j) () b0 (fun k ad=>by omega) (fun _ af _=>?_) (fun i _ hi af _=>?_)
 ·have:R=true:=by rw[←bh,fH,E9];exact af
  rw[this];exact b2
 ·obtain⟨b,ae⟩:∃b,l[i]? =some b:=⟨_,cf hi⟩;obtain⟨c,ax⟩:∃c,l[i-1]? =some c:=⟨_,cf (by omega)⟩;have cK:∀h,(l[i]'h)=b:=fun h=>by rw[cf hi]at ae;exact fB ae
  have di:¬h0 lX mV l i→R=false:=fun h=>by rw[←bh,hE];exact fun cr=>h (E9.1 cr i hi)
  have dd:h0 lX mV l i→∀j,j<i+1→h0 lX mV l j:=fun h j jf=>by
   by_cases e:j=i
   ·rw[e];exact h
   ·exact af j (by omega)
  simp[hi,cK,ax];((with_reducible repeat' first|refine aj ?_|simp[cK,ax,hi]|((first|apply bP|apply bS|apply bR)<;>intro h<;>try simp at h))<;>(try exact cp));all_goals first
   |(have aA:¬h0 lX mV l i:=by(intro cr;have J:=cr b ae;have U:=J.2 c;have ao:=J.1;unfold lX mV at*;first|omega|(have a8:=U (by omega) ax;omega)|(simp_all;done)|(simp_all;omega))
     rw[di aA]
     simp[bt,UH,aX,aZ,aW]
     done)
   |(refine bN.rng () hi (dd fun bO fR=>?_) ?_
     ·rw[ae]at fR;cases fR
      refine⟨?_,fun cm bA hp=>?_⟩
      ·unfold lX;first|(simp_all;done)|(simp_all;omega)
      ·rw[ax]at hp;cases hp;unfold mV;simp_all
     ·exact b0)
theorem Av(a b:bk):bH al 161 [a.e,b.e] (.bool (hA e9 a b)):=by
 rw[←TT];have bh:sD a b=(decide (a.v<b.v)||(a.v==b.v&&hk a.s b.s)):=rfl;rcases Int.lt_trichotomy a.v b.v with h|h|h
 ·have:sD a b=true:=by rw[bh];simp[h]
  rw[this];refine bf jP Ii KG fun aP=>?_;unfold DG;exact b2
 ·have J:¬a.v<b.v:=by omega
  have U:(a.v==b.v)=true:=by simp[h]
  have:sD a b=hk a.s b.s:=by rw[bh];simp[h]
  rw[this];refine bf jP Ii KG fun aP=>?_;unfold DG;exact b2
 ·have J:¬a.v<b.v:=by omega
  have U:¬a.v=b.v:=by omega
  have ao:(a.v==b.v)=false:=by simp[U]
  have:sD a b=false:=by rw[bh];simp[J,U]
  rw[this];refine bf jP Ii KG fun aP=>?_;unfold DG;exact b2
end Go.Proofs.YtahlgcidhnjlbaaGreat
namespace Go.Proofs.YtahlgcidhnjlbaaGreat
open Go Go.Pv
open Classical in
theorem Wr(l:List bk):bH al 88 [.slice 2 .no (l.map bk.e)] (.bool (decide (hB l))):=by
 generalize bh:decide (hB l)=R;refine bf jP aab agB fun aP=>?_;unfold NF;have eO:l.length≤68719476736:=by simp[eB,ec,et,lim]at aP;omega
 simp;refine dW [0,5,6] (fun i (_:Unit)=>[(7,.int .i64 i)]) l.length (fun i _=> ∀j,j<i→h0 j0 kp l j) () b0 (fun k ad=>by omega) (fun _ af _=>?_) (fun i _ hi af _=>?_)
 ·have:R=true:=by rw[←bh,fH,Fq];exact af
  rw[this];exact b2
 ·obtain⟨b,ae⟩:∃b,l[i]? =some b:=⟨_,cf hi⟩;obtain⟨c,ax⟩:∃c,l[i-1]? =some c:=⟨_,cf (by omega)⟩;have cK:∀h,(l[i]'h)=b:=fun h=>by rw[cf hi]at ae;exact fB ae
  have di:¬h0 j0 kp l i→R=false:=fun h=>by rw[←bh,hE];exact fun cr=>h (Fq.1 cr i hi)
  have dd:h0 j0 kp l i→∀j,j<i+1→h0 j0 kp l j:=fun h j jf=>by
   by_cases e:j=i
   ·rw[e];exact h
   ·exact af j (by omega)
  have gr:∀p:Prop,(p→eQ)→(h0 j0 kp l i→p)→R=false:=fun p J U=>di fun h=>J (U h);have oV:h0 j0 kp l i→j0 b:=fun h=>(h b ae).1;have bC:h0 j0 kp l i→0<i→hA e9 c b=true:=fun h bA=>by simpa[hA,kp]using(h b ae).2 c bA ax
  have eW:j0 b→(0<i→hA e9 c b=true)→h0 j0 kp l i:=fun J U bO fR=>by rw[ae]at fR;cases fR;exact⟨J,fun cm bA hp=>by rw[ax]at hp;cases hp;simpa[hA,kp]using U bA⟩
  unfold j0 at oV eW;by_cases g1:b.v<0
  ·rw[gr _ (fun h=>by omega) (fun h=>(oV h).1.1)];exact b2
  by_cases g2:100000<b.v
  ·rw[gr _ (fun h=>by omega) (fun h=>(oV h).1.2)];exact b2
  cases g3:jw b.s
  ·rw[gr _ (fun h=>by rw[h]at g3;cases g3) (fun h=>(oV h).2)];simp[hi,cK,ax];(with_reducible repeat' first|refine aj ?_|refine aD (sR _) ?_|refine aE (sR _) ?_|simp[cK,ax,hi,g1,g2,g3]);simp[bt,K4,aX,aZ,aW]
  by_cases g4:0<i
  ·cases g5:hA e9 c b
   ·rw[gr _ (fun h=>by rw[h]at g5;cases g5) (fun h=>bC h g4)];simp[hi,cK,ax];(with_reducible repeat' first|refine aj ?_|refine aD (sR _) ?_|refine aE (sR _) ?_|refine aD (Av _ _) ?_|refine aE (Av _ _) ?_|simp[cK,ax,hi,g1,g2,g3,g4,g5]);simp[bt,K4,aX,aZ,aW]
   ·simp[hi,cK,ax];(with_reducible repeat' first|refine aj ?_|refine aD (sR _) ?_|refine aE (sR _) ?_|refine aD (Av _ _) ?_|refine aE (Av _ _) ?_|simp[cK,ax,hi,g1,g2,g3,g4,g5]);exact bN.rng () hi (dd (eW ⟨⟨by omega,by omega⟩,g3⟩ fun _=>g5)) b0
  ·obtain rfl:i=0:=by omega
   simp[hi,cK,ax];(with_reducible repeat' first|refine aj ?_|refine aD (sR _) ?_|refine aE (sR _) ?_|simp[cK,ax,hi,g1,g2,g3,g4]);exact bN.rng () hi (dd (eW ⟨⟨by omega,by omega⟩,g3⟩ fun h=>by omega)) b0
theorem alv(s:List dz):∀t:T,bH al 177 [t.e,.str s] (.bool (t.has s)):=by
 intro t;induction t with
 |pair a b dR dS=>
  refine bf jP Il KJ fun aP=>?_;unfold DJ;simp;cases bF:a.has s<;>cases ae:b.has s<;>rw[bF]at dR<;>rw[ae]at dS;all_goals(with_reducible repeat' first|refine aj ?_|refine aD dR ?_|refine aE dR ?_|refine aD dS ?_|refine aE dS ?_|simp)
  all_goals simp[bt,FZ,aX,aZ,aW]
  all_goals simp[T.has,bF,ae]
 |sym n=>
  refine bf jP Il KJ fun aP=>?_;unfold DJ;simp;(with_reducible repeat' first|refine aj ?_|simp);all_goals simp[bt,FZ,aX,aZ,aW]
  all_goals simp[T.has]
 |_=>
  refine bf jP Il KJ fun aP=>?_;unfold DJ;simp;(with_reducible repeat' first|refine aj ?_|simp);all_goals simp[bt,FZ,aX,aZ,aW]
  all_goals simp[T.has]
end Go.Proofs.YtahlgcidhnjlbaaGreat
namespace Go.Proofs.YtahlgcidhnjlbaaGreat
open Go Go.Pv
def OY:C:=(aa [cz 2 0] (aa [bW 4 20] (aa [I 8 4,bW 5 0,I 6 8] (.seq (.block 0 (.loop (.seq (aa [I 9 6,I 10 1,bm 11 .leq 9 10] (aS 11 .skip (.exit 0))) (.block 1 (aa [aV 12 2 2,I 13 5,I 14 6,dp 15 231 [.t 12,.t 13,.t 14]] (aa [I 16 6,I 5 16] (.region [I 17 6,I 18 4,bm 19 .add 17 18,I 6 19]))))))) (aa [aV 20 2 2,I 21 5,I 22 1,dp 23 231 [.t 20,.t 21,.t 22]] (.block 2 (.loop (.seq (aa [I 24 4,I 25 1,bm 26 .lss 24 25] (aS 26 .skip (.exit 2))) (.block 3 (aa [I 27 4,b5 28 (.bin .mul false (gd 2) (.t 27)),bW 5 0,I 6 28] (.seq (.block 4 (.loop (.seq (aa [I 29 6,I 30 1,bm 31 .leq 29 30] (aS 31 .skip (.exit 4))) (.block 5 (aa [aV 32 2 2,I 33 5,I 34 5,I 35 4,bm 36 .add 34 35,I 37 6,dp 38 232 [.t 32,.t 33,.t 36,.t 37]] (aa [I 39 6,I 5 39] (.region [I 40 6,I 41 4,b5 42 (.bin .mul false (gd 2) (.t 41)),bm 43 .add 40 42,I 6 43]))))))) (.seq (aa [I 44 5,I 45 4,bm 46 .add 44 45,I 7 46] (aa [I 47 7,I 48 1,bm 49 .lss 47 48] (aS 49 (.region [aV 50 2 2,I 51 5,I 52 7,I 53 1,dp 54 232 [.t 50,.t 51,.t 52,.t 53]]) .skip))) (.region [I 55 4,aU 56 .mul 55 2,I 4 56])))))))))))))
@[simp] def ajv:List bs:=[]
def HJ:C:=(aa [cz 3 0] (aa [I 8 1,aU 9 .add 8 1,I 6 9] (.block 0 (.loop (.seq (aa [I 10 6,I 11 2,bm 12 .lss 10 11] (aS 12 .skip (.exit 0))) (.seq (.block 1 (aa [I 15 6,I 7 15] (.block 2 (.loop (.seq (aa [I 16 7,I 17 1,bm 18 .gtr 16 17,I 19 18,aq 19 true (aF 20 0 1 3),aq 19 true (av 21 1 20),b3 19 true 22 7,b3 19 true 23 7,aq 19 true (aU 24 .sub 23 1),aq 19 true (gz 25 21 [.t 22,.t 24]),dx 26 19 25] (aS 26 .skip (.exit 2))) (.seq (.block 3 (.region [aF 29 1 1 3,av 30 1 29,I 31 7,I 32 7,aU 33 .sub 32 1,gz 34 30 [.t 31,.t 33]])) (.region [I 27 7,aU 28 .sub 27 1,I 7 28]))))))) (.region [I 13 6,aU 14 .add 13 1,I 6 14])))))))
@[simp] def ajr:List bs:=[]
def DO:C:=(aa [I 164 16,I 165 22,bm 166 .lss 164 165,I 167 166,b3 167 true 168 22,b3 167 true 169 3,aq 167 true (bm 170 .lss 168 169),dx 171 167 170] (aS 171 (.region [aV 172 2 4,I 173 16,I 174 22,I 175 3,dp 176 232 [.t 172,.t 173,.t 174,.t 175]]) .skip))
def DP:C:=(.seq (aa [I 151 1,I 152 18,bm 153 .lss 151 152,I 154 153,b3 154 true 155 18,b3 154 true 156 16,aq 154 true (bm 157 .lss 155 156),dx 158 154 157] (aS 158 (.region [aV 159 2 4,I 160 1,I 161 18,I 162 16,dp 163 232 [.t 159,.t 160,.t 161,.t 162]]) .skip)) DO)
def HN:C:=(.seq (aa [I 138 18,I 139 2,bm 140 .lss 138 139,I 141 140,b3 141 true 142 2,b3 141 true 143 22,aq 141 true (bm 144 .lss 142 143),dx 145 141 144] (aS 145 (.region [aV 146 2 4,I 147 18,I 148 2,I 149 22,dp 150 251 [.t 146,.t 147,.t 148,.t 149]]) .skip)) DP)
def HO:C:=(aa [I 113 17,aU 114 .sub 113 1,I 20 114] (.seq (.block 8 (.loop (.seq (aa [I 115 18,I 116 19,bm 117 .lss 115 116] (aS 117 .skip (.exit 8))) (.block 9 (aa [I 118 18,I 119 19,bm 120 .add 118 119,b5 121 (.conv .u64 (.t 120)),b5 122 (.bin .shr false (.t 121) (.c (.int .u64 1))),b5 123 (.conv .i64 (.t 122)),I 21 123] (aa [aF 124 0 1 4,av 125 1 124,I 126 20,I 127 21,bm 128 .sub 126 127,I 129 21,gz 130 125 [.t 128,.t 129],cw 131 130] (aS 131 (.region [I 132 21,aU 133 .add 132 1,I 18 133]) (.region [I 134 21,I 19 134])))))))) (aa [I 135 17,I 136 18,bm 137 .sub 135 136,I 22 137] HN)))
def O0:C:=(aa [cz 4 0] (.seq (aa [I 23 2,I 24 1,bm 25 .sub 23 24,aU 26 .eql 25 1] (aS 26 (aa [I 27 2,I 8 27] (aa [I 28 3,I 9 28] (.seq (.block 0 (.loop (.seq (aa [I 29 8,I 30 9,bm 31 .lss 29 30] (aS 31 .skip (.exit 0))) (.block 1 (aa [I 32 8,I 33 9,bm 34 .add 32 33,b5 35 (.conv .u64 (.t 34)),b5 36 (.bin .shr false (.t 35) (.c (.int .u64 1))),b5 37 (.conv .i64 (.t 36)),I 10 37] (aa [aF 38 0 1 4,av 39 1 38,I 40 10,I 41 1,gz 42 39 [.t 40,.t 41]] (aS 42 (.region [I 43 10,aU 44 .add 43 1,I 8 44]) (.region [I 45 10,I 9 45])))))))) (.seq (aa [I 46 1,I 11 46] (.block 2 (.loop (.seq (aa [I 47 11,I 48 8,aU 49 .sub 48 1,bm 50 .lss 47 49] (aS 50 .skip (.exit 2))) (.seq (.block 3 (.region [aF 53 1 1 4,av 54 1 53,I 55 11,I 56 11,aU 57 .add 56 1,gz 58 54 [.t 55,.t 57]])) (.region [I 51 11,aU 52 .add 51 1,I 11 52])))))) .ret)))) .skip)) (.seq (aa [I 59 3,I 60 2,bm 61 .sub 59 60,aU 62 .eql 61 1] (aS 62 (aa [I 63 1,I 12 63] (aa [I 64 2,I 13 64] (.seq (.block 4 (.loop (.seq (aa [I 65 12,I 66 13,bm 67 .lss 65 66] (aS 67 .skip (.exit 4))) (.block 5 (aa [I 68 12,I 69 13,bm 70 .add 68 69,b5 71 (.conv .u64 (.t 70)),b5 72 (.bin .shr false (.t 71) (.c (.int .u64 1))),b5 73 (.conv .i64 (.t 72)),I 14 73] (aa [aF 74 0 1 4,av 75 1 74,I 76 2,I 77 14,gz 78 75 [.t 76,.t 77],cw 79 78] (aS 79 (.region [I 80 14,aU 81 .add 80 1,I 12 81]) (.region [I 82 14,I 13 82])))))))) (.seq (aa [I 83 2,I 15 83] (.block 6 (.loop (.seq (aa [I 84 15,I 85 12,bm 86 .gtr 84 85] (aS 86 .skip (.exit 6))) (.seq (.block 7 (.region [aF 89 1 1 4,av 90 1 89,I 91 15,I 92 15,aU 93 .sub 92 1,gz 94 90 [.t 91,.t 93]])) (.region [I 87 15,aU 88 .sub 87 1,I 15 88])))))) .ret)))) .skip)) (aa [I 95 1,I 96 3,bm 97 .add 95 96,b5 98 (.conv .u64 (.t 97)),b5 99 (.bin .shr false (.t 98) (.c (.int .u64 1))),b5 100 (.conv .i64 (.t 99)),I 16 100] (aa [I 101 16,I 102 2,bm 103 .add 101 102,I 17 103] (aa [bW 18 0,bW 19 0] (.seq (aa [I 104 2,I 105 16,bm 106 .gtr 104 105] (aS 106 (aa [I 107 17,I 108 3,bm 109 .sub 107 108,I 18 109] (.region [I 110 16,I 19 110])) (aa [I 111 1,I 18 111] (.region [I 112 2,I 19 112])))) HO)))))))
@[simp] def ajw:List bs:=[]
def OW:C:=(aa [cz 4 0] (aa [I 10 2,I 11 1,bm 12 .sub 10 11,I 8 12] (aa [I 13 3,I 14 2,bm 15 .sub 13 14,I 9 15] (.seq (.block 0 (.loop (.seq (aa [I 16 8,I 17 9,bm 18 .neq 16 17] (aS 18 .skip (.exit 0))) (.block 1 (aa [I 19 8,I 20 9,bm 21 .gtr 19 20] (aS 21 (aa [aV 22 2 4,I 23 2,I 24 8,bm 25 .sub 23 24,I 26 2,I 27 9,dp 28 270 [.t 22,.t 25,.t 26,.t 27]] (.region [I 29 8,I 30 9,bm 31 .sub 29 30,I 8 31])) (aa [aV 32 2 4,I 33 2,I 34 8,bm 35 .sub 33 34,I 36 2,I 37 9,bm 38 .add 36 37,I 39 8,bm 40 .sub 38 39,I 41 8,dp 42 270 [.t 32,.t 35,.t 40,.t 41]] (.region [I 43 9,I 44 8,bm 45 .sub 43 44,I 9 45])))))))) (.region [aV 46 2 4,I 47 2,I 48 8,bm 49 .sub 47 48,I 50 2,I 51 8,dp 52 270 [.t 46,.t 49,.t 50,.t 51]])))))
@[simp] def ajt:List bs:=[]
def OZ:C:=(aa [cz 4 0] (aa [bW 8 0] (.block 0 (.loop (.seq (aa [I 9 8,I 10 3,bm 11 .lss 9 10] (aS 11 .skip (.exit 0))) (.seq (.block 1 (.region [aF 14 1 1 4,av 15 1 14,I 16 1,I 17 8,bm 18 .add 16 17,I 19 2,I 20 8,bm 21 .add 19 20,gz 22 15 [.t 18,.t 21]])) (.region [I 12 8,aU 13 .add 12 1,I 8 13])))))))
@[simp] def U9:List bs:=[]
def Ao:List (Nat×dB):=[
 (3,⟨1,8,.int .i64,.int .i64 0⟩),
 (143,⟨1,8,.other,.junk⟩),
 (181,⟨1,8,.other,.junk⟩),
 (185,⟨2,16,.struct [(0,143),(1,181)],.agg [.junk,.junk]⟩),
 (192,⟨1,8,.int .u64,.int .u64 0⟩)]
theorem Aq:fN al Ao=true:=by kernel_rfl
theorem ahP:bY Ao OY ajv 2 Tryz.f199=true:=by kernel_rfl
theorem abp:al.funcs[(199:Nat)]? =some Tryz.f199:=Tryz.func199
theorem Ug:bY Ao HJ ajr 3 Tryz.f231=true:=by kernel_rfl
theorem Qs:al.funcs[(231:Nat)]? =some Tryz.f231:=Tryz.func231
theorem ahR:bY Ao O0 ajw 4 Tryz.f232=true:=by kernel_rfl
theorem abr:al.funcs[(232:Nat)]? =some Tryz.f232:=Tryz.func232
theorem ahN:bY Ao OW ajt 4 Tryz.f251=true:=by kernel_rfl
theorem abn:al.funcs[(251:Nat)]? =some Tryz.f251:=Tryz.func251
theorem ahQ:bY Ao OZ U9 4 Tryz.f270=true:=by kernel_rfl
theorem abq:al.funcs[(270:Nat)]? =some Tryz.f270:=Tryz.func270
end Go.Proofs.YtahlgcidhnjlbaaGreat
namespace Go.Proofs.YtahlgcidhnjlbaaGreat
open Go Go.Pv
structure e0 {α:Type} (S:List α→cJ) (n:Nat) (g b7:Nat) (lc b1:List ah) (lt:α→α→Bool):Prop where
 ok:∀l,eo (S l)
 same:∀l a1,l.length=n→a1.length=n→Same (S l) (S a1)
 klc:∀l,l.length=n→aK (inObs (S l)) lc
 ksc:∀l,l.length=n→aK (inObs (S l)) b1
 slc:cY lc=lc
 ssc:cY b1=b1
 le:n≤68719476736
 less:∀l,l.length=n→∀(i j:Nat) x y,l[i]? =some x→l[j]? =some y→bQ al g (.int .i64 i:: .int .i64 j::lc) (S l) fun r ai=>r= .bool (lt x y)∧ai=S l
 swap:∀l,l.length=n→2≤n→∀i j:Nat,i<n→j<n→bQ al b7 (.int .i64 i:: .int .i64 j::b1) (S l) fun r ai=>r= .tuple []∧ai=S (gW l i j)
variable {α:Type} {S:List α→cJ} {n g b7:Nat} {lc b1:List ah} {lt:α→α→Bool}
def eS(g b7:Nat)(lc b1:List ah):ah:= .agg [.func g lc,.func b7 b1]
theorem IM(H:e0 S n g b7 lc b1 lt)(l:List α)(au:l.length=n)(a b c:Nat)(anW:a+c≤b)(Rj:b+c≤n):
  bQ al 270 [eS g b7 lc b1,.int .i64 a,.int .i64 b,.int .i64 c] (S l) fun r ai=>r= .tuple []∧∃a1,ai=S a1∧gl a (b+c) l a1∧∀k,a1[k]? =l[rI a b c k]?:=by
 have ag:=H.ok l;have aA:∀l m,Pv.look (.loc m) (S l).b=none:=fun l=>(H.ok l).obj.1;have hu:∀l m cs,cx (.loc m) cs (S l).b=(S l).b++[(.loc m,cs)]:=fun l m cs=>jR (aA l m);have aw:∀m,aH.loc m∉cS (S l):=jM ag.obj;have hle:=H.le;refine bQ.mk mixed Aq abq ahQ (by simp) ag.obj fun aP cQ=>?_;unfold OZ;simp[eS,hu,aw,cI,aA,H.slc,H.ssc];refine hQ (fun i (lk:List α)=>⟨[(1,.int .i64 a),(2,.int .i64 b),(3,.int .i64 c),(4,.ptr (.loc 0) 0),(8,.int .i64 i)],[(.loc 0,[.func g lc,.func b7 b1])]++(S lk).b,(S lk).e,1,cS (S l)⟩) c (fun i lk=>lk.length=n∧gl a (b+c) l lk∧∀k,lk[k]? =l[rI a b i k]?) l
  (iy.obL ag (Same.refl _) (by simp[aC]) (by simp[cI,aA,aC,aK,zF (H.klc l au),zF (H.ksc l au)]) aR aR) ⟨au,.refl _,fun k=>by simp[rI];split<;>(try split)<;>(try rfl)<;>(exfalso;omega)⟩ ?_ ?_
 ·rintro lk ⟨J,U,ao⟩ _;simp;refine cR.at (S lk) (.inr rfl) (H.ok lk) (H.same _ _ au J) aR aR ?_;simp[cX,U9,aX,aZ,aW];exact⟨lk,rfl,U,ao⟩
 ·rintro i lk hi ⟨J,U,ao⟩ _;have ak:((a:Int)+i)=(a+i:Nat):=by omega
  have aB:((b:Int)+i)=(b+i:Nat):=by omega
  simp[hi,cI,aA,H.ssc];(with_reducible repeat' first|refine aj ?_|simp);rw[ak,aB];refine c7.ob (H.swap lk J (by omega) (a+i) (b+i) (by omega) (by omega)) (H.ok lk) aR aR (by simp[H.ksc lk J]) ?_;rintro r ai ⟨rfl,rfl⟩;refine⟨H.same _ _ J (by simp[J]),?_⟩;simp[gN,im,cv,aA];(with_reducible repeat' first|refine aj ?_|simp);refine bN.rng (gW lk (a+i) (b+i)) hi ⟨by simp[J],.step U (by omega) (by omega) (by omega) (by omega) (by omega) (by omega),fun k=>?_⟩ (iy.obL (L:=[(.loc 0,[.func g lc,.func b7 b1])]) (H.ok _) (H.same _ _ au (by simp[J])) (by simp[aC]) (by simp[cI,aA,aC,aK,zF (H.klc (gW lk (a+i) (b+i)) (by simp[J])),zF (H.ksc (gW lk (a+i) (b+i)) (by simp[J]))]) aR aR);rw[zw _ _ _ _ (by omega) (by omega),ao,ao,ao];have:rI a b (i+1) k=if k=a+i then rI a b i (b+i)else if k=b+i then rI a b i (a+i)else rI a b i k:=by
   simp only[rI];repeat' split
   all_goals omega
  rw[this];split
  ·rfl
  ·split<;>rfl
section
variable (H:e0 S n g b7 lc b1 lt)
include H
theorem e0.loc{l:List α}(m:Nat):Pv.look (.loc m) (S l).b=none:=(H.ok l).obj.1 m
theorem e0.weak{l lk:List α}(au:l.length=n)(ad:lk.length=n){st:bq}{dJ:List (Nat×ah)}(aN:∀x∈dJ,Pv.get x.1 st.t=x.2∧aC (lZ (S lk) 1) x.2)(bA:Pv.look (.loc 0) st.b=some [.func g lc,.func b7 b1])
  (ae:∀k cs,Pv.look k (S lk).b=some cs→Pv.look k st.b=some cs) (he:∀k o,Pv.look k (S lk).e=some o→Pv.look k st.e=some o):
  iy (cS (S l)) st ⟨dJ,(.loc 0,[.func g lc,.func b7 b1])::(S lk).b,(S lk).e,1,cS (S l)⟩:=
 iy.obL (L:=[(.loc 0,[.func g lc,.func b7 b1])]) (H.ok _) (H.same _ _ au ad) aN (by simp[bA,aC,aK,zF (H.klc lk ad),zF (H.ksc lk ad)]) ae he
theorem e0.weakC{l lk:List α}(au:l.length=n)(ad:lk.length=n){t dJ:List (Nat×ah)}{q:Nat}{o:List aH}(aN:∀x∈dJ,Pv.get x.1 t=x.2∧aC (lZ (S lk) 1) x.2):
  iy (cS (S l)) ⟨t,(.loc 0,[.func g lc,.func b7 b1])::(S lk).b,(S lk).e,q,o⟩ ⟨dJ,(.loc 0,[.func g lc,.func b7 b1])::(S lk).b,(S lk).e,1,cS (S l)⟩:=
 H.weak au ad aN (by simp[Pv.look]) (fun k cs ab=>by
  cases k with
  |loc m=>rw[H.loc m]at ab;cases ab
  |obj m=>simpa[Pv.look]using ab) (fun _ _ ab=>ab)
theorem e0.call{lk:List α}(J:lk.length=n){f:Nat}{args:List ah}{R:ah→List α→Prop}(aI:bQ al f args (S lk) fun r ai=> ∃a1,ai=S a1∧R r a1)(bh:∀r a1,R r a1→a1.length=n)(ad:aK (inObs (S lk)) args){t:List (Nat×ah)}{D:List ah}{o:List aH}{d:aY Nat}{K:bq→Prop}
  (h:∀r a1,R r a1→K ⟨eK d r t,(.loc 0,D)::(S a1).b,(S a1).e,1,o++cS (S a1)⟩):c7 al f args ⟨t,(.loc 0,D)::(S lk).b,(S lk).e,1,o⟩ d K:=by
 refine c7.ob aI (H.ok lk) (fun k cs ab=>?_) (fun _ _ ab=>ab) ad ?_
 ·cases k with
  |loc m=>rw[H.loc m]at ab;cases ab
  |obj m=>simpa[Pv.look]using ab
 ·rintro r ai ⟨a1,rfl,aL⟩;refine⟨H.same _ _ J (bh _ _ aL),?_⟩;have ak:cv (S lk).b ((.loc 0,D)::(S lk).b)=[(.loc 0,D)]:=by have:=im (S lk).b [(aH.loc 0,D)] (S lk).b;rw[gN]at this;simpa[cv,H.loc]using this
  have aB:cv (S lk).e (S lk).e=[]:=gN _;have:=h _ _ aL;simp only[ak,aB];exact this
theorem e0.doSwap{lk:List α}(J:lk.length=n)(i j:Nat)(hi:i<n)(af:j<n)(U:2≤n){t:List (Nat×ah)}{D:List ah}{o:List aH}{d:aY Nat}{K:bq→Prop}
  (h:K ⟨eK d (.tuple []) t,(.loc 0,D)::(S (gW lk i j)).b,(S (gW lk i j)).e,1,o++cS (S (gW lk i j))⟩):c7 al b7 (.int .i64 i:: .int .i64 j::b1) ⟨t,(.loc 0,D)::(S lk).b,(S lk).e,1,o⟩ d K:=
 H.call J (R:=fun r a1=>r= .tuple []∧a1=gW lk i j) ((H.swap lk J U i j hi af).mono fun r ai ⟨ak,aB⟩=>⟨_,aB,ak,rfl⟩) (fun r a1 ⟨_,e⟩=>by rw[e];simp[J]) (by simp[aC,aK,H.ksc lk J]) (by rintro r a1 ⟨rfl,rfl⟩;exact h)
theorem e0.doLess{lk:List α}(J:lk.length=n)(i j:Nat){x y:α}(hi:lk[i]? =some x)(af:lk[j]? =some y){t:List (Nat×ah)}{D:List ah}{o:List aH}{d:aY Nat}{K:bq→Prop}
  (h:K ⟨eK d (.bool (lt x y)) t,(.loc 0,D)::(S lk).b,(S lk).e,1,o++cS (S lk)⟩):c7 al g (.int .i64 i:: .int .i64 j::lc) ⟨t,(.loc 0,D)::(S lk).b,(S lk).e,1,o⟩ d K:=
 H.call J (R:=fun r a1=>r= .bool (lt x y)∧a1=lk) ((H.less lk J i j x y hi af).mono fun r ai ⟨ak,aB⟩=>⟨_,aB,ak,rfl⟩) (fun r a1 ⟨_,e⟩=>by rw[e];exact J) (by simp[aC,aK,H.klc lk J]) (by rintro r a1 ⟨rfl,rfl⟩;exact h)
theorem e0.doFn{lk:List α}(J:lk.length=n){f:Nat}{args:List ah}{R:List α→Prop}(aI:bQ al f args (S lk) fun r ai=>r= .tuple []∧∃a1,ai=S a1∧R a1)(bh:∀a1,R a1→a1.length=n)(ad:aK (inObs (S lk)) args){t:List (Nat×ah)}{D:List ah}{o:List aH}{d:aY Nat}{K:bq→Prop}
  (h:∀a1,R a1→K ⟨eK d (.tuple []) t,(.loc 0,D)::(S a1).b,(S a1).e,1,o++cS (S a1)⟩):c7 al f args ⟨t,(.loc 0,D)::(S lk).b,(S lk).e,1,o⟩ d K:=
 H.call J (R:=fun r a1=>r= .tuple []∧R a1) (aI.mono fun r ai ⟨ak,a1,aB,bj⟩=>⟨a1,aB,ak,bj⟩) (fun r a1 h=>bh a1 h.2) ad (by rintro r a1 ⟨rfl,aL⟩;exact h a1 aL)
theorem e0.kdata{lk:List α}(J:lk.length=n):aC (inObs (S lk)) (eS g b7 lc b1):=by simp[eS,aC,aK,H.klc lk J,H.ksc lk J]
theorem e0.ret{l lk:List α}(au:l.length=n)(J:lk.length=n){Q:ah→cJ→Prop}{e:Exit}(he:e= .ret∨e= .normal){t:List (Nat×ah)}{D:List ah}{q:Nat}{o:List aH}(bo:Q (.tuple []) (S lk)):cR [] (S l) Q e ⟨t,(.loc 0,D)::(S lk).b,(S lk).e,q,o⟩:=by
 refine cR.at (S lk) he (H.ok lk) (H.same _ _ au J) (fun k cs ab=>?_) (fun _ _ ab=>ab) ?_
 ·cases k with
  |loc m=>rw[H.loc m]at ab;cases ab
  |obj m=>simpa[Pv.look]using ab
 ·simp[cX,aX,aW,aC,aK,bo]
end
theorem h6(H:e0 S n g b7 lc b1 lt):ds (eS g b7 lc b1)=eS g b7 lc b1:=by simp[eS,ds,cY,H.slc,H.ssc]
theorem h1:ah.agg [.func g lc,.func b7 b1]=eS g b7 lc b1:=rfl
theorem acH(H:e0 S n g b7 lc b1 lt)(l:List α)(au:l.length=n)(a m b:Nat)(Bq:a<m)(vb:m<b)(ae:b≤n):
  bQ al 251 [eS g b7 lc b1,.int .i64 a,.int .i64 m,.int .i64 b] (S l) fun r ai=>r= .tuple []∧∃a1,ai=S a1∧gl a b l a1∧∀k,a1[k]? =l[hO a m b k]?:=by
 have ag:=H.ok l;have aA:∀l m,Pv.look (.loc m) (S l).b=none:=fun l=>(H.ok l).obj.1;have hu:∀l m cs,cx (.loc m) cs (S l).b=(S l).b++[(.loc m,cs)]:=fun l m cs=>jR (aA l m);have aw:∀m,aH.loc m∉cS (S l):=jM ag.obj;have hle:=H.le;refine bQ.mk mixed Aq abn ahN (by simp) ag.obj fun aP cQ=>?_;unfold OW;simp[eS,hu,aw,cI,aA];(with_reducible repeat' first|refine aj ?_|simp[hu,aw,cI,aA]);refine nW (fun(x:(Nat×Nat)×List α)=>⟨[(2,.int .i64 m),(4,.ptr (.loc 0) 0),(8,.int .i64 x.1.1),(9,.int .i64 x.1.2)],(.loc 0,[.func g lc,.func b7 b1])::(S x.2).b,(S x.2).e,1,cS (S l)⟩) (fun x=>x.1.1+x.1.2)
  (fun x=>x.2.length=n∧0<x.1.1∧0<x.1.2∧a+x.1.1≤m∧m+x.1.2≤b∧gl a b l x.2∧∀k,l[hO a m b k]? =x.2[hO (m-x.1.1) m (m+x.1.2) k]?) ((m-a,b-m),l)
  (H.weak au au (by simp[aC];omega) (by simp[cI,aA]) aR aR) ⟨au,by simp;omega,by simp;omega,by simp;omega,by simp;omega,.refl _,fun k=>by simp[show m-(m-a)=a by omega,show m+(b-m)=b by omega]⟩ ?_
 rintro⟨⟨i,j⟩,lk⟩ ⟨J,hi,af,gh,EB,U,ao⟩ _;simp only at J hi af gh EB U ao;simp[Pv.look];((with_reducible repeat' first|refine aj ?_|simp[Pv.look]|((first|apply bP|apply bS|apply bR)<;>intro h<;>try simp at h))<;>(try exact cp))
 ·have ak:((m:Int)-i)=(m-i:Nat):=by omega
  simp only[h6 H,H.slc,H.ssc,ak,h1];refine H.doFn J (IM H lk J (m-i) m j (by omega) (by omega)) (fun a1 h=>by rw[h.1.length];exact J) (by simp[aK,aC,H.kdata J]) ?_;rintro a1 ⟨a6,bu⟩;have bV:a1.length=n:=by rw[a6.length];exact J
  simp;((with_reducible repeat' first|refine aj ?_|simp|((first|apply bP|apply bS|apply bR)<;>intro h<;>try simp at h))<;>(try exact cp));refine bN.whl ((i-j,j),a1) (by simp;omega) ⟨bV,by simp;omega,af,by simp;omega,EB,U.trans (a6.mono (by omega) (by omega)),fun k=>?_⟩ (H.weakC au bV (by simp[aC];omega));rw[ao,bu];congr 1;simp only[hO,rI];repeat' split
  all_goals omega
 ·have ak:((m:Int)-i)=(m-i:Nat):=by omega
  have aB:((m:Int)+j-i)=(m+j-i:Nat):=by omega
  simp only[h6 H,H.slc,H.ssc,ak,aB,h1];refine H.doFn J (IM H lk J (m-i) (m+j-i) i (by omega) (by omega)) (fun a1 h=>by rw[h.1.length];exact J) (by simp[aK,aC,H.kdata J]) ?_;rintro a1 ⟨a6,bu⟩;have bV:a1.length=n:=by rw[a6.length];exact J
  simp;(with_reducible repeat' first|refine aj ?_|simp);refine bN.whl ((i,j-i),a1) (by simp;omega) ⟨bV,hi,by simp;omega,gh,by simp;omega,U.trans (a6.mono (by omega) (by omega)),fun k=>?_⟩ (H.weakC au bV (by simp[aC];omega));rw[ao,bu];congr 1;simp only[hO,rI];repeat' split
  all_goals omega
 ·have ak:((m:Int)-i)=(m-i:Nat):=by omega
  simp only[h6 H,H.slc,H.ssc,ak,h1];refine H.doFn J (IM H lk J (m-i) m i (by omega) (by omega)) (fun a1 h=>by rw[h.1.length];exact J) (by simp[aK,aC,H.kdata J]) ?_;rintro a1 ⟨a6,bu⟩;have bV:a1.length=n:=by rw[a6.length];exact J
  simp;refine H.ret au bV (.inr rfl) ⟨rfl,a1,rfl,U.trans (a6.mono (by omega) (by omega)),fun k=>?_⟩;rw[ao,bu];congr 1;simp only[hO,rI];repeat' split
  all_goals omega
end Go.Proofs.YtahlgcidhnjlbaaGreat
namespace Go.Proofs.YtahlgcidhnjlbaaGreat
open Go Go.Pv
variable {α:Type} {S:List α→cJ} {n g b7:Nat} {lc b1:List ah} {lt:α→α→Bool}
def s9(lt:α→α→Bool)(a b j:Nat)(l:List α):Prop:= ∀p q x y,a≤p→p<q→q<b→q≠j→l[p]? =some x→l[q]? =some y→lt y x=false
theorem s9.swap(bC:p6 lt){a b j:Nat}{l:List α}(h:s9 lt a b (j+1) l)(Ri:a≤j)(EB:j+1<b)(af:j+1<l.length){x y:α}(ab:l[j+1]? =some x)(aG:l[j]? =some y)(hJ:lt x y=true):s9 lt a b j (gW l (j+1) j):=by
 intro p q u v bJ kk bo aob hu aJ;rw[zw _ _ _ _ af (by omega)]at hu aJ;rw[if_neg (by omega:¬(q=j))]at aJ;split at aJ
 ·rename_i e;subst e;rw[aG]at aJ;cases aJ;split at hu
  ·omega
  ·split at hu
   ·rw[ab]at hu;cases hu;exact bC.asym _ _ hJ
   ·exact h p j u y bJ (by omega) (by omega) (by omega) hu aG
 ·split at hu
  ·rename_i e;subst e;rw[aG]at hu;cases hu;exact h j q y v Ri (by omega) bo (by omega) aG aJ
  ·split at hu
   ·rename_i e;subst e;rw[ab]at hu;cases hu;exact h (p+1) q x v (by omega) (by omega) bo (by omega) ab aJ
   ·exact h p q u v bJ kk bo (by omega) hu aJ
theorem s9.done(bC:p6 lt){a b j:Nat}{l:List α}(h:s9 lt a b (j+1) l)(Ri:a≤j)(EB:j+1<b){x y:α}(ab:l[j+1]? =some x)(aG:l[j]? =some y)(hJ:lt x y=false):e7 lt a b l:=by
 intro p q u v bJ kk bo hu aJ;by_cases e:q=j+1
 ·subst e;rw[ab]at aJ;cases aJ;by_cases aB:p=j
  ·subst aB;rw[aG]at hu;cases hu;exact hJ
  ·exact bC.ntr _ _ _ (h p j u y bJ (by omega) (by omega) (by omega) hu aG) hJ
 ·exact h p q u v bJ kk bo e hu aJ
theorem s9.first{a b:Nat}{l:List α}(h:s9 lt a b a l):e7 lt a b l:=fun p q u v bJ kk bo hu aJ=>h p q u v bJ kk bo (by omega) hu aJ
theorem e7.but{a b:Nat}{l:List α}(h:e7 lt a b l):s9 lt a (b+1) b l:=fun p q u v bJ kk bo Jr hu aJ=>h p q u v bJ kk (by omega) hu aJ
theorem QT(H:e0 S n g b7 lc b1 lt)(bC:p6 lt)(l:List α)(au:l.length=n)(a b:Nat)(mN:a≤b)(ae:b≤n):
  bQ al 231 [eS g b7 lc b1,.int .i64 a,.int .i64 b] (S l) fun r ai=>r= .tuple []∧∃a1,ai=S a1∧gl a b l a1∧e7 lt a b a1:=by
 have ag:=H.ok l;have aA:∀l m,Pv.look (.loc m) (S l).b=none:=fun l=>(H.ok l).obj.1;have hu:∀l m cs,cx (.loc m) cs (S l).b=(S l).b++[(.loc m,cs)]:=fun l m cs=>jR (aA l m);have aw:∀m,aH.loc m∉cS (S l):=jM ag.obj;have hle:=H.le;refine bQ.mk mixed Aq Qs Ug (by simp) ag.obj fun aP cQ=>?_;unfold HJ;simp[eS,hu,aw,cI,aA];(with_reducible repeat' first|refine aj ?_|simp[hu,aw,cI,aA]);refine nW (fun(x:Nat×List α)=>⟨[(1,.int .i64 a),(2,.int .i64 b),(3,.ptr (.loc 0) 0),(6,.int .i64 x.1)],(.loc 0,[.func g lc,.func b7 b1])::(S x.2).b,(S x.2).e,1,cS (S l)⟩) (fun x=>b+1-x.1)
  (fun x=>x.2.length=n∧a<x.1∧x.1≤b+1∧(x.1≤b∨x.1=a+1)∧gl a b l x.2∧e7 lt a x.1 x.2) (a+1,l)
  (H.weak au au (by simp[aC]) (by simp[cI,aA]) aR aR) ⟨au,by simp,by simp;omega,.inr rfl,.refl _,fun i j x y J U ao=>by simp at ao;omega⟩ ?_
 rintro⟨i,lk⟩ ⟨J,mO,yZ,sk,U,ao⟩ _;simp only at J mO yZ sk U ao;simp;((with_reducible repeat' first|refine aj ?_|simp|((first|apply bP|apply bS|apply bR)<;>intro h<;>try simp at h))<;>(try exact cp))
 ·refine nW (fun(x:Nat×List α)=>⟨[(1,.int .i64 a),(2,.int .i64 b),(3,.ptr (.loc 0) 0),(6,.int .i64 i),(7,.int .i64 x.1)],(.loc 0,[.func g lc,.func b7 b1])::(S x.2).b,(S x.2).e,1,cS (S l)⟩) (fun x=>x.1)
   (fun x=>x.2.length=n∧a≤x.1∧x.1≤i∧gl a b l x.2∧s9 lt a (i+1) x.1 x.2) (i,lk)
   (H.weakC au J (by simp[aC])) ⟨J,by simp;omega,by simp,U,e7.but ao⟩ ?_
  rintro⟨j,Cd⟩ ⟨aT,afj,afy,bz,b6⟩ _;simp only at aT afj afy bz b6;simp[Pv.look];((with_reducible repeat' first|refine aj ?_|simp[Pv.look]|((first|apply bP|apply bS|apply bR)<;>intro h<;>try simp at h))<;>(try exact cp))
  ·obtain⟨dA,rfl⟩:∃dA,j=dA+1:=⟨j-1,by omega⟩;obtain⟨x,ab⟩:∃x,Cd[dA+1]? =some x:=⟨_,cf (by omega)⟩;obtain⟨y,aG⟩:∃y,Cd[dA]? =some y:=⟨_,cf (by omega)⟩;have ak:(((dA+1:Nat):Int)-1)=(dA:Nat):=by omega
   rw[H.slc,ak];refine H.doLess aT (dA+1) dA ab aG ?_;simp;cases hJ:lt x y with
   |true=>
    simp[Pv.look];(with_reducible repeat' first|refine aj ?_|simp[Pv.look]);have bj:((dA:Int)+1)=(dA+1:Nat):=by omega
    rw[H.ssc,bj];refine H.doSwap aT (dA+1) dA (by omega) (by omega) (by omega) ?_;simp;(with_reducible repeat' first|refine aj ?_|simp);refine bN.whl (dA,gW Cd (dA+1) dA) (by simp) ⟨by simp[aT],by simp;omega,by simp;omega,.step bz (by omega) (by omega) (by omega) (by omega) (by omega) (by omega),b6.swap bC (by omega) (by omega) (by omega) ab aG hJ⟩ (H.weakC au (by simp[aT]) (by simp[aC]))
   |false=>simp;((with_reducible repeat' first|refine aj ?_|simp|((first|apply bP|apply bS|apply bR)<;>intro h<;>try simp at h))<;>(try exact cp));refine bN.whl (i+1,Cd) (by simp;omega) ⟨aT,by simp;omega,by simp;omega,by simp;omega,bz,b6.done bC (by omega) (by omega) ab aG hJ⟩ (H.weakC au aT (by simp[aC]))
  ·obtain rfl:j=a:=by omega
   refine bN.whl (i+1,Cd) (by simp;omega) ⟨aT,by simp;omega,by simp;omega,by simp;omega,bz,b6.first⟩ (H.weakC au aT (by simp[aC]))
 ·refine H.ret au J (.inr rfl) ⟨rfl,lk,rfl,U,fun p q x y bJ kk bo=>ao p q x y bJ kk (by omega)⟩
end Go.Proofs.YtahlgcidhnjlbaaGreat
namespace Go.Proofs.YtahlgcidhnjlbaaGreat
open Go Go.Pv
variable {α:Type} [Inhabited α] {S:List α→cJ} {n g b7:Nat} {lc b1:List ah} {lt:α→α→Bool}
theorem yl{d:Array α}{i:Nat}(h:i<d.size):d.toList[i]? =some d[i]!:=by simp[getElem!_pos,h]
theorem Fp(d:Array α){i j:Nat}(hi:i<d.size)(af:j<d.size):gW d.toList i j=(Sort.swp d i j).toList:=by simp[gW,Sort.swp,yl hi,yl af]
section
variable (H:e0 S n g b7 lc b1 lt)
include H
theorem e0.swapA{d:Array α}(J:d.size=n)(U:2≤n)(i j:Nat)(hi:i<n)(af:j<n){t:List (Nat×ah)}{D:List ah}{o:List aH}{b8:aY Nat}{K:bq→Prop}
  (h:∀o,K ⟨eK b8 (.tuple []) t,(.loc 0,D)::(S (Sort.swp d i j).toList).b,(S (Sort.swp d i j).toList).e,1,o⟩):c7 al b7 (.int .i64 i:: .int .i64 j::b1) ⟨t,(.loc 0,D)::(S d.toList).b,(S d.toList).e,1,o⟩ b8 K:=by
 refine H.doSwap (by simpa using J) i j hi af U ?_;rw[Fp d (by omega) (by omega)];exact h _
theorem e0.lessA{d:Array α}(J:d.size=n)(i j:Nat)(hi:i<n)(af:j<n){t:List (Nat×ah)}{D:List ah}{o:List aH}{b8:aY Nat}{K:bq→Prop}
  (h:∀o,K ⟨eK b8 (.bool (lt d[i]! d[j]!)) t,(.loc 0,D)::(S d.toList).b,(S d.toList).e,1,o⟩):c7 al g (.int .i64 i:: .int .i64 j::lc) ⟨t,(.loc 0,D)::(S d.toList).b,(S d.toList).e,1,o⟩ b8 K:=
 H.doLess (by simpa using J) i j (yl (by omega)) (yl (by omega)) (h _)
theorem e0.fnA{d d2:Array α}(J:d.size=n)(U:d2.size=n){f:Nat}{args:List ah}{r:ah}(aI:bQ al f args (S d.toList) fun eF ai=>eF=r∧ai=S d2.toList)(ad:aK (inObs (S d.toList)) args){t:List (Nat×ah)}{D:List ah}{o:List aH}{b8:aY Nat}{K:bq→Prop}
  (h:∀o,K ⟨eK b8 r t,(.loc 0,D)::(S d2.toList).b,(S d2.toList).e,1,o⟩):c7 al f args ⟨t,(.loc 0,D)::(S d.toList).b,(S d.toList).e,1,o⟩ b8 K:=
 H.call (by simpa using J) (R:=fun eF a1=>eF=r∧a1=d2.toList) (aI.mono fun r ai ⟨ak,aB⟩=>⟨_,aB,ak,rfl⟩) (fun r a1 ⟨_,e⟩=>by rw[e];simpa using U) ad (by rintro eF a1 ⟨rfl,rfl⟩;exact h _)
end
section
variable (H:e0 S n g b7 lc b1 lt)
include H
theorem e0.loopA{β:Type}{xu:List α}(au:xu.length=n){t:List (Nat×ah)}{b:List (aH×List ah)}{e:List (aH×fM)}{q:Nat}{o:List aH}(b9:List Nat)(cs:β→List (Nat×ah))(A:β→Array α)(mA:β→Nat)(gG:β→Prop)(a0:β)(bg:(A a0).size=n)(bA:gG a0)
  (u0:Pv.look (.loc 0) b=some [.func g lc,.func b7 b1]) (ae:∀k cs,Pv.look k (S (A a0).toList).b=some cs→Pv.look k b=some cs) (he:∀k o,Pv.look k (S (A a0).toList).e=some o→Pv.look k e=some o)
  (aN:∀x∈tL t b9++cs a0,Pv.get x.1 t=x.2∧aC (lZ (S (A a0).toList) 1) x.2) {c:C} {Q:Exit→bq→Prop}
  (ag:∀a,gG a→cU al (cS (S xu)) c (bN (cS (S xu)) (AB (fun a=>⟨tL t b9++cs a,(.loc 0,[.func g lc,.func b7 b1])::(S (A a).toList).b,(S (A a).toList).e,1,cS (S xu)⟩) mA gG) (mA a) Q) ⟨tL t b9++cs a,(.loc 0,[.func g lc,.func b7 b1])::(S (A a).toList).b,(S (A a).toList).e,1,cS (S xu)⟩):
  cU al (cS (S xu)) (.loop c) Q ⟨t,b,e,q,o⟩:=
 nW (fun a=>⟨tL t b9++cs a,(.loc 0,[.func g lc,.func b7 b1])::(S (A a).toList).b,(S (A a).toList).e,1,cS (S xu)⟩) mA gG a0 (H.weak au (by simpa using bg) aN u0 ae he) bA fun a af _=>ag a af
theorem e0.callA0{lk:List α}(J:lk.length=n){f:Nat}{args:List ah}{R:ah→List α→Prop}(aI:bQ al f args (S lk) fun r ai=> ∃a1,ai=S a1∧R r a1)(bh:∀r a1,R r a1→a1.length=n)(ad:aK (inObs (S lk)) args){t:List (Nat×ah)}{D:List ah}{o:List aH}{d:aY Nat}{K:bq→Prop}
  (h:∀r a1,R r a1→∀o,K ⟨eK d r t,(.loc 0,D)::(S a1).b,(S a1).e,1,o⟩):c7 al f args ⟨t,(S lk).b++[(.loc 0,D)],(S lk).e,1,o⟩ d K:=by
 refine c7.ob aI (H.ok lk) (fun k cs ab=>by rw[cI,ab]) (fun _ _ ab=>ab) ad ?_;rintro r ai ⟨a1,rfl,aL⟩;refine⟨H.same _ _ J (bh _ _ aL),?_⟩;have ak:cv (S lk).b ((S lk).b++[(.loc 0,D)])=[(.loc 0,D)]:=by rw[im,gN];simp[cv,H.loc]
 have aB:cv (S lk).e (S lk).e=[]:=gN _;have:=h _ _ aL (o++cS (S a1));simp only[ak,aB];exact this
theorem e0.swapA0{d:Array α}(J:d.size=n)(U:2≤n)(i j:Nat)(hi:i<n)(af:j<n){t:List (Nat×ah)}{D:List ah}{o:List aH}{b8:aY Nat}{K:bq→Prop}
  (h:∀o,K ⟨eK b8 (.tuple []) t,(.loc 0,D)::(S (Sort.swp d i j).toList).b,(S (Sort.swp d i j).toList).e,1,o⟩):c7 al b7 (.int .i64 i:: .int .i64 j::b1) ⟨t,(S d.toList).b++[(.loc 0,D)],(S d.toList).e,1,o⟩ b8 K:=by
 refine H.callA0 (by simpa using J) (R:=fun r a1=>r= .tuple []∧a1=(Sort.swp d i j).toList) ((H.swap d.toList (by simpa using J) U i j hi af).mono fun r ai ⟨ak,aB⟩=>⟨_,aB,ak,Fp d (by omega) (by omega)⟩) (fun r a1 ⟨_,e⟩=>by rw[e];simp[Sort.swp,J]) (by simp[aC,aK,H.ksc d.toList (by simpa using J)]) ?_;rintro r a1 ⟨rfl,rfl⟩ o;exact h o
theorem e0.retA{l:List α}{d:Array α}(au:l.length=n)(J:d.size=n){Q:ah→cJ→Prop}{e:Exit}(he:e= .ret∨e= .normal){t:List (Nat×ah)}{D:List ah}{q:Nat}{o:List aH}(bo:Q (.tuple []) (S d.toList)):cR [] (S l) Q e ⟨t,(.loc 0,D)::(S d.toList).b,(S d.toList).e,q,o⟩:=H.ret au (by simpa using J) he bo
theorem e0.retR{fe:List bs}{l:List α}{d:Array α}(au:l.length=n)(J:d.size=n){Q:ah→cJ→Prop}{e:Exit}(he:e= .ret∨e= .normal){t:List (Nat×ah)}{D:List ah}{q:Nat}{o:List aH}(h:cX ⟨t,(.loc 0,D)::(S d.toList).b,(S d.toList).e,q,o⟩ fe fun r=>aC (inObs (S d.toList)) r∧Q r (S d.toList)):cR fe (S l) Q e ⟨t,(.loc 0,D)::(S d.toList).b,(S d.toList).e,q,o⟩:=by
 refine cR.at (S d.toList) he (H.ok _) (H.same _ _ au (by simpa using J)) (fun k cs ab=>?_) (fun _ _ ab=>ab) h;cases k with
 |loc m=>rw[H.loc m]at ab;cases ab
 |obj m=>simpa[Pv.look]using ab
end
theorem gC(d:Array α)(i j:Nat):(Sort.swp d i j).size=d.size:=by simp[Sort.swp]
end Go.Proofs.YtahlgcidhnjlbaaGreat
namespace Go.Proofs.YtahlgcidhnjlbaaGreat
open Go Go.Pv
def OH:C:=(aa [bW 2 0] (.seq (.cond (.c (.bool false)) (aa [I 3 0,b5 4 (.conv .u32 (.t 3)),cE 5 236 4,I 2 5] .ret) .skip) (aa [I 6 0,cE 7 237 6,I 2 7] .ret)))
@[simp] def ajp:List bs:=[.tmp 2]
def HK:C:=(aa [aV 91 2 4,I 92 1,I 93 2,I 94 11,dp 95 244 [.t 91,.t 92,.t 93,.t 94],I 90 95,cD 96 0 90,cD 97 1 90,I 14 96,I 15 97] (aa [I 98 15,I 9 98] (aa [I 99 14,I 100 1,bm 101 .sub 99 100,I 102 2,I 103 14,bm 104 .sub 102 103,I 16 101,I 17 104] (aa [I 105 10,aU 106 .quo 105 8,I 18 106] (aa [I 107 16,I 108 17,bm 109 .lss 107 108] (aS 109 (aa [I 110 16,I 111 18,bm 112 .geq 110 111,I 8 112] (aa [aV 113 2 4,I 114 1,I 115 14,I 116 3,dp 117 214 [.t 113,.t 114,.t 115,.t 116]] (.region [I 118 14,aU 119 .add 118 1,I 1 119]))) (aa [I 120 17,I 121 18,bm 122 .geq 120 121,I 8 122] (aa [aV 123 2 4,I 124 14,aU 125 .add 124 1,I 126 2,I 127 3,dp 128 214 [.t 123,.t 125,.t 126,.t 127]] (.region [I 129 14,I 2 129])))))))))
def AU:C:=(.seq (aa [I 73 1,aU 74 .gtr 73 0,I 75 74,aq 75 true (aF 76 0 1 4),aq 75 true (av 77 1 76),b3 75 true 78 1,aq 75 true (aU 79 .sub 78 1),b3 75 true 80 11,aq 75 true (gz 81 77 [.t 79,.t 80]),aq 75 true (cw 82 81),dx 83 75 82] (aS 83 (aa [aV 84 2 4,I 85 1,I 86 2,I 87 11,dp 88 243 [.t 84,.t 85,.t 86,.t 87],I 13 88] (aa [I 89 13,I 1 89] (.exit 1))) .skip)) HK)
def HL:C:=(.seq (aa [I 61 8,I 62 61,b3 62 true 63 9,dx 64 62 63,I 65 64,b3 65 true 66 12,aq 65 true (aU 67 .eql 66 1),dx 68 65 67] (aS 68 (aa [aV 69 2 4,I 70 1,I 71 2,dp 72 242 [.t 69,.t 70,.t 71]] (aS 72 .ret .skip)) .skip)) AU)
def HM:C:=(aa [aV 43 2 4,I 44 1,I 45 2,dp 46 240 [.t 43,.t 44,.t 45],I 42 46,cD 47 0 42,cD 48 1 42,I 11 47,I 12 48] (.seq (aa [I 49 12,aU 50 .eql 49 2] (aS 50 (aa [aV 51 2 4,I 52 1,I 53 2,dp 54 241 [.t 51,.t 52,.t 53]] (aa [I 55 2,aU 56 .sub 55 1,I 57 11,I 58 1,bm 59 .sub 57 58,bm 60 .sub 56 59,I 11 60] (.region [bW 12 1]))) .skip)) HL))
def OU:C:=(aa [cz 4 0] (aa [be 8 true] (aa [be 9 true] (.block 0 (.loop (.block 1 (aa [I 19 2,I 20 1,bm 21 .sub 19 20,I 10 21] (.seq (aa [I 22 10,aU 23 .leq 22 12] (aS 23 (aa [aV 24 2 4,I 25 1,I 26 2,dp 27 231 [.t 24,.t 25,.t 26]] .ret) .skip)) (.seq (aa [I 28 3,aU 29 .eql 28 0] (aS 29 (aa [aV 30 2 4,I 31 1,I 32 2,dp 33 238 [.t 30,.t 31,.t 32]] .ret) .skip)) (.seq (aa [I 34 8,cw 35 34] (aS 35 (aa [aV 36 2 4,I 37 1,I 38 2,dp 39 239 [.t 36,.t 37,.t 38]] (.region [I 40 3,aU 41 .sub 40 1,I 3 41])) .skip)) HM))))))))))
@[simp] def U8:List bs:=[]
@[simp] def aqp:List bs:=[.tmp 2]
def OI:C:=(aa [bW 2 0] (.seq (aa [I 3 0,b5 4 (.bin .geq false (.t 3) (.c (.int .u64 4294967296)))] (aS 4 (aa [I 5 0,b5 6 (.bin .shr false (.t 5) (.c (.int .u64 32))),I 0 6] (.region [bW 2 32])) .skip)) (.seq (aa [I 7 0,b5 8 (.bin .geq false (.t 7) (.c (.int .u64 65536)))] (aS 8 (aa [I 9 0,b5 10 (.bin .shr false (.t 9) (.c (.int .u64 16))),I 0 10] (.region [I 11 2,aU 12 .add 11 16,I 2 12])) .skip)) (.seq (aa [I 13 0,b5 14 (.bin .geq false (.t 13) (.c (.int .u64 256)))] (aS 14 (aa [I 15 0,b5 16 (.bin .shr false (.t 15) (.c (.int .u64 8))),I 0 16] (.region [I 17 2,aU 18 .add 17 8,I 2 18])) .skip)) (aa [I 19 2,I 20 0,b5 21 (.conv .u8 (.t 20)),b5 22 (.sidx (.c (.str [0,1,2,2,3,3,3,3,4,4,4,4,4,4,4,4,5,5,5,5,5,5,5,5,5,5,5,5,5,5,5,5,6,6,6,6,6,6,6,6,6,6,6,6,6,6,6,6,6,6,6,6,6,6,6,6,6,6,6,6,6,6,6,6,7,7,7,7,7,7,7,7,7,7,7,7,7,7,7,7,7,7,7,7,7,7,7,7,7,7,7,7,7,7,7,7,7,7,7,7,7,7,7,7,7,7,7,7,7,7,7,7,7,7,7,7,7,7,7,7,7,7,7,7,7,7,7,7,8,8,8,8,8,8,8,8,8,8,8,8,8,8,8,8,8,8,8,8,8,8,8,8,8,8,8,8,8,8,8,8,8,8,8,8,8,8,8,8,8,8,8,8,8,8,8,8,8,8,8,8,8,8,8,8,8,8,8,8,8,8,8,8,8,8,8,8,8,8,8,8,8,8,8,8,8,8,8,8,8,8,8,8,8,8,8,8,8,8,8,8,8,8,8,8,8,8,8,8,8,8,8,8,8,8,8,8,8,8,8,8,8,8,8,8,8,8,8,8,8,8,8,8,8,8,8,8])) (.t 21)),b5 23 (.conv .i64 (.t 22)),bm 24 .add 19 23,I 2 24] .ret)))))
@[simp] def zV:List bs:=[.tmp 2]
def OM:C:=(aa [cz 3 0] (aa [I 11 1,I 6 11] (aa [bW 7 0] (aa [I 12 2,I 13 1,bm 14 .sub 12 13,I 8 14] (.seq (aa [I 15 8,aU 16 .sub 15 1,aU 17 .quo 16 2,I 9 17] (.block 0 (.loop (.seq (aa [I 18 9,aU 19 .geq 18 0] (aS 19 .skip (.exit 0))) (.seq (.block 1 (.region [aV 22 2 3,I 23 9,I 24 8,I 25 6,dp 26 252 [.t 22,.t 23,.t 24,.t 25]])) (.region [I 20 9,aU 21 .sub 20 1,I 9 21])))))) (aa [I 27 8,aU 28 .sub 27 1,I 10 28] (.block 2 (.loop (.seq (aa [I 29 10,aU 30 .geq 29 0] (aS 30 .skip (.exit 2))) (.seq (.block 3 (aa [aF 33 1 1 3,av 34 1 33,I 35 6,I 36 6,I 37 10,bm 38 .add 36 37,gz 39 34 [.t 35,.t 38]] (.region [aV 40 2 3,I 41 7,I 42 10,I 43 6,dp 44 252 [.t 40,.t 41,.t 42,.t 43]]))) (.region [I 31 10,aU 32 .sub 31 1,I 10 32])))))))))))
@[simp] def ajq:List bs:=[]
def OK:C:=(aa [cz 3 0] (aa [I 11 2,I 12 1,bm 13 .sub 11 12,I 6 13] (aa [I 14 6,aU 15 .geq 14 8] (aS 15 (aa [I 16 6,b5 17 (.conv .u64 (.t 16)),c1 (.alloc 7 (some 902) (.int .u64 0)),bL 1 7 17] (aa [I 18 6,cE 19 253 18,I 8 19] (aa [I 20 1,I 21 6,aU 22 .quo 21 4,aU 23 .mul 22 2,bm 24 .add 20 23,aU 25 .sub 24 1,I 9 25] (.block 0 (.loop (.seq (aa [I 26 9,I 27 1,I 28 6,aU 29 .quo 28 4,aU 30 .mul 29 2,bm 31 .add 27 30,aU 32 .add 31 1,bm 33 .leq 26 32] (aS 33 .skip (.exit 0))) (.seq (.block 1 (aa [cE 36 254 7,I 37 8,b5 38 (.bin .sub true (.t 37) (.c (.int .u64 1))),bm 39 .and 36 38,b5 40 (.conv .i64 (.t 39)),I 10 40] (.seq (aa [I 41 10,I 42 6,bm 43 .geq 41 42] (aS 43 (.region [I 44 10,I 45 6,bm 46 .sub 44 45,I 10 46]) .skip)) (.region [aF 47 1 1 3,av 48 1 47,I 49 9,I 50 1,I 51 10,bm 52 .add 50 51,gz 53 48 [.t 49,.t 52]])))) (.region [I 34 9,aU 35 .add 34 1,I 9 35])))))))) .skip))))
@[simp] def U4:List bs:=[]
def OL:C:=(aa [cz 3 0,bW 6 0,bW 7 0] (aa [I 13 2,I 14 1,bm 15 .sub 13 14,I 8 15] (aa [c1 (.alloc 9 (some 901) (.int .i64 0))] (aa [I 16 1,I 17 8,aU 18 .quo 17 4,aU 19 .mul 18 1,bm 20 .add 16 19,I 10 20] (aa [I 21 1,I 22 8,aU 23 .quo 22 4,aU 24 .mul 23 2,bm 25 .add 21 24,I 11 25] (aa [I 26 1,I 27 8,aU 28 .quo 27 4,aU 29 .mul 28 3,bm 30 .add 26 29,I 12 30] (.seq (aa [I 31 8,aU 32 .geq 31 8] (aS 32 (.seq (aa [I 33 8,aU 34 .geq 33 50] (aS 34 (aa [aV 35 2 3,I 36 10,dp 37 255 [.t 35,.t 36,.t 9],I 10 37] (aa [aV 38 2 3,I 39 11,dp 40 255 [.t 38,.t 39,.t 9],I 11 40] (.region [aV 41 2 3,I 42 12,dp 43 255 [.t 41,.t 42,.t 9],I 12 43]))) .skip)) (.region [aV 44 2 3,I 45 10,I 46 11,I 47 12,dp 48 256 [.t 44,.t 45,.t 46,.t 47,.t 9],I 11 48])) .skip)) (aa [av 49 1 9] (.block 0 (aa [aU 52 .eql 49 0,I 51 52] (aS 51 (aa [I 53 11,I 6 53,bW 7 1] .ret) (aa [aU 55 .eql 49 12,I 54 55] (aS 54 (aa [I 56 11,I 6 56,bW 7 2] .ret) (aa [I 50 11,I 6 50,bW 7 0] .ret))))))))))))))
@[simp] def Le:List bs:=[.tmp 6,.tmp 7]
def OV:C:=(aa [cz 3 0] (aa [I 8 1,I 6 8] (aa [I 9 2,aU 10 .sub 9 1,I 7 10] (.block 0 (.loop (.seq (aa [I 11 6,I 12 7,bm 13 .lss 11 12] (aS 13 .skip (.exit 0))) (.block 1 (aa [aF 14 1 1 3,av 15 1 14,I 16 6,I 17 7,gz 18 15 [.t 16,.t 17]] (aa [I 19 6,aU 20 .add 19 1,I 6 20] (.region [I 21 7,aU 22 .sub 21 1,I 7 22]))))))))))
@[simp] def ajs:List bs:=[]
def OR:C:=(aa [cz 3 0,be 6 false] (aa [I 11 1,aU 12 .add 11 1,I 7 12] (.seq (aa [bW 8 0] (.block 0 (.loop (.seq (aa [I 13 8,aU 14 .lss 13 5] (aS 14 .skip (.exit 0))) (.seq (.block 1 (.seq (.block 2 (.loop (.seq (aa [I 17 7,I 18 2,bm 19 .lss 17 18,I 20 19,aq 20 true (aF 21 0 1 3),aq 20 true (av 22 1 21),b3 20 true 23 7,b3 20 true 24 7,aq 20 true (aU 25 .sub 24 1),aq 20 true (gz 26 22 [.t 23,.t 25]),aq 20 true (cw 27 26),dx 28 20 27] (aS 28 .skip (.exit 2))) (.block 3 (.region [I 29 7,aU 30 .add 29 1,I 7 30]))))) (.seq (aa [I 31 7,I 32 2,bm 33 .eql 31 32] (aS 33 (aa [be 6 true] .ret) .skip)) (.seq (aa [I 34 2,I 35 1,bm 36 .sub 34 35,aU 37 .lss 36 50] (aS 37 (aa [be 6 false] .ret) .skip)) (aa [aF 38 1 1 3,av 39 1 38,I 40 7,I 41 7,aU 42 .sub 41 1,gz 43 39 [.t 40,.t 42]] (.seq (aa [I 44 7,I 45 1,bm 46 .sub 44 45,aU 47 .geq 46 2] (aS 47 (aa [I 48 7,aU 49 .sub 48 1,I 9 49] (.block 4 (.loop (.seq (aa [I 50 9,aU 51 .geq 50 1] (aS 51 .skip (.exit 4))) (.seq (.block 5 (.seq (aa [aF 54 0 1 3,av 55 1 54,I 56 9,I 57 9,aU 58 .sub 57 1,gz 59 55 [.t 56,.t 58],cw 60 59] (aS 60 (.exit 4) .skip)) (.region [aF 61 1 1 3,av 62 1 61,I 63 9,I 64 9,aU 65 .sub 64 1,gz 66 62 [.t 63,.t 65]]))) (.region [I 52 9,aU 53 .sub 52 1,I 9 53])))))) .skip)) (aa [I 67 2,I 68 7,bm 69 .sub 67 68,aU 70 .geq 69 2] (aS 70 (aa [I 71 7,aU 72 .add 71 1,I 10 72] (.block 6 (.loop (.seq (aa [I 73 10,I 74 2,bm 75 .lss 73 74] (aS 75 .skip (.exit 6))) (.seq (.block 7 (.seq (aa [aF 78 0 1 3,av 79 1 78,I 80 10,I 81 10,aU 82 .sub 81 1,gz 83 79 [.t 80,.t 82],cw 84 83] (aS 84 (.exit 6) .skip)) (.region [aF 85 1 1 3,av 86 1 85,I 87 10,I 88 10,aU 89 .sub 88 1,gz 90 86 [.t 87,.t 89]]))) (.region [I 76 10,aU 77 .add 76 1,I 10 77])))))) .skip)))))))) (.region [I 15 8,aU 16 .add 15 1,I 8 16])))))) (aa [be 6 false] .ret))))
@[simp] def F3:List bs:=[.tmp 6]
def OS:C:=(aa [cz 4 0,bW 8 0] (aa [aF 11 1 1 4,av 12 1 11,I 13 1,I 14 3,gz 15 12 [.t 13,.t 14]] (aa [I 16 1,aU 17 .add 16 1,I 18 2,aU 19 .sub 18 1,I 9 17,I 10 19] (.seq (.block 0 (.loop (.block 1 (.seq (.block 2 (.loop (.seq (aa [I 20 9,I 21 10,bm 22 .leq 20 21,I 23 22,aq 23 true (aF 24 0 1 4),aq 23 true (av 25 1 24),b3 23 true 26 1,b3 23 true 27 9,aq 23 true (gz 28 25 [.t 26,.t 27]),aq 23 true (cw 29 28),dx 30 23 29] (aS 30 .skip (.exit 2))) (.block 3 (.region [I 31 9,aU 32 .add 31 1,I 9 32]))))) (.seq (.block 4 (.loop (.seq (aa [I 33 9,I 34 10,bm 35 .leq 33 34,I 36 35,aq 36 true (aF 37 0 1 4),aq 36 true (av 38 1 37),b3 36 true 39 1,b3 36 true 40 10,aq 36 true (gz 41 38 [.t 39,.t 40]),dx 42 36 41] (aS 42 .skip (.exit 4))) (.block 5 (.region [I 43 10,aU 44 .sub 43 1,I 10 44]))))) (.seq (aa [I 45 9,I 46 10,bm 47 .gtr 45 46] (aS 47 (.exit 0) .skip)) (aa [aF 48 1 1 4,av 49 1 48,I 50 9,I 51 10,gz 52 49 [.t 50,.t 51]] (aa [I 53 9,aU 54 .add 53 1,I 9 54] (.region [I 55 10,aU 56 .sub 55 1,I 10 56]))))))))) (aa [I 57 9,I 8 57] .ret)))))
@[simp] def Lg:List bs:=[.tmp 8]
def OT:C:=(aa [cz 4 0,bW 8 0,be 9 false] (aa [aF 12 1 1 4,av 13 1 12,I 14 1,I 15 3,gz 16 13 [.t 14,.t 15]] (aa [I 17 1,aU 18 .add 17 1,I 19 2,aU 20 .sub 19 1,I 10 18,I 11 20] (.seq (.block 0 (.loop (.seq (aa [I 21 10,I 22 11,bm 23 .leq 21 22,I 24 23,aq 24 true (aF 25 0 1 4),aq 24 true (av 26 1 25),b3 24 true 27 10,b3 24 true 28 1,aq 24 true (gz 29 26 [.t 27,.t 28]),dx 30 24 29] (aS 30 .skip (.exit 0))) (.block 1 (.region [I 31 10,aU 32 .add 31 1,I 10 32]))))) (.seq (.block 2 (.loop (.seq (aa [I 33 10,I 34 11,bm 35 .leq 33 34,I 36 35,aq 36 true (aF 37 0 1 4),aq 36 true (av 38 1 37),b3 36 true 39 11,b3 36 true 40 1,aq 36 true (gz 41 38 [.t 39,.t 40]),aq 36 true (cw 42 41),dx 43 36 42] (aS 43 .skip (.exit 2))) (.block 3 (.region [I 44 11,aU 45 .sub 44 1,I 11 45]))))) (.seq (aa [I 46 10,I 47 11,bm 48 .gtr 46 47] (aS 48 (aa [aF 49 1 1 4,av 50 1 49,I 51 11,I 52 1,gz 53 50 [.t 51,.t 52]] (aa [I 54 11,I 8 54,be 9 true] .ret)) .skip)) (aa [aF 55 1 1 4,av 56 1 55,I 57 10,I 58 11,gz 59 56 [.t 57,.t 58]] (aa [I 60 10,aU 61 .add 60 1,I 10 61] (aa [I 62 11,aU 63 .sub 62 1,I 11 63] (.seq (.block 4 (.loop (.block 5 (.seq (.block 6 (.loop (.seq (aa [I 64 10,I 65 11,bm 66 .leq 64 65,I 67 66,aq 67 true (aF 68 0 1 4),aq 67 true (av 69 1 68),b3 67 true 70 10,b3 67 true 71 1,aq 67 true (gz 72 69 [.t 70,.t 71]),dx 73 67 72] (aS 73 .skip (.exit 6))) (.block 7 (.region [I 74 10,aU 75 .add 74 1,I 10 75]))))) (.seq (.block 8 (.loop (.seq (aa [I 76 10,I 77 11,bm 78 .leq 76 77,I 79 78,aq 79 true (aF 80 0 1 4),aq 79 true (av 81 1 80),b3 79 true 82 11,b3 79 true 83 1,aq 79 true (gz 84 81 [.t 82,.t 83]),aq 79 true (cw 85 84),dx 86 79 85] (aS 86 .skip (.exit 8))) (.block 9 (.region [I 87 11,aU 88 .sub 87 1,I 11 88]))))) (.seq (aa [I 89 10,I 90 11,bm 91 .gtr 89 90] (aS 91 (.exit 4) .skip)) (aa [aF 92 1 1 4,av 93 1 92,I 94 10,I 95 11,gz 96 93 [.t 94,.t 95]] (aa [I 97 10,aU 98 .add 97 1,I 10 98] (.region [I 99 11,aU 100 .sub 99 1,I 11 100]))))))))) (aa [aF 101 1 1 4,av 102 1 101,I 103 11,I 104 1,gz 105 102 [.t 103,.t 104]] (aa [I 106 11,I 8 106,be 9 false] .ret))))))))))))
@[simp] def CJ:List bs:=[.tmp 8,.tmp 9]
def OX:C:=(aa [cz 4 0] (aa [I 10 1,I 8 10] (.block 0 (.loop (.block 1 (aa [I 11 8,b5 12 (.bin .mul false (gd 2) (.t 11)),aU 13 .add 12 1,I 9 13] (.seq (aa [I 14 9,I 15 2,bm 16 .geq 14 15] (aS 16 (.exit 0) .skip)) (.seq (aa [I 17 9,aU 18 .add 17 1,I 19 2,bm 20 .lss 18 19,I 21 20,aq 21 true (aF 22 0 1 4),aq 21 true (av 23 1 22),b3 21 true 24 3,b3 21 true 25 9,aq 21 true (bm 26 .add 24 25),b3 21 true 27 3,b3 21 true 28 9,aq 21 true (bm 29 .add 27 28),aq 21 true (aU 30 .add 29 1),aq 21 true (gz 31 23 [.t 26,.t 30]),dx 32 21 31] (aS 32 (.region [I 33 9,aU 34 .add 33 1,I 9 34]) .skip)) (.seq (aa [aF 35 0 1 4,av 36 1 35,I 37 3,I 38 8,bm 39 .add 37 38,I 40 3,I 41 9,bm 42 .add 40 41,gz 43 36 [.t 39,.t 42],cw 44 43] (aS 44 .ret .skip)) (aa [aF 45 1 1 4,av 46 1 45,I 47 3,I 48 8,bm 49 .add 47 48,I 50 3,I 51 9,bm 52 .add 50 51,gz 53 46 [.t 49,.t 52]] (.region [I 54 9,I 8 54])))))))))))
@[simp] def aju:List bs:=[]
def OP:C:=(aa [b5 2 (.mov (.c (.int .u64 0)))] (aa [I 4 0,b5 5 (.conv .u64 (.t 4)),cE 6 213 5,b5 7 (.conv .u64 (.t 6)),I 3 7] (aa [I 8 3,b5 9 (.bin .shl false (.c (.int .u64 1)) (.t 8)),I 2 9] .ret)))
@[simp] def U7:List bs:=[.tmp 2]
def O1:C:=(aa [b5 2 (.mov (.c (.int .u64 0)))] (.seq (.drawn true 33 [I 3 0,fs 4 3,av 5 1 4,I 6 0,fs 7 6,av 8 1 7,b5 9 (.bin .shl false (.t 8) (.c (.int .u64 13))),bm 10 .xor 5 9,fs 11 3,bL 1 11 10]) (.seq (.drawn true 33 [I 12 0,fs 13 12,av 14 1 13,I 15 0,fs 16 15,av 17 1 16,b5 18 (.bin .shr false (.t 17) (.c (.int .u64 7))),bm 19 .xor 14 18,fs 20 12,bL 1 20 19]) (.seq (.drawn true 33 [I 21 0,fs 22 21,av 23 1 22,I 24 0,fs 25 24,av 26 1 25,b5 27 (.bin .shl false (.t 26) (.c (.int .u64 17))),bm 28 .xor 23 27,fs 29 21,bL 1 29 28]) (aa [I 30 0,fs 31 30,av 32 1 31,I 2 32] .ret)))))
@[simp] def Va:List bs:=[.tmp 2]
def ON:C:=(aa [cz 3 0,bW 6 0] (aa [aV 7 2 3,I 8 1,aU 9 .sub 8 1,I 10 1,I 11 1,aU 12 .add 11 1,I 13 2,dp 14 256 [.t 7,.t 9,.t 10,.t 12,.t 13],I 6 14] .ret))
@[simp] def U5:List bs:=[.tmp 6]
def OO:C:=(aa [cz 5 0,bW 10 0] (aa [aV 12 2 5,I 13 1,I 14 2,I 15 4,dp 16 271 [.t 12,.t 13,.t 14,.t 15],I 11 16,cD 17 0 11,cD 18 1 11,I 1 17,I 2 18] (aa [aV 20 2 5,I 21 2,I 22 3,I 23 4,dp 24 271 [.t 20,.t 21,.t 22,.t 23],I 19 24,cD 25 0 19,cD 26 1 19,I 2 25,I 3 26] (aa [aV 28 2 5,I 29 1,I 30 2,I 31 4,dp 32 271 [.t 28,.t 29,.t 30,.t 31],I 27 32,cD 33 0 27,cD 34 1 27,I 1 33,I 2 34] (aa [I 35 2,I 10 35] .ret)))))
@[simp] def U6:List bs:=[.tmp 10]
def OQ:C:=(aa [cz 4 0,bW 8 0,bW 9 0] (.seq (aa [aF 10 0 1 4,av 11 1 10,I 12 2,I 13 1,gz 14 11 [.t 12,.t 13]] (aS 14 (aa [I 15 3,fs 16 15,av 17 1 16,aU 18 .add 17 1,fs 19 15,bL 1 19 18] (aa [I 20 2,I 21 1,I 8 20,I 9 21] .ret)) .skip)) (aa [I 22 1,I 23 2,I 8 22,I 9 23] .ret)))
@[simp] def Lf:List bs:=[.tmp 8,.tmp 9]
def nf:List (Nat×dB):=[
 (3,⟨1,8,.int .i64,.int .i64 0⟩),
 (5,⟨1,1,.int .u8,.int .u8 0⟩),
 (9,⟨1,16,.str,.str []⟩),
 (143,⟨1,8,.other,.junk⟩),
 (181,⟨1,8,.other,.junk⟩),
 (185,⟨2,16,.struct [(0,143),(1,181)],.agg [.junk,.junk]⟩),
 (192,⟨1,8,.int .u64,.int .u64 0⟩),
 (206,⟨1,4,.int .u32,.int .u32 0⟩),
 (208,⟨1,8,.int .u64,.int .u64 0⟩),
 (222,⟨1,8,.int .u64,.int .u64 0⟩)]
theorem nF:fN al nf=true:=by kernel_rfl
theorem ahy:bY nf OH ajp 1 Tryz.f213=true:=by kernel_rfl
theorem aa8:al.funcs[(213:Nat)]? =some Tryz.f213:=Tryz.func213
theorem ahL:bY nf OU U8 4 Tryz.f214=true:=by kernel_rfl
theorem abl:al.funcs[(214:Nat)]? =some Tryz.f214:=Tryz.func214
theorem ahz:bY nf OI zV 1 Tryz.f237=true:=by kernel_rfl
theorem aa9:al.funcs[(237:Nat)]? =some Tryz.f237:=Tryz.func237
theorem ahD:bY nf OM ajq 3 Tryz.f238=true:=by kernel_rfl
theorem abd:al.funcs[(238:Nat)]? =some Tryz.f238:=Tryz.func238
theorem ahB:bY nf OK U4 3 Tryz.f239=true:=by kernel_rfl
theorem abb:al.funcs[(239:Nat)]? =some Tryz.f239:=Tryz.func239
theorem ahC:bY nf OL Le 3 Tryz.f240=true:=by kernel_rfl
theorem abc:al.funcs[(240:Nat)]? =some Tryz.f240:=Tryz.func240
theorem ahM:bY nf OV ajs 3 Tryz.f241=true:=by kernel_rfl
theorem abm:al.funcs[(241:Nat)]? =some Tryz.f241:=Tryz.func241
theorem ahI:bY nf OR F3 3 Tryz.f242=true:=by kernel_rfl
theorem abi:al.funcs[(242:Nat)]? =some Tryz.f242:=Tryz.func242
theorem ahJ:bY nf OS Lg 4 Tryz.f243=true:=by kernel_rfl
theorem abj:al.funcs[(243:Nat)]? =some Tryz.f243:=Tryz.func243
theorem ahK:bY nf OT CJ 4 Tryz.f244=true:=by kernel_rfl
theorem abk:al.funcs[(244:Nat)]? =some Tryz.f244:=Tryz.func244
theorem ahO:bY nf OX aju 4 Tryz.f252=true:=by kernel_rfl
theorem abo:al.funcs[(252:Nat)]? =some Tryz.f252:=Tryz.func252
theorem ahG:bY nf OP U7 1 Tryz.f253=true:=by kernel_rfl
theorem abg:al.funcs[(253:Nat)]? =some Tryz.f253:=Tryz.func253
theorem ahS:bY nf O1 Va 1 Tryz.f254=true:=by kernel_rfl
theorem abt:al.funcs[(254:Nat)]? =some Tryz.f254:=Tryz.func254
theorem ahE:bY nf ON U5 3 Tryz.f255=true:=by kernel_rfl
theorem abe:al.funcs[(255:Nat)]? =some Tryz.f255:=Tryz.func255
theorem ahF:bY nf OO U6 5 Tryz.f256=true:=by kernel_rfl
theorem abf:al.funcs[(256:Nat)]? =some Tryz.f256:=Tryz.func256
theorem ahH:bY nf OQ Lf 4 Tryz.f271=true:=by kernel_rfl
theorem abh:al.funcs[(271:Nat)]? =some Tryz.f271:=Tryz.func271
end Go.Proofs.YtahlgcidhnjlbaaGreat
