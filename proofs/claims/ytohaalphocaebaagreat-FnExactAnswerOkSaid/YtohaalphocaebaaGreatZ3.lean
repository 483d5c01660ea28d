/- made by mk2.py: the code of the functions, and the checks against the program's own form. -/
import Derived.Test.YtohaalphocaebaaGreatProg
import Derived.Shelf.Sort.Plain
import Derived.Ground.NamesProg
import Derived.Sort.OwnSortedInts
import Derived.Lib.OwnBridge
import Derived.Sort.AssemblyPlain
import Derived.Sort.LotD5
import Derived.Test.YtohaalphocaebaaGreatZ2
set_option linter.all false
set_option maxHeartbeats 4000000
open Bool renaming and_eq_true→cA,eq_iff_iff→p4,false_eq_true→gT,or_eq_true→lF
open Go renaming Program→cB
open Go.IntKind renaming bits→nO,signed→r1,u64→hj,wrap→r2
open Go.IntWalk renaming i64_in→oF
open Go.Op renaming bytesLess→hr
open Go.Proofs.Tryz renaming prog→al
open Go.Value renaming cells→oH
open List renaming all_eq_true→ir,cons_append→bP,drop→my,drop_eq_getElem_cons→k5,getElem?_eq_getElem→cf,getElem?_eq_none→p5,getElem?_eq_some_iff→fw,getElem_of_mem→nj,length_append→oI,length_cons→oJ,length_drop→r4,map_cons→gM,mem_append→jP,mem_cons→fK,mem_filter→nk,mem_map→iO,mem_of_getElem?→eo,nil_append→bX,pairwise_cons→mA,pairwise_iff_getElem→pt,take_of_length_le→hB,take_succ→nR
open List.Nodup renaming length_le_of_subset→M6
open List.Pairwise renaming filter→XI,imp_of_mem→anz,sublist→as6
open List.Perm renaming eq_of_pairwise→M7,swap→as7
open List.cons renaming injEq→nQ
open Nat renaming le_refl→eV,le_trans→j4
open Ne renaming symm→kL
open Option renaming bind_eq_some_iff→mB,getD_none→nl,getD_some→k7,map_eq_some_iff→gN,map_some→nS
open Option.some renaming inj→fl,injEq→dE
open Prod.mk renaming injEq→jj
open _root_ renaming False→eR,Option→aY,UInt8→dz,beq_iff_eq→dL,congrArg→eZ,decide_eq_false→k8,decide_eq_false_iff_not→gr,decide_eq_true→kN,decide_eq_true_eq→fm
namespace Go.Pv
open Go
structure bL where
 v:Int
 k:Int
 deriving DecidableEq,Inhabited
def bL.e(b:bL):ah:= .agg [.int .i64 b.v,.int .i64 b.k]
@[simp] theorem bL.eta(b:bL):bL.mk b.v b.k=b:=rfl
@[simp] theorem Nr(v k:Int):ah.agg [.int .i64 v,.int .i64 k]=(bL.mk v k).e:=rfl
@[simp] theorem ap5(S:aD→Prop)(b:bL):aB S b.e=True:=by simp[bL.e,-Nr]
@[simp] theorem asM(b:bL):dm b.e=b.e:=by simp[bL.e,-Nr]
theorem TC(S:aD→Prop):∀l:List bL,aG S (l.map bL.e)
 |[]=>by simp[aG]
 |x::xs=>by simp[aG,TC S xs]
@[simp] theorem apO(S:aD→Prop)(l:List bL):aG S (l.map bL.e)=True:=eq_true (TC S l)
@[simp] theorem Ml:∀l:List bL,cY (l.map bL.e)=l.map bL.e
 |[]=>rfl
 |x::xs=>by simp[cY,Ml xs]
@[simp] theorem asm(b:bL):dY b.e=true:=rfl
@[simp] theorem aoc(b:bL):cells b.e=[.int .i64 b.v,.int .i64 b.k]:=rfl
@[simp] theorem apw(b:bL):Pv.isAgg 2 b.e:=⟨_,rfl,rfl⟩
@[simp] theorem aoM(off:Nat)(e2:Bool)(sz:Nat)(b:bL):q2 off e2 sz b.e=if e2 then some (off+sz≤2,.agg (([.int .i64 b.v,.int .i64 b.k].drop off).take sz))else(([.int .i64 b.v,.int .i64 b.k]:List ah)[off]?).map fun p=>(True,p):=rfl
@[simp] theorem aoC(off:Nat)(e2:Bool)(sz:Nat)(b:bL):pF off e2 sz (.eptr b.e)=if e2 then some (off+sz≤2,.eptr (.agg (([.int .i64 b.v,.int .i64 b.k].drop off).take sz)))else(([.int .i64 b.v,.int .i64 b.k]:List ah)[off]?).map fun p=>(dY p=true∧cells p=[p],.eptr p):=rfl
structure bg where
 v:Int
 s:List dz
 deriving DecidableEq,Inhabited
def bg.e(b:bg):ah:= .agg [.int .i64 b.v,.str b.s]
@[simp] theorem bg.eta(b:bg):bg.mk b.v b.s=b:=rfl
@[simp] theorem HB(v:Int)(s:List dz):ah.agg [.int .i64 v,.str s]=(bg.mk v s).e:=rfl
@[simp] theorem af9(S:aD→Prop)(b:bg):aB S b.e=True:=by simp[bg.e,-HB]
@[simp] theorem asQ(b:bg):dm b.e=b.e:=by simp[bg.e,-HB]
theorem Kj(S:aD→Prop):∀l:List bg,aG S (l.map bg.e)
 |[]=>by simp[aG]
 |x::xs=>by simp[aG,Kj S xs]
@[simp] theorem TE(S:aD→Prop)(l:List bg):aG S (l.map bg.e)=True:=eq_true (Kj S l)
@[simp] theorem Mm:∀l:List bg,cY (l.map bg.e)=l.map bg.e
 |[]=>rfl
 |x::xs=>by simp[cY,Mm xs]
@[simp] theorem asq(b:bg):dY b.e=true:=rfl
@[simp] theorem aog(b:bg):cells b.e=[.int .i64 b.v,.str b.s]:=rfl
@[simp] theorem apy(b:bg):Pv.isAgg 2 b.e:=⟨_,rfl,rfl⟩
@[simp] theorem aoN(off:Nat)(e2:Bool)(sz:Nat)(b:bg):q2 off e2 sz b.e=if e2 then some (off+sz≤2,.agg (([.int .i64 b.v,.str b.s].drop off).take sz))else(([.int .i64 b.v,.str b.s]:List ah)[off]?).map fun p=>(True,p):=rfl
@[simp] theorem aoD(off:Nat)(e2:Bool)(sz:Nat)(b:bg):pF off e2 sz (.eptr b.e)=if e2 then some (off+sz≤2,.eptr (.agg (([.int .i64 b.v,.str b.s].drop off).take sz)))else(([.int .i64 b.v,.str b.s]:List ah)[off]?).map fun p=>(dY p=true∧cells p=[p],.eptr p):=rfl
def fa(x y:bg):Int:=if ey x.v y.v=0 then kp x.s y.s else ey x.v y.v
theorem lA:jk fa:=by
 refine⟨fun x y=>?_,fun x y z J U=>?_,fun x y=>?_⟩
 ·unfold fa;have:=j1.neg x.v y.v;have:=CP.neg x.s y.s;by_cases e:ey x.v y.v=0
  ·rw[if_pos e,if_pos (by omega)];omega
  ·rw[if_neg e,if_neg (by omega)];omega
 ·unfold fa at J U⊢;by_cases ak:ey x.v y.v=0
  ·rw[if_pos ak]at J;rw[(j1.zero _ _).1 ak];by_cases aC:ey y.v z.v=0
   ·rw[if_pos aC]at U⊢;exact CP.tr _ _ _ J U
   ·rw[if_neg aC]at U⊢;exact U
  ·rw[if_neg ak]at J;have bA:ey x.v y.v<0:=by omega
   by_cases aC:ey y.v z.v=0
   ·rw[←(j1.zero _ _).1 aC,if_neg ak];exact J
   ·rw[if_neg aC]at U;have:=j1.ltr bA U;rw[if_neg (by omega)];omega
 ·unfold fa;by_cases e:ey x.v y.v=0
  ·rw[if_pos e,CP.zero];have:=(j1.zero _ _).1 e;cases x;cases y;simp_all
  ·rw[if_neg e];exact⟨fun h=>absurd h e,fun h=>by rw[h]at e;exact absurd (j1.refl _) e⟩
def sQ(x y:bg):Bool:=decide (x.v<y.v)||(x.v==y.v&&hr x.s y.s)
theorem YE(a:List dz):hr a a=false:=by
 cases h:hr a a with
 |false=>rfl
 |true=>rw[HH a a h]at h;cases h
theorem Uo(x y:bg):sQ x y=hG fa x y:=by
 unfold sQ hG fa;rw[p4];simp only[lF,fm,cA,dL];by_cases e:x.v=y.v
 ·have:ey x.v y.v=0:=(j1.zero _ _).2 e;rw[if_pos this];simp only[e,Int.lt_irrefl,false_or,true_and,kp];by_cases aC:x.s=y.s
  ·rw[if_pos aC,aC,YE];simp
  ·rw[if_neg aC];split<;>simp_all
 ·have bq:¬ey x.v y.v=0:=fun h=>e ((j1.zero _ _).1 h);rw[if_neg bq];simp only[e,false_and,or_false];unfold ey;(repeat' split)<;>omega
def h4{α:Type}(p:α→Prop)(r:α→α→Prop)(l:List α)(i:Nat):Prop:= ∀b,l[i]? =some b→p b∧∀c,0<i→l[i-1]? =some c→r c b
theorem Nl{α:Type}{p:α→Prop}{r:α→α→Prop}(aL:∀a b c,r a b→r b c→r a c){l:List α}:(∀i,i<l.length→h4 p r l i)↔(∀b∈l,p b)∧l.Pairwise r:=by
 constructor
 ·intro h;refine⟨fun b ae=>?_,?_⟩
  ·obtain⟨i,hi,e⟩:=nj ae;exact(h i hi b (by rw[cf hi,e])).1
  ·rw[pt];have jt:∀i (h:i+1<l.length),r l[i] l[i+1]:=fun i hi=>(h (i+1) hi l[i+1] (by simp[cf hi])).2 l[i] (by omega) (by simp[cf (show i<l.length by omega)]);have:∀(d i:Nat) (h:i+d+1<l.length),r l[i] l[i+d+1]:=by
    intro d;induction d with
    |zero=>intro i h;exact jt i h
    |succ d bN=>intro i h;exact aL _ _ _ (bN i (by omega)) (jt (i+d+1) (by omega))
   intro i j hi af lN;have:=this (j-i-1) i (by omega);simpa[show i+(j-i-1)+1=j from by omega]using this
 ·rintro⟨J,U⟩ i hi b ae;refine⟨J b (eo ae),fun c bq aw=>?_⟩;obtain⟨g1,ak⟩:=fw.1 aw;obtain⟨g2,aC⟩:=fw.1 ae;have:=pt.1 U (i-1) i g1 g2 (by omega);rw[ak,aC]at this;exact this
def jY{α:Type}(c:α→α→Int)(x:α):List α→List α
 |[]=>[x]
 |y::l=>if c y x<0 then y::jY c x l else if c y x=0 then y::l else x::y::l
section
variable {α:Type} {c:α→α→Int}
theorem FK(aw:jk c){x z:α}:∀{l:List α},z∈jY c x l↔z=x∨z∈l
 |[]=>by simp[jY]
 |y::l=>by
  simp only[jY];split
  ·simp only[fK,FK aw (l:=l)];constructor
   ·rintro(h|h|h)
    ·exact .inr (.inl h)
    ·exact .inl h
    ·exact .inr (.inr h)
   ·rintro(h|h|h)
    ·exact .inr (.inl h)
    ·exact .inl h
    ·exact .inr (.inr h)
  ·split
   ·rename_i h;obtain rfl:=(aw.zero _ _).1 h;simp
   ·simp
theorem J2(aw:jk c){x:α}:∀{l:List α},hH c l→hH c (jY c x l)
 |[],_=>by simp[jY,hH]
 |y::l,h=>by
  obtain⟨J,U⟩:=mA.1 h;simp only[jY];split
  ·rename_i ao;refine mA.2 ⟨fun z bE=>?_,J2 aw U⟩;rcases(FK aw).1 bE with rfl|bE
   ·exact ao
   ·exact J z bE
  ·split
   ·exact h
   ·rename_i ao a7;have hL:c x y<0:=by have:=aw.neg x y;omega
    refine mA.2 ⟨fun z bE=>?_,h⟩;rcases fK.1 bE with rfl|bE
    ·exact hL
    ·exact aw.ltr hL (by have:=J z bE;omega)
theorem J4(x:α):∀l:List α,(jY c x l).length≤l.length+1
 |[]=>by simp[jY]
 |y::l=>by
  have:=J4 x l;simp only[jY];split
  ·simp;omega
  ·split<;>simp
theorem J3(aw:jk c)(x:α):∀(l:List α) (k:Nat),(∀i y,i<k→l[i]? =some y→c y x<0)→(∀y,l[k]? =some y→0≤c y x)→k≤l.length→jY c x l=if(match l[k]? with|some y=>decide (c y x=0)|none=>false)=true then l else l.take k++x::l.drop k
 |[],k,_,_,ab=>by simp at ab;subst ab;simp[jY]
 |y::l,0,_,U,_=>by
  have:=U y rfl;by_cases e:c y x=0
  ·simp[jY,e]
  ·have ao:¬c y x<0:=by omega
   simp[jY,ao,e]
 |y::l,k+1,J,U,ab=>by
  have bq:=J 0 y (by omega) rfl;simp only[jY,if_pos bq,List.take_succ_cons,List.drop_succ_cons,bP,List.getElem?_cons_succ];rw[J3 aw x l k (fun i d hi aR=>J (i+1) d (by omega) (by simpa using aR)) (fun d aR=>U d (by simpa using aR)) (by simpa using ab)];cases l[k]? with
  |none=>rfl
  |some z=>simp only[];split<;>rfl
end
structure iU (l:List bL):Prop where
 at':∀x∈l,(0≤x.v∧x.v≤100000)∧(x.k=2∨x.k=3)
 asc:l.Pairwise fun x y=>x.v<y.v
def kX(l:List bL)(v:Int):aY Int:=(l.find? fun x=>x.v==v).map (·.k)
def lu(x:bL):List bL→List bL
 |[]=>[x]
 |y::l=>if y.v<x.v then y::lu x l else x::y::l
theorem FL{x z:bL}:∀{l:List bL},z∈lu x l↔z=x∨z∈l
 |[]=>by simp[lu]
 |y::l=>by
  simp only[lu];split
  ·simp only[fK,FL (l:=l)];constructor
   ·rintro(h|h|h)
    ·exact .inr (.inl h)
    ·exact .inl h
    ·exact .inr (.inr h)
   ·rintro(h|h|h)
    ·exact .inr (.inl h)
    ·exact .inl h
    ·exact .inr (.inr h)
  ·simp
theorem J5(x:bL):∀l:List bL,(lu x l).Perm (x::l)
 |[]=>.refl _
 |y::l=>by
  simp only[lu];split
  ·exact((J5 x l).cons y).trans (as7 _ _ _)
  ·exact .refl _
theorem Fe{x:bL}:∀{l:List bL},l.Pairwise (fun x y=>x.v<y.v)→(∀y∈l,y.v≠x.v)→(lu x l).Pairwise fun x y=>x.v<y.v
 |[],_,_=>by simp[lu]
 |y::l,h,aA=>by
  obtain⟨J,U⟩:=mA.1 h;have aM:=aA y (by simp);simp only[lu];split
  ·rename_i ao;refine mA.2 ⟨fun z bE=>?_,Fe U fun z bE=>aA z (by simp[bE])⟩;rcases FL.1 bE with rfl|bE
   ·exact ao
   ·exact J z bE
  ·refine mA.2 ⟨fun z bE=>?_,h⟩;rcases fK.1 bE with rfl|bE
   ·omega
   ·have:=J z bE;omega
theorem S2(x:bL):∀(l:List bL) (k:Nat),(∀i y,i<k→l[i]? =some y→y.v<x.v)→(∀y,l[k]? =some y→¬y.v<x.v)→k≤l.length→lu x l=l.take k++x::l.drop k
 |[],k,_,_,ab=>by simp at ab;subst ab;rfl
 |y::l,0,_,U,_=>by have:=U y rfl;simp[lu,this]
 |y::l,k+1,J,U,ab=>by have bq:=J 0 y (by omega) rfl;simp only[lu,if_pos bq,List.take_succ_cons,List.drop_succ_cons,bP];rw[S2 x l k (fun i d hi aR=>J (i+1) d (by omega) (by simpa using aR)) (fun d aR=>U d (by simpa using aR)) (by simpa using ab)]
theorem Tl{l aX:List bL}(bH:aX.Perm l)(aR:l.Pairwise fun x y=>x.v<y.v)(ag:aX.Pairwise fun x y=>decide (y.v<x.v)=false):aX=l:=by
 refine M7 (le:=fun x y:bL=>x.v≤y.v) (fun x y ad aM J U=>?_) (ag.imp (by simp)) (aR.imp (by omega)) bH;have h7:x∈l:=bH.mem_iff.1 ad;have rs:y∈l:=aM;obtain⟨i,hi,rfl⟩:=nj h7;obtain⟨j,af,rfl⟩:=nj rs;have:=pt.1 aR;rcases Nat.lt_trichotomy i j with h|h|h
 ·have:=this i j hi af h;omega
 ·subst h;rfl
 ·have:=this j i af hi h;omega
theorem xI{l:List bL}{v:Int}:kX l v=none↔∀x∈l,x.v≠v:=by simp[kX]
theorem Tt{l:List bL}{v k:Int}(h:kX l v=some k):(⟨v,k⟩:bL)∈l:=by unfold kX at h;rw[gN]at h;obtain⟨x,J,rfl⟩:=h;have U:=List.find?_some J;simp at U;subst U;exact List.mem_of_find?_eq_some J
theorem Ft{l:List bL}(bD:l.Pairwise fun x y=>x.v<y.v){x:bL}(h:x∈l):kX l x.v=some x.k:=by
 induction l with
 |nil=>simp at h
 |cons y l bN=>
  obtain⟨J,U⟩:=mA.1 bD;rcases fK.1 h with rfl|h
  ·simp[kX]
  ·have:=J x h;have e:=bN U h;unfold kX at e⊢;rw[List.find?_cons_of_neg (by simp;omega)];exact e
def j5(l:List bL)(t:T)(k:Int):aY (List bL):=match t with
 | .var n=>match kX l n with
  |some bM=>if bM=k then some l else none
  |none=>some (lu ⟨n,k⟩ l)
 |t=>if t.kind=k then some l else none
theorem Hw{l aX:List bL}{t:T}{k:Int}(h:iU l)(aL:t.ok=true)(ab:k=2∨k=3)(he:j5 l t k=some aX):iU aX:=by
 unfold j5 at he;split at he
 ·rename_i n;split at he
  ·split at he
   ·cases he;exact h
   ·cases he
  ·rename_i aA;cases he;rw[xI]at aA;refine⟨fun x ad=>?_,Fe h.asc aA⟩;rcases FL.1 ad with rfl|ad
   ·exact⟨by simpa[T.ok]using aL,ab⟩
   ·exact h.at' x ad
 ·split at he
  ·cases he;exact h
  ·cases he
theorem vF{l:List bL}(h:iU l):l.length≤100001:=by
 have J:(l.map (·.v)).Nodup:=by rw[List.nodup_iff_pairwise_ne,List.pairwise_map];exact h.asc.imp fun h e=>by omega
 have:=Tr J fun v aJ=>by obtain⟨x,ad,rfl⟩:=iO.1 aJ;exact(h.at' x ad).1
 simpa using this
def fZ(s:List au):List bL→List bL→aY (List bL)
 |[],acc=>some acc
 |x::r,acc=>match j5 acc (cz s x.v) x.k with
  |some a=>fZ s r a
  |none=>none
structure h8 (l:List bg):Prop where
 at':∀x∈l,(0≤x.v∧x.v≤100000)∧jv x.s=true
 asc:hH fa l
def _root_.Go.Pv.T.has(s:List dz):T→Bool
 | .sym n=>n==s
 | .pair a b=>a.has s||b.has s
 |_=>false
def lH(l:List bg)(t:T)(s:List dz):aY (List bg):=if t.has s then none else some (asc fa (l++(ni t).map fun v=>⟨v,s⟩))
theorem Dt{t:T}{v:Int}:v∈ni t↔t.occ v=true:=by
 refine⟨fun h=>?_,xR⟩;induction t with
 |var n=>simp[ni]at h;simp[T.occ,h]
 |pair a b dM dN=>simp only[ni,jP]at h;simp only[T.occ,lF];exact h.imp dM dN
 |_=>simp[ni]at h
theorem Cz{l aX:List bg}{t:T}{s:List dz}(h:lH l t s=some aX)(x:bg):x∈aX↔x∈l∨(x.s=s∧t.occ x.v=true):=by
 unfold lH at h;split at h
 ·cases h
 ·cases h;rw[Ua,jP,iO];refine or_congr_right ?_;constructor
  ·rintro⟨v,aJ,rfl⟩;exact⟨rfl,Dt.1 aJ⟩
  ·rintro⟨J,U⟩;exact⟨x.v,Dt.2 U,by rw[←J]⟩
theorem Hx{l aX:List bg}{t:T}{s:List dz}(cS:t.has s=false)(bD:hH fa aX)(hm:∀x,x∈aX↔x∈l∨(x.s=s∧t.occ x.v=true)):lH l t s=some aX:=by
 have h:lH l t s=some (asc fa (l++(ni t).map fun v=>⟨v,s⟩)):=by unfold lH;rw[cS];rfl
 rw[h];congr 1;exact(HC lA _).ext lA bD fun x=>by rw[hm,←Cz h]
theorem Hy{l aX:List bg}{t:T}{s:List dz}(h:h8 l)(aL:t.ok=true)(ag:jv s=true)(he:lH l t s=some aX):h8 aX:=by
 refine⟨fun x ad=>?_,?_⟩
 ·rcases(Cz he x).1 ad with J|⟨J,U⟩
  ·exact h.at' x J
  ·exact⟨wA aL U,by rw[J];exact ag⟩
 ·unfold lH at he;split at he
  ·cases he
  ·cases he;exact HC lA _
def ga(s:List au):List bg→List bg→aY (List bg)
 |[],acc=>some acc
 |x::r,acc=>match lH acc (cz s x.v) x.s with
  |some a=>ga s r a
  |none=>none
end Go.Pv
namespace Go.Proofs.YtohaalphocaebaaGreat
open Go Go.Pv
def HT:C:=(aa [bf 2 false] (.seq (aa [I 5 0,cb 6 5,bQ 7 0] (e4 8 7 6 (.seq (.block 1 (aa [cp 9 4 5 7,be 10 4 9,dH 4 dS,bW 4 4 10] (aa [be 11 4 4,cQ 12 117 11,cx 13 12] (aT 13 (aa [bf 2 false] .ret) .skip)))) (.region [aS 14 .add 7 1,I 7 14])))) (aa [bf 2 true] .ret)))
@[simp] def ajL:List bt:=[.tmp 2]
@[simp] def arH:List bt:=[.cell 2 true 4]
def PK:C:=(aa [dH 2 dS] (aa [I 3 0,k3 4 dS [(0,1,(gp 1)),(1,1,(.t 3))],bW 4 2 4] .ret))
@[simp] def aku:List bt:=[.cell 2 true 4]
def OE:C:=(aa [cK (.box 2 (some 201) (.t 0)),cM 3 1,dH 4 dS,bf 5 false] (aa [be 6 4 3,b1 7 (.mkf 182 [.t 2]),cd 8 181 6 7,c2 9 0 8,c2 10 1 8,bW 4 4 9,I 5 10] .ret))
@[simp] def Vv:List bt:=[.cell 4 true 4,.tmp 5]
def Ob:C:=(aa [bf 2 false] (.seq (aa [I 5 0,cb 6 5,aS 7 .gtr 6 400] (aT 7 (aa [bf 2 false] .ret) .skip)) (.seq (aa [I 8 0,cb 9 8,bQ 10 0] (e4 11 10 9 (.seq (.block 1 (aa [I 12 10,cp 13 5 8 10,be 14 5 13,dH 4 jZ,I 3 12,bW 5 4 14] (.seq (.drawn true 45 [aI 15 0 1 4,ax 16 1 15,aS 17 .lss 16 0,I 18 17,aq 18 false (aI 19 0 1 4),aq 18 false (ax 20 1 19),aq 18 false (aS 21 .gtr 20 100000),dc 22 18 21,I 23 22,b4 23 false 24 3,aq 23 false (aS 25 .gtr 24 0),b4 23 false 26 25,b4 26 true 27 0,b4 26 true 28 3,aq 26 true (aS 29 .sub 28 1),aq 26 true (cp 30 5 27 29),aq 26 true (aI 31 0 1 30),aq 26 true (ax 32 1 31),aq 26 true (aI 33 0 1 4),aq 26 true (ax 34 1 33),aq 26 true (bk 35 .geq 32 34),aq 23 false (dK 36 26 35),dc 37 23 36,I 38 37,aq 38 false (fY 39 1 4 4),aq 38 false (be 40 4 39),aq 38 false (cQ 41 117 40),aq 38 false (cx 42 41),dc 43 38 42]) (aT 43 (aa [bf 2 false] .ret) .skip)))) (.region [aS 44 .add 10 1,I 10 44])))) (aa [bf 2 true] .ret))))
@[simp] def Gc:List bt:=[.tmp 2]
def Ot:C:=(aa [cM 2 0,cM 3 1,bf 4 false] (aa [be 5 4 2,be 6 4 3,cd 7 170 5 6,aS 8 .eql 7 0,I 4 8] .ret))
@[simp] def Vo:List bt:=[.tmp 4]
def PH:C:=(aa [cM 2 0,cM 3 1,dH 4 dS] (aa [be 5 4 2,be 6 4 3,fk 7 4 32 [.t 5,.t 6],k3 8 dS [(0,1,(gp 4)),(3,1,(.t 7))],bW 4 4 8] .ret))
@[simp] def VK:List bt:=[.cell 4 true 4]
def Oa:C:=(aa [cM 1 0,bf 2 false] (aa [be 3 4 1,dI 4 194 [.t 3,(gp 5000)],aS 5 .gtr 4 0,I 2 5] .ret))
@[simp] def Vf:List bt:=[.tmp 2]
def N1:C:=(aa [bf 2 false] (.seq (aa [I 4 0,b1 5 (.slen (.t 4)),aS 6 .lss 5 1,I 7 6,b4 7 false 8 0,aq 7 false (b1 9 (.slen (.t 8))),aq 7 false (aS 10 .gtr 9 12),dc 11 7 10,I 12 11,b4 12 false 13 0,aq 12 false (b1 14 (.sidx (.t 13) (gp 0))),aq 12 false (b1 15 (.bin .lss false (.t 14) (.c (.int .u8 97)))),dc 16 12 15,I 17 16,b4 17 false 18 0,aq 17 false (b1 19 (.sidx (.t 18) (gp 0))),aq 17 false (b1 20 (.bin .gtr false (.t 19) (.c (.int .u8 122)))),dc 21 17 20] (aT 21 (aa [bf 2 false] .ret) .skip)) (.seq (aa [bQ 3 1] (.block 0 (.loop (.seq (aa [I 22 3,I 23 0,b1 24 (.slen (.t 23)),bk 25 .lss 22 24] (aT 25 .skip (.exit 0))) (.seq (.block 1 (aa [I 28 0,I 29 3,b1 30 (.sidx (.t 28) (.t 29)),b1 31 (.bin .geq false (.t 30) (.c (.int .u8 97))),I 32 31,b4 32 true 33 0,b4 32 true 34 3,aq 32 true (b1 35 (.sidx (.t 33) (.t 34))),aq 32 true (b1 36 (.bin .leq false (.t 35) (.c (.int .u8 122)))),dK 37 32 36,I 38 37,b4 38 false 39 0,b4 38 false 40 3,aq 38 false (b1 41 (.sidx (.t 39) (.t 40))),aq 38 false (b1 42 (.bin .geq false (.t 41) (.c (.int .u8 48)))),b4 38 false 43 42,b4 43 true 44 0,b4 43 true 45 3,aq 43 true (b1 46 (.sidx (.t 44) (.t 45))),aq 43 true (b1 47 (.bin .leq false (.t 46) (.c (.int .u8 57)))),aq 38 false (dK 48 43 47),dc 49 38 48,I 50 49,b4 50 false 51 0,b4 50 false 52 3,aq 50 false (b1 53 (.sidx (.t 51) (.t 52))),aq 50 false (b1 54 (.bin .eql false (.t 53) (.c (.int .u8 45)))),dc 55 50 54,cx 56 55] (aT 56 (aa [bf 2 false] .ret) .skip))) (.region [I 26 3,aS 27 .add 26 1,I 3 27])))))) (aa [bf 2 true] .ret))))
@[simp] def Gb:List bt:=[.tmp 2]
def sd:C:=(aa [cM 2 0] (.seq (aa [aI 4 0 1 2,ax 5 1 4,aS 6 .eql 5 1] (aT 6 (.region [I 7 1,aI 8 1 1 2,ax 9 1 8,gF 10 7 [.t 9]]) .skip)) (aa [aI 11 0 1 2,ax 12 1 11,aS 13 .eql 12 4] (aT 13 (aa [aI 14 3 1 2,ax 15 1 14,jC 16 4 15 0,be 17 4 16,I 18 1,cd 19 129 17 18] (.region [aI 20 3 1 2,ax 21 1 20,jC 22 4 21 1,be 23 4 22,I 24 1,cd 25 129 23 24])) .skip))))
@[simp] def sV:List bt:=[]
def Ov:C:=(aa [cK (.box 2 (some 101) (.t 0)),cK (.box 3 (some 102) (.t 1)),bQ 4 0] (aa [ax 6 1 2,cb 7 6,b1 8 (.mkf 212 [.t 2,.t 3]),cd 9 211 7 8,I 5 9] (.seq (.seq (.drawn true 24 [I 10 5,ax 11 1 2,cb 12 11,bk 13 .lss 10 12,I 14 13,aq 14 true (ax 15 1 2),b4 14 true 16 5,aq 14 true (cp 17 5 15 16),aq 14 true (aI 18 0 1 17),aq 14 true (ax 19 1 18),aq 14 true (ax 20 1 3),aq 14 true (bk 21 .eql 19 20),dK 22 14 21]) (aT 22 (aa [I 23 5,I 4 23] .ret) .skip)) (aa [bQ 4 (-1)] .ret))))
@[simp] def Vq:List bt:=[.tmp 4]
def wS:C:=(aa [cM 2 0,dH 4 dS] (.seq (aa [aI 7 0 1 2,ax 8 1 7] (.block 0 (aa [aS 10 .eql 8 1,I 9 10] (aT 9 (.seq (aa [I 12 1,aI 13 1 1 2,ax 14 1 13,gF 15 12 [.t 14],I 11 15,c2 16 0 11,c2 17 1 11,dH 5 dS,bW 4 5 16,I 6 17] (aa [I 18 6] (aT 18 (aa [be 19 4 5,cQ 20 200 19,bW 4 4 20] .ret) .skip))) (aa [be 21 4 2,bW 4 4 21] .ret)) (aa [aS 23 .eql 8 4,I 22 23] (aT 22 (.seq (.drawn false 38 [aI 24 3 1 2,ax 25 1 24,jC 26 4 25 0,be 27 4 26,I 28 1,cd 29 153 27 28,aI 30 3 1 2,ax 31 1 30,jC 32 4 31 1,be 33 4 32,I 34 1,cd 35 153 33 34,cd 36 225 29 35,bW 4 4 36]) .ret) .skip)))))) (aa [be 37 4 2,bW 4 4 37] .ret)))
@[simp] def x4:List bt:=[.cell 4 true 4]
def D0:C:=(aa [cM 2 0,cM 3 1,bQ 4 0] (.seq (aa [aI 6 0 1 2,ax 7 1 6,aI 8 0 1 3,ax 9 1 8,bk 10 .neq 7 9] (aT 10 (aa [aI 11 0 1 2,ax 12 1 11,aI 13 0 1 3,ax 14 1 13,cd 15 232 12 14,I 4 15] .ret) .skip)) (.seq (aa [aI 16 1 1 2,ax 17 1 16,aI 18 1 1 3,ax 19 1 18,bk 20 .neq 17 19] (aT 20 (aa [aI 21 1 1 2,ax 22 1 21,aI 23 1 1 3,ax 24 1 23,cd 25 232 22 24,I 4 25] .ret) .skip)) (.seq (aa [aI 26 2 1 2,ax 27 1 26,aI 28 2 1 3,ax 29 1 28,bk 30 .neq 27 29] (aT 30 (.seq (aa [aI 31 2 1 2,ax 32 1 31,aI 33 2 1 3,ax 34 1 33,bk 35 .lss 32 34] (aT 35 (aa [bQ 4 (-1)] .ret) .skip)) (aa [bQ 4 1] .ret)) .skip)) (.seq (aa [aI 36 0 1 2,ax 37 1 36,aS 38 .neq 37 4] (aT 38 (aa [bQ 4 0] .ret) .skip)) (.seq (.seq (.drawn true 60 [aI 39 3 1 2,ax 40 1 39,jC 41 4 40 0,be 42 4 41,aI 43 3 1 3,ax 44 1 43,jC 45 4 44 0,be 46 4 45,cd 47 170 42 46,I 5 47]) (aa [I 48 5,aS 49 .neq 48 0] (aT 49 (aa [I 50 5,I 4 50] .ret) .skip))) (.seq (.drawn true 60 [aI 51 3 1 2,ax 52 1 51,jC 53 4 52 1,be 54 4 53,aI 55 3 1 3,ax 56 1 55,jC 57 4 56 1,be 58 4 57,cd 59 170 54 58,I 4 59]) .ret)))))))
@[simp] def Gi:List bt:=[.tmp 4]
def OG:C:=(aa [cM 2 0,cK (.box 3 (some 202) (.t 1)),dH 4 dS,bf 5 false] (aa [be 7 4 2,b1 8 (.mkf 240 [.t 3]),cd 9 239 7 8,I 6 9] (.seq (aa [I 10 6,aS 11 .gtr 10 5000] (aT 11 (aa [k3 12 dS [],bW 4 4 12,bf 5 false] .ret) .skip)) (aa [be 13 4 2,ax 14 1 3,cd 15 153 13 14,bW 4 4 15,bf 5 true] .ret))))
@[simp] def Lu:List bt:=[.cell 4 true 4,.tmp 5]
def OF:C:=(aa [dH 3 dS,bf 4 false] (.seq (aa [ax 6 1 1,I 7 0,cd 8 134 6 7,I 5 8] (aa [I 9 5,aS 10 .geq 9 0] (aT 10 (aa [ax 11 1 1,I 12 5,cp 13 5 11 12,fY 14 1 4 13,be 15 4 14,bW 4 3 15,bf 4 true] .ret) .skip))) (aa [k3 16 dS [],bW 4 3 16,bf 4 false] .ret)))
@[simp] def Lt:List bt:=[.cell 3 true 4,.tmp 4]
def OJ:C:=(aa [ez 2 1] (aa [cK (.bslm 5 (some 306) 1 3 []),I 3 5] (.seq (aa [I 6 0,cK (.range 7 none (.t 6))] (.block 0 (.loop (aa [⟨none,.next 8 (.t 7)⟩,c2 9 0 8] (.seq (aT 9 .skip (.exit 0)) (.block 1 (aa [b1 10 (.ment (.t 7)),c2 11 0 10,I 4 11] (.region [I 12 3,I 13 4,fk 14 1 3 [.t 13],cK (.appm 15 none 1 3 (.t 12) (.t 14)),I 3 15])))))))) (aa [I 16 3,cQ 17 242 16] (.seq (.pub 3 (.region [I 18 3,I 2 18])) .ret)))))
@[simp] def Vx:List bt:=[.tmp 2]
def Oz:C:=(aa [cM 2 0,bQ 4 0] (.seq (aa [I 7 1,aS 8 .lss 7 1] (aT 8 (aa [bQ 4 (-1)] .ret) .skip)) (.seq (aa [aI 9 0 1 2,ax 10 1 9,aS 11 .neq 10 4] (aT 11 (.seq (aa [aI 12 3 1 2,ax 13 1 12,cb 14 13,aS 15 .neq 14 0] (aT 15 (aa [bQ 4 (-1)] .ret) .skip)) (.seq (aa [aI 16 0 1 2,ax 17 1 16] (.block 0 (aa [aS 19 .eql 17 0,I 18 19] (aT 18 (aa [aI 20 1 1 2,ax 21 1 20,aS 22 .neq 21 0,I 23 22,aq 23 false (aI 24 2 1 2),aq 23 false (ax 25 1 24),wC 23 false 26 (.bin .neq false (.t 25) (.c (.str []))),dc 27 23 26] (aT 27 (aa [bQ 4 (-1)] .ret) .skip)) (aa [aS 29 .eql 17 1,I 28 29] (aT 28 (aa [aI 30 1 1 2,ax 31 1 30,aS 32 .lss 31 0,I 33 32,aq 33 false (aI 34 1 1 2),aq 33 false (ax 35 1 34),aq 33 false (aS 36 .gtr 35 100000),dc 37 33 36,I 38 37,aq 38 false (aI 39 2 1 2),aq 38 false (ax 40 1 39),wC 38 false 41 (.bin .neq false (.t 40) (.c (.str []))),dc 42 38 41] (aT 42 (aa [bQ 4 (-1)] .ret) .skip)) (aa [aS 44 .eql 17 2,I 43 44] (aT 43 (aa [aI 45 1 1 2,ax 46 1 45,aS 47 .neq 46 0,I 48 47,aq 48 false (aI 49 2 1 2),aq 48 false (ax 50 1 49),aq 48 false (cQ 51 128 50),aq 48 false (cx 52 51),dc 53 48 52] (aT 53 (aa [bQ 4 (-1)] .ret) .skip)) (aa [aS 55 .eql 17 3,I 54 55] (aT 54 (aa [aI 56 1 1 2,ax 57 1 56,aS 58 .lss 57 (-1000000000),I 59 58,aq 59 false (aI 60 1 1 2),aq 59 false (ax 61 1 60),aq 59 false (aS 62 .gtr 61 1000000000),dc 63 59 62,I 64 63,aq 64 false (aI 65 2 1 2),aq 64 false (ax 66 1 65),wC 64 false 67 (.bin .neq false (.t 66) (.c (.str []))),dc 68 64 67] (aT 68 (aa [bQ 4 (-1)] .ret) .skip)) (aa [bQ 4 (-1)] .ret))))))))))) (aa [bQ 4 1] .ret))) .skip)) (.seq (aa [aI 69 1 1 2,ax 70 1 69,aS 71 .neq 70 0,I 72 71,aq 72 false (aI 73 2 1 2),aq 72 false (ax 74 1 73),wC 72 false 75 (.bin .neq false (.t 74) (.c (.str []))),dc 76 72 75,I 77 76,aq 77 false (aI 78 3 1 2),aq 77 false (ax 79 1 78),aq 77 false (cb 80 79),aq 77 false (aS 81 .neq 80 2),dc 82 77 81] (aT 82 (aa [bQ 4 (-1)] .ret) .skip)) (aa [aI 83 3 1 2,ax 84 1 83,jC 85 4 84 0,be 86 4 85,I 87 1,aS 88 .sub 87 1,cd 89 194 86 88,I 5 89] (.seq (aa [I 90 5,aS 91 .lss 90 0] (aT 91 (aa [bQ 4 (-1)] .ret) .skip)) (aa [aI 92 3 1 2,ax 93 1 92,jC 94 4 93 1,be 95 4 94,I 96 1,aS 97 .sub 96 1,I 98 5,bk 99 .sub 97 98,cd 100 194 95 99,I 6 100] (.seq (aa [I 101 6,aS 102 .lss 101 0] (aT 102 (aa [bQ 4 (-1)] .ret) .skip)) (aa [I 103 5,b1 104 (.bin .add false (gp 1) (.t 103)),I 105 6,bk 106 .add 104 105,I 4 106] .ret)))))))))
@[simp] def Gh:List bt:=[.tmp 4]
def HP:C:=(aa [cM 1 0,dH 2 dS] (.seq (aa [aI 3 0 1 1,ax 4 1 3,aS 5 .neq 4 4] (aT 5 (aa [aI 6 0 1 1,ax 7 1 6,aI 8 1 1 1,ax 9 1 8,aI 10 2 1 1,ax 11 1 10,k3 12 dS [(0,1,(.t 7)),(1,1,(.t 9)),(2,1,(.t 11))],bW 4 2 12] .ret) .skip)) (.seq (.drawn true 25 [aI 13 3 1 1,ax 14 1 13,jC 15 4 14 0,be 16 4 15,cQ 17 200 16,aI 18 3 1 1,ax 19 1 18,jC 20 4 19 1,be 21 4 20,cQ 22 200 21,fk 23 4 32 [.t 17,.t 22],k3 24 dS [(0,1,(gp 4)),(3,1,(.t 23))],bW 4 2 24]) .ret)))
@[simp] def ajI:List bt:=[.cell 2 true 4]
def O9:C:=(aa [bQ 4 0] (aa [I 8 0,bQ 5 0,I 6 8] (.seq (.block 0 (.loop (.seq (aa [I 9 5,I 10 6,bk 11 .lss 9 10] (aT 11 .skip (.exit 0))) (.block 1 (aa [I 12 5,I 13 6,bk 14 .add 12 13,b1 15 (.conv .u64 (.t 14)),b1 16 (.bin .shr false (.t 15) (.c (.int .u64 1))),b1 17 (.conv .i64 (.t 16)),I 7 17] (aa [I 18 1,I 19 7,gF 20 18 [.t 19],cx 21 20] (aT 21 (.region [I 22 7,aS 23 .add 22 1,I 5 23]) (.region [I 24 7,I 6 24])))))))) (aa [I 25 5,I 4 25] .ret))))
@[simp] def Vz:List bt:=[.tmp 4]
def Ow:C:=(aa [bf 4 false] (.seq (.drawn true 12 [ax 5 1 1,I 6 0,cp 7 5 5 6,aI 8 0 1 7,ax 9 1 8,ax 10 1 2,bk 11 .geq 9 10,I 4 11]) .ret))
@[simp] def Vr:List bt:=[.tmp 4]
def OD:C:=(aa [cM 2 0,cM 3 1,dH 4 dS] (aa [be 5 4 2,be 6 4 3,fk 7 4 32 [.t 5,.t 6],k3 8 dS [(0,1,(gp 4)),(3,1,(.t 7))],bW 4 4 8] .ret))
@[simp] def Vu:List bt:=[.cell 4 true 4]
def OB:C:=(aa [bQ 4 0] (.seq (aa [I 5 0,I 6 1,bk 7 .lss 5 6] (aT 7 (aa [bQ 4 (-1)] .ret) .skip)) (.seq (aa [I 8 0,I 9 1,bk 10 .gtr 8 9] (aT 10 (aa [bQ 4 1] .ret) .skip)) (aa [bQ 4 0] .ret))))
@[simp] def Vt:List bt:=[.tmp 4]
def u2:C:=(aa [cM 2 0,bQ 4 0] (.seq (aa [aI 6 0 1 2,ax 7 1 6] (.block 0 (aa [aS 9 .eql 7 1,I 8 9] (aT 8 (aa [I 10 1,aI 11 1 1 2,ax 12 1 11,gF 13 10 [.t 12],b1 14 (.min2 (.t 13) (gp 5001)),I 4 14] .ret) (aa [aS 16 .eql 7 4,I 15 16] (aT 15 (aa [aI 17 3 1 2,ax 18 1 17,jC 19 4 18 0,be 20 4 19,I 21 1,cd 22 239 20 21,I 5 22] (.seq (aa [I 23 5,aS 24 .gtr 23 5000] (aT 24 (aa [I 25 5,I 4 25] .ret) .skip)) (aa [I 26 5,b1 27 (.bin .add false (gp 1) (.t 26)),aI 28 3 1 2,ax 29 1 28,jC 30 4 29 1,be 31 4 30,I 32 1,cd 33 239 31 32,bk 34 .add 27 33,b1 35 (.min2 (.t 34) (gp 5001)),I 4 35] .ret))) .skip)))))) (aa [bQ 4 1] .ret)))
@[simp] def uC:List bt:=[.tmp 4]
def OH:C:=(aa [bQ 3 0] (.seq (aa [ax 7 1 1,I 8 0,gF 9 7 [.t 8],I 6 9,c2 10 0 6,c2 11 1 6,dH 4 dS,bW 4 4 10,I 5 11] (aa [I 12 5] (aT 12 (aa [be 13 4 4,dI 14 194 [.t 13,(gp 5000)],I 3 14] .ret) .skip))) (aa [bQ 3 1] .ret)))
@[simp] def Vw:List bt:=[.tmp 3]
def bz:List (Nat×dA):=[
 (3,⟨1,8,.int .i64,.int .i64 0⟩),
 (9,⟨1,16,.str,.str []⟩),
 (23,⟨1,24,.slice 61,.slice 5 .nil []⟩),
 (30,⟨1,24,.slice 32,.slice 4 .nil []⟩),
 (32,⟨4,56,.struct [(0,3),(1,3),(2,9),(3,30)],.agg [.int .i64 0,.int .i64 0,.str [],.slice 4 .nil []]⟩),
 (61,⟨5,64,.struct [(0,3),(1,32)],.agg [.int .i64 0,.int .i64 0,.int .i64 0,.str [],.slice 4 .nil []]⟩),
 (112,⟨1,24,.slice 3,.slice 1 .nil []⟩),
 (154,⟨1,8,.map 3 4,.junk⟩),
 (163,⟨1,8,.int .u64,.int .u64 0⟩),
 (184,⟨1,8,.other,.junk⟩)]
theorem mixed:al.follows .mixedOrders=true:=by kernel_rfl
theorem bm{bz:List (Nat×dA)}(aL:fN al bz=true){f:FuncId}{fn:Func}(aH:al.funcs[f]? =some fn){c:C}{fh:List bt}{n:Nat}(eX:bY bz c fh n fn=true){args:List ah}{r:ah}(he:eD args→c0 al [] c (bu fh r) ⟨j2 0 args,[],[],0,[]⟩)(ar:args.length≤n:=by simp)(aK:aB (fun _=>eR) r:=by simp[aB]):bK al f args r:=bK.mk mixed aL aH eX ar aK he
theorem fO:fN al bz=true:=by kernel_rfl
theorem UF:bY bz HT ajL 1 Tryz.f68=true:=by kernel_rfl
theorem QN:al.funcs[(68:Nat)]? =some Tryz.f68:=Tryz.func68
theorem aiZ:bY bz PK aku 1 Tryz.f91=true:=by kernel_rfl
theorem aco:al.funcs[(91:Nat)]? =some Tryz.f91:=Tryz.func91
theorem ahU:bY bz OE Vv 2 Tryz.f95=true:=by kernel_rfl
theorem abh:al.funcs[(95:Nat)]? =some Tryz.f95:=Tryz.func95
theorem ahw:bY bz Ob Gc 1 Tryz.f100=true:=by kernel_rfl
theorem aaT:al.funcs[(100:Nat)]? =some Tryz.f100:=Tryz.func100
theorem ahJ:bY bz Ot Vo 2 Tryz.f108=true:=by kernel_rfl
theorem aa6:al.funcs[(108:Nat)]? =some Tryz.f108:=Tryz.func108
theorem aiW:bY bz PH VK 2 Tryz.f114=true:=by kernel_rfl
theorem ack:al.funcs[(114:Nat)]? =some Tryz.f114:=Tryz.func114
theorem ahv:bY bz Oa Vf 1 Tryz.f117=true:=by kernel_rfl
theorem aaS:al.funcs[(117:Nat)]? =some Tryz.f117:=Tryz.func117
theorem ahm:bY bz N1 Gb 1 Tryz.f128=true:=by kernel_rfl
theorem aaJ:al.funcs[(128:Nat)]? =some Tryz.f128:=Tryz.func128
theorem uv:bY bz sd sV 2 Tryz.f129=true:=by kernel_rfl
theorem tI:al.funcs[(129:Nat)]? =some Tryz.f129:=Tryz.func129
theorem ahL:bY bz Ov Vq 2 Tryz.f134=true:=by kernel_rfl
theorem aa8:al.funcs[(134:Nat)]? =some Tryz.f134:=Tryz.func134
theorem zZ:bY bz wS x4 2 Tryz.f153=true:=by kernel_rfl
theorem yU:al.funcs[(153:Nat)]? =some Tryz.f153:=Tryz.func153
theorem K0:bY bz D0 Gi 2 Tryz.f170=true:=by kernel_rfl
theorem IA:al.funcs[(170:Nat)]? =some Tryz.f170:=Tryz.func170
theorem ahW:bY bz OG Lu 2 Tryz.f181=true:=by kernel_rfl
theorem abj:al.funcs[(181:Nat)]? =some Tryz.f181:=Tryz.func181
theorem ahV:bY bz OF Lt 2 Tryz.f182=true:=by kernel_rfl
theorem abi:al.funcs[(182:Nat)]? =some Tryz.f182:=Tryz.func182
theorem ahZ:bY bz OJ Vx 1 Tryz.f189=true:=by kernel_rfl
theorem abm:al.funcs[(189:Nat)]? =some Tryz.f189:=Tryz.func189
theorem ahP:bY bz Oz Gh 2 Tryz.f194=true:=by kernel_rfl
theorem abc:al.funcs[(194:Nat)]? =some Tryz.f194:=Tryz.func194
theorem UB:bY bz HP ajI 1 Tryz.f200=true:=by kernel_rfl
theorem QJ:al.funcs[(200:Nat)]? =some Tryz.f200:=Tryz.func200
theorem aiq:bY bz O9 Vz 2 Tryz.f211=true:=by kernel_rfl
theorem abN:al.funcs[(211:Nat)]? =some Tryz.f211:=Tryz.func211
theorem ahM:bY bz Ow Vr 3 Tryz.f212=true:=by kernel_rfl
theorem aa9:al.funcs[(212:Nat)]? =some Tryz.f212:=Tryz.func212
theorem ahT:bY bz OD Vu 2 Tryz.f225=true:=by kernel_rfl
theorem abg:al.funcs[(225:Nat)]? =some Tryz.f225:=Tryz.func225
theorem ahR:bY bz OB Vt 2 Tryz.f232=true:=by kernel_rfl
theorem abe:al.funcs[(232:Nat)]? =some Tryz.f232:=Tryz.func232
theorem xY:bY bz u2 uC 2 Tryz.f239=true:=by kernel_rfl
theorem wZ:al.funcs[(239:Nat)]? =some Tryz.f239:=Tryz.func239
theorem ahX:bY bz OH Vw 2 Tryz.f240=true:=by kernel_rfl
theorem abk:al.funcs[(240:Nat)]? =some Tryz.f240:=Tryz.func240
def afL(s:List dz)(k:Nat)(st:bp):Prop:=∃i:Nat,1≤i∧i≤s.length∧k=s.length-i∧((s.drop 1).all mg=(s.drop i).all mg)∧st=⟨[(0,.str s),(3,.int .i64 i)],[],[],0,[]⟩
theorem td(s:List dz):bK al 128 [.str s] (.bool (jv s)):=by
 refine bK.mk mixed fO aaJ ahm (by simp) (by simp[aB]) fun ae=>?_;unfold N1;simp;(with_reducible repeat' first|((first|refine bR (fun h=>?_) fun h=>?_|refine bU (fun h=>?_) fun h=>?_|refine bT (fun h=>?_) fun h=>?_)<;>try simp at h)|refine aj ?_|simp);case refine_1.refine_1.refine_1.refine_2=>
  have aeP:jv s=(s.drop 1).all mg:=by simp[jv,low];omega
  rw[aeP];refine tF (afL s) (s.length-1) _ ⟨by simp,by simp[gE],by simp[oA],by simp⟩ ⟨1,by omega,by omega,rfl,rfl,rfl⟩ ?_;rintro k st ⟨i,lM,hl,ab,lg,rfl⟩ qn cN;rw[lg];simp;refine bR (fun bA=>?_) (fun tT=>?_)
  ·simp at bA;have aR:s.drop i=s[i]?.getD 0::s.drop (i+1):=by rw[k5 bA];simp[bA]
   simp;(with_reducible repeat' first|((first|refine bR (fun h=>?_) fun h=>?_|refine bU (fun h=>?_) fun h=>?_|refine bT (fun h=>?_) fun h=>?_)<;>try simp at h)|refine aj ?_|simp);all_goals first
    |(simp[bu,Gb,aV,aW,aU,aR,mg,low];omega)
    |(simp only[DD];refine⟨s.length-(i+1),_,by omega,⟨by simp,by simp[gE],by simp[oA],by simp⟩,i+1,by omega,by omega,rfl,?_,rfl⟩;rw[lg,aR];simp[mg,low];omega)
  ·simp at tT;have:s.drop i=[]:=by simp;omega
   simp[bu,Gb,aV,aW,aU,this]
 all_goals simp[bu,Gb,aV,aW,aU,jv,low]
 all_goals omega
theorem Xk(m:Nat):∀(t:bJ),t.sz≤m→∀(room:Int),0≤room∧room≤10000→bK al 194 [enc t,.int .i64 room] (.int .i64 (fs t room)):=by
 induction m with
 |zero=>intro t aL;cases t;simp[bJ.sz]at aL
 |succ m bN=>
 rintro⟨k,n,s,args⟩ aL room rn;refine bm fO abc ahP fun aQ=>?_;unfold Oz;simp[bJ.kind,bJ.num,bJ.name,bJ.args];(with_reducible repeat' first|((first|refine bR (fun h=>?_) fun h=>?_|refine bU (fun h=>?_) fun h=>?_|refine bT (fun h=>?_) fun h=>?_)<;>try simp at h)|refine aj ?_|simp);all_goals try refine cV.val (by simp) (td _) ?_
 all_goals try simp
 (with_reducible repeat' first|((first|refine bR (fun h=>?_) fun h=>?_|refine bU (fun h=>?_) fun h=>?_|refine bT (fun h=>?_) fun h=>?_)<;>try simp at h)|refine aj ?_|simp);all_goals try simp[bu,Gh,aV,aW,aU]
 case succ.refine_2.refine_2.refine_1.refine_1.refine_2=>
  rename_i bq J U ao;match args,h with
  |[a,b],_=>
  simp[bJ.sz,bJ.szL]at aL;subst J U ao;simp;(with_reducible repeat' first|((first|refine bR (fun h=>?_) fun h=>?_|refine bU (fun h=>?_) fun h=>?_|refine bT (fun h=>?_) fun h=>?_)<;>try simp at h)|refine aj ?_|simp);refine cV.val (by simp) (bN a (by omega) (room-1) (by omega)) ?_;simp;have bD:=KS a (room-1);have mM:=CF a (room-1);(with_reducible repeat' first|((first|refine bR (fun h=>?_) fun h=>?_|refine bU (fun h=>?_) fun h=>?_|refine bT (fun h=>?_) fun h=>?_)<;>try simp at h)|refine aj ?_|simp)
  ·simp[bu,Gh,aV,aW,aU];rw[KR];simp;omega
  ·refine cV.val (by simp) (bN b (by omega) (room-1-fs a (room-1)) (by omega)) ?_;simp;have ae:=KS b (room-1-fs a (room-1));have fI:=CF b (room-1-fs a (room-1));(with_reducible repeat' first|((first|refine bR (fun h=>?_) fun h=>?_|refine bU (fun h=>?_) fun h=>?_|refine bT (fun h=>?_) fun h=>?_)<;>try simp at h)|refine aj ?_|simp);all_goals simp[bu,Gh,aV,aW,aU]
   all_goals rw[KR];simp;omega
 all_goals rw[KR]
 all_goals simp_all[kY]
 all_goals first|omega|(split<;>simp at h⊢)
theorem G3(t:bJ):bK al 117 [enc t] (.bool t.fits):=by refine bm fO aaS ahv fun aQ=>?_;unfold Oa;simp;refine cV.val (by simp) (Xk t.sz t (eV _) 5000 (by omega)) ?_;simp;simp[bu,Vf,aV,aW,aU];simp[bJ.fits]
theorem amf(t:T):bK al 117 [t.e] (.bool t.fit):=by have:=G3 t.tm;rwa[tC,bJ.fits_T]at this
theorem Ha(a b:T):bK al 225 [a.e,b.e] (T.pair a b).e:=by refine bm fO abg ahT fun aQ=>?_;unfold OD;simp;(with_reducible repeat' first|((first|refine bR (fun h=>?_) fun h=>?_|refine bU (fun h=>?_) fun h=>?_|refine bT (fun h=>?_) fun h=>?_)<;>try simp at h)|refine aj ?_|simp);all_goals try simp[bu,Vu,aV,aW,aU]
theorem G5(a b:T):bK al 114 [a.e,b.e] (T.pair a b).e:=by refine bm fO ack aiW fun aQ=>?_;unfold PH;simp;(with_reducible repeat' first|((first|refine bR (fun h=>?_) fun h=>?_|refine bU (fun h=>?_) fun h=>?_|refine bT (fun h=>?_) fun h=>?_)<;>try simp at h)|refine aj ?_|simp);all_goals try simp[bu,VK,aV,aW,aU]
theorem te(t:T):bK al 200 [t.e] t.e:=by
 induction t with
 |pair a b dM dN=>refine bm fO QJ UB fun aQ=>?_;unfold HP;exact b6
 |_=>refine bm fO QJ UB fun aQ=>?_;unfold HP;exact b6
theorem nN(a b:Int):bK al 232 [.int .i64 a,.int .i64 b] (.int .i64 (ey a b)):=by
 refine bm fO abe ahR fun aQ=>?_;unfold OB;simp;((with_reducible repeat' first|refine aj ?_|simp|((first|apply bR|apply bU|apply bT)<;>intro h<;>try simp at h))<;>(try exact cv));all_goals simp[bu,Vt,aV,aW,aU]
 all_goals simp[ey]
 all_goals omega
theorem AP(a:T):∀b:T,bK al 170 [a.e,b.e] (.int .i64 (er a b)):=by
 induction a with
 |pair bC a2 Fb Fc=>
  intro b;cases b with
  |pair b8 b3=>
   refine bm fO IA K0 fun aQ=>?_;unfold D0;simp;((with_reducible repeat' first|refine aj ?_|refine aE (Fb _) ?_|refine aF (Fb _) ?_|refine aE (Fc _) ?_|refine aF (Fc _) ?_|refine aE (nN _ _) ?_|refine aF (nN _ _) ?_|simp|((first|apply bR|apply bU|apply bT)<;>intro h<;>try simp at h))<;>(try exact cv));all_goals simp[bu,Gi,aV,aW,aU]
   all_goals simp_all[er]
  |_=>
   refine bm fO IA K0 fun aQ=>?_;unfold D0;simp;(with_reducible repeat' first|refine aj ?_|refine aE (nN _ _) ?_|refine aF (nN _ _) ?_|simp);all_goals simp[bu,Gi,aV,aW,aU]
   all_goals simp_all[er]
 |_=>
  intro b;cases b<;>
  (refine bm fO IA K0 fun aQ=>?_;unfold D0
   simp
   (with_reducible repeat' first|((first|apply bR|apply bU|apply bT)<;>intro h<;>try simp at h)|refine aj ?_|refine aE (nN _ _) ?_|refine aF (nN _ _) ?_|simp)
   all_goals simp[bu,Gi,aV,aW,aU]
   all_goals simp_all[er,kp])
theorem rV(a b:T):bK al 108 [a.e,b.e] (.bool (decide (a=b))):=by
 refine bm fO aa6 ahJ fun aQ=>?_;unfold Ot;simp;(with_reducible repeat' first|refine aj ?_|refine aE (AP _ _) ?_|refine aF (AP _ _) ?_|simp);all_goals simp[bu,Vo,aV,aW,aU]
 have:=qB a b;by_cases h:er a b=0<;>simp_all
open Classical in
def afP(l:List cX)(k:Nat)(st:bp):Prop:=∃i:Nat,i≤l.length∧k=l.length-i∧(∀j,j<i→zX l j)∧st=⟨[(0,.slice 5 .no (l.map cX.e)),(8,.slice 5 .no (l.map cX.e)),(9,.int .i64 l.length),(10,.int .i64 i)],[],[],0,[]⟩
open Classical in
theorem amg(l:List cX):bK al 100 [.slice 5 .no (l.map cX.e)] (.bool (decide (yA l))):=by
 refine bm fO aaT ahw fun aQ=>?_;unfold Ob;simp;(with_reducible repeat' first|((first|apply bR|apply bU|apply bT)<;>intro h<;>try simp at h)|refine aj ?_|simp)
 ·simp[bu,Gc,aV,aW,aU];intro cr;have:=cr.1;omega
 ·refine tF (afP l) l.length _ ⟨by simp,by simp[gE],by simp[oA],by simp⟩ ⟨0,by omega,by omega,by simp,rfl⟩ ?_;rintro k st ⟨i,hi,ab,lg,rfl⟩ qn cN;simp;refine bR (fun bA=>?_) (fun tT=>?_)
  ·simp at bA;obtain⟨b,ae⟩:∃b,l[i]? =some b:=⟨_,cf bA⟩;obtain⟨c,aw⟩:∃c,l[i-1]? =some c:=⟨_,cf (by omega)⟩;clear qn cN;simp[ae,aw];((with_reducible repeat' first|refine aj ?_|refine aE (G3 _) ?_|refine aF (G3 _) ?_|simp[aw]|((first|apply bR|apply bU|apply bT)<;>intro h<;>try simp at h))<;>(try exact cv));all_goals first
    |(simp[bu,Gc,aV,aW,aU];intro cr;have J:=cr.2 i bA b ae;have U:=J.2.1 c;have ao:=J.2.2;first|omega|(have:=U (by omega) aw;omega)|(rw[ao]at h;cases h)|simp_all)
    |(simp only[DD];refine⟨l.length-(i+1),_,by omega,⟨by simp,by simp[gE],by simp[oA],by simp⟩,i+1,by omega,rfl,fun j af=>?_,rfl⟩
      by_cases e:j=i
      ·subst e;intro b2 fI;rw[ae]at fI;cases fI;refine⟨by omega,fun cq bq hv=>?_,by assumption⟩;rw[aw]at hv;cases hv;omega
      ·exact lg j (by omega))
  ·simp at tT;simp[bu,Gc,aV,aW,aU];exact⟨by omega,fun j af=>lg j (by omega)⟩
def lX(p:Nat→Bool)(i j:Nat):Nat:=if i<j then(if p ((i+j)/2)then lX p i ((i+j)/2)else lX p ((i+j)/2+1) j)else i
termination_by j-i
def afO(s:cE)(n g:Nat)(da:List ah)(p:Nat→Bool)(k:Nat)(st:bp):Prop:=∃i j:Nat,i≤j∧j≤n∧k=j-i∧lX p i j=lX p 0 n∧st=⟨[(1,.func g da),(5,.int .i64 i),(6,.int .i64 j)],s.b,s.e,0,cW s⟩
theorem ac2(s:cE)(ag:dT s)(n g:Nat)(aA:n≤1000000)(da:List ah)(aw:aG (inObs s) da)(cO:cY da=da)(p:Nat→Bool)(aH:∀i:Nat,i<n→bF al g (.int .i64 i::da) s fun r ai=>r= .bool (p i)∧ai=s):
  bF al 211 [.int .i64 n,.func g da] s fun r ai=>r= .int .i64 (lX p 0 n)∧ai=s:=by
 refine bF.mk mixed fO abN aiq (by simp) ag.obj fun aQ cN=>?_;unfold O9;simp;refine tF (afO s n g da p) n _ (iz.ob ag (by simp[aw]) aO aO) ⟨0,n,by omega,by omega,rfl,rfl,rfl⟩ ?_;rintro k st ⟨i,j,lN,af,ab,JO,rfl⟩ qn cN;clear qn cN;simp;refine bR (fun bA=>?_) (fun tT=>?_)
 ·simp at bA;have hw:hj.wrap ((i:Int)+j)=i+j:=by simp[r2,nO,r1];omega
  obtain⟨m,hm⟩:∃m,m=(i+j)/2:=⟨_,rfl⟩;have aR:Int.fdiv ((i:Int)+j) 2=(m:Int):=by rw[Int.fdiv_eq_ediv_of_nonneg _ (by omega)];omega
  have oi:IntKind.i64.wrap (m:Int)=m:=by rw[oF];omega
  have Jc:hj.bits=64:=rfl;simp[hw,cO,Jc,aR,oi];refine⟨by unfold sH;omega,?_⟩;refine cV.ob (aH m (by omega)) ag aO aO (by simp[aw]) ?_;rintro r ai ⟨rfl,rfl⟩;refine⟨Same.refl _,?_⟩;simp[gA];(with_reducible repeat' first|((first|apply bR|apply bU|apply bT)<;>intro h<;>try simp at h)|refine aj ?_|simp)
  ·simp only[DD];refine⟨j-(m+1),_,by omega,iz.ob ag (by simp[aw]) aO aO,m+1,j,by omega,by omega,rfl,?_,rfl⟩;rw[←JO];conv=>rhs;unfold lX
   simp[bA,←hm,h]
  ·simp only[DD];refine⟨m-i,_,by omega,iz.ob ag (by simp[aw]) aO aO,i,m,by omega,by omega,rfl,?_,rfl⟩;rw[←JO];conv=>rhs;unfold lX
   simp[bA,←hm,h]
 ·simp at tT;have:lX p 0 n=i:=by rw[←JO];unfold lX;rw[if_neg (by omega)]
  rw[this];simp;refine cH.at s (.inl rfl) ag (Same.refl s) aO aO ?_;simp[cI,Vz,aV,aW,aU]
def mI(l:List au)(v:Int):Int:=
 let i:=lX (fun i=>match l[i]? with|some b=>decide (v≤b.v)|none=>false) 0 l.length
 match l[i]? with|some b=>if b.v=v then i else-1|none=> -1
theorem ac9(l:List au)(v:Int)(i:Nat)(b:au)(ae:l[i]? =some b):bF al 212 [.int .i64 i,.ptr (.obj 101) 0,.ptr (.obj 102) 0] ⟨[(.obj 101,[.slice 5 .no (l.map au.e)]),(.obj 102,[.int .i64 v])],[]⟩ fun r ai=>r= .bool (decide (v≤b.v))∧ai=⟨[(.obj 101,[.slice 5 .no (l.map au.e)]),(.obj 102,[.int .i64 v])],[]⟩:=by have ag:dT ⟨[(.obj 101,[.slice 5 .no (l.map au.e)]),(.obj 102,[.int .i64 v])],[]⟩:=(dT.of ⟨by intro m;simp[Pv.look],by intro m;simp[Pv.look]⟩ (by simp[aG,aB,inObs,Pv.look]) (by simp[aG,aB,inObs,Pv.look]));have bA:i<l.length:=(fw.1 ae).1;refine bF.mk mixed fO aa9 ahM (by simp) ag.obj fun aQ cN=>?_;unfold Ow;simp[ae];(with_reducible repeat' first|refine aj ?_|simp);refine cH.at _ (.inl rfl) ag (Same.refl _) aO aO ?_;simp[cI,Vr,aV,aW,aU]
theorem tf(l:List au)(v:Int)(ar:l.length≤1000000):bK al 134 [.slice 5 .no (l.map au.e),.int .i64 v] (.int .i64 (mI l v)):=by
 refine bm fO aa8 ahL fun aQ=>?_;unfold Ov;simp;have ag:dT ⟨[(.obj 101,[.slice 5 .no (l.map au.e)]),(.obj 102,[.int .i64 v])],[]⟩:=(dT.of ⟨by intro m;simp[Pv.look],by intro m;simp[Pv.look]⟩ (by simp[aG,aB,inObs,Pv.look]) (by simp[aG,aB,inObs,Pv.look]));refine cV.ob (ac2 ⟨[(.obj 101,[.slice 5 .no (l.map au.e)]),(.obj 102,[.int .i64 v])],[]⟩ ag l.length 212 ar [.ptr (.obj 101) 0,.ptr (.obj 102) 0] (by simp[inObs]) (by simp) (fun i=>match l[i]? with|some b=>decide (v≤b.v)|none=>false) fun i hi=>?_) ag aO aO (by simp[inObs]) ?_
 ·obtain⟨b,ae⟩:∃b,l[i]? =some b:=⟨_,cf hi⟩;simp only[ae];exact ac9 l v i b ae
 rintro r ai ⟨rfl,rfl⟩;refine⟨Same.refl _,?_⟩;unfold mI;generalize lX _ 0 l.length=i;cases ae:l[i]? with
 |none=>
  have bA:¬i<l.length:=by simpa using ae
  simp[cn,bA];exact b6
 |some b=>
  have bA:i<l.length:=(fw.1 ae).1;simp[cn,ae,bA];((with_reducible repeat' first|refine aj ?_|simp[ae]|((first|apply bR|apply bU|apply bT)<;>intro h<;>try simp at h))<;>(try exact cv));all_goals simp[bu,Vq,aV,aW,aU]
  all_goals simp_all
def rK(l:List au)(v:Int):aY T:=if mI l v<0 then none else(l[(mI l v).toNat]?).map (·.t)
theorem Q3(l:List au)(v:Int):mI l v<l.length∧ -1≤mI l v:=by
 unfold mI;simp only;split
 ·rename_i b ae;have:=(fw.1 ae).1;split<;>omega
 ·omega
theorem Rm(l:List au)(v:Int)(ar:l.length≤1000000)(o:aY T)(av:o=rK l v):bF al 182 [.int .i64 v,.ptr (.obj 201) 0] ⟨[(.obj 201,[.slice 5 .no (l.map au.e)])],[]⟩ fun r ai=>r= .tuple [(o.getD .nil).e,.bool o.isSome]∧ai=⟨[(.obj 201,[.slice 5 .no (l.map au.e)])],[]⟩:=by
 have ag:dT ⟨[(.obj 201,[.slice 5 .no (l.map au.e)])],[]⟩:=(dT.of ⟨by intro m;simp[Pv.look],by intro m;simp[Pv.look]⟩ (by simp[aG,aB,inObs,Pv.look]) (by simp[aG,aB,inObs,Pv.look]));have bA:=(Q3 l v).1;unfold rK at av;refine bF.mk mixed fO abi ahV (by simp) ag.obj fun aQ cN=>?_;unfold OF;simp;(with_reducible repeat' first|((first|apply bR|apply bU|apply bT)<;>intro h<;>try simp at h)|refine aj ?_|refine aE (tf l v ar) ?_|refine aF (tf l v ar) ?_|simp)
 ·obtain⟨b,ae⟩:∃b,l[(mI l v).toNat]? =some b:=⟨_,cf (by omega)⟩;have hK:o=some b.t:=by rw[av,if_neg (by omega),ae];rfl
  simp[ae];(with_reducible repeat' first|((first|apply bR|apply bU|apply bT)<;>intro h<;>try simp at h)|refine aj ?_|simp[ae]);refine cH.at _ (.inl rfl) ag (Same.refl _) aO aO ?_;simp[cI,Lt,aV,aW,aU];simp[hK]
 ·have hK:o=none:=by rw[av,if_pos h]
  refine cH.at _ (.inl rfl) ag (Same.refl _) aO aO ?_;simp[cI,Lt,aV,aW,aU];simp[hK]
theorem adt(s:cE)(ag:dT s)(g:Nat)(da:List ah)(aw:aG (inObs s) da)(cO:cY da=da)(f:Int→Int)(BJ:∀v,-1≤f v)(t:T)(aH:∀v,t.occ v=true→bF al g (.int .i64 v::da) s fun r ai=>r= .int .i64 (f v)∧ai=s):
  bF al 239 [t.e,.func g da] s fun r ai=>r= .int .i64 (k0 f t)∧ai=s:=by
 have aA:∀m,Pv.look (.loc m) s.b=none:=ag.obj.1;have hu:∀m cs,cw (.loc m) cs s.b=s.b++[(.loc m,cs)]:=fun m cs=>jB (aA m);have av:∀m,aD.loc m∉cW s:=jx ag.obj;induction t with
 |pair a b dM dN=>
  have apk:=GM f BJ a;have apn:=GM f BJ b;refine bF.mk mixed fO wZ xY (by simp) ag.obj fun aQ cN=>?_;unfold u2;simp[hu,av,cD,aA,cO];(with_reducible repeat' first|refine aj ?_|simp[hu,av,cD,aA]);refine cV.ob (dM fun v aJ=>aH v (by simp[T.occ,aJ])) ag aO aO (by simp[aw]) ?_;rintro r ai ⟨rfl,rfl⟩;refine⟨Same.refl _,?_⟩;simp[gA,hT,cn,aA];(with_reducible repeat' first|((first|apply bR|apply bU|apply bT)<;>intro h<;>try simp at h)|refine aj ?_|simp[hu,av,cD,aA])
  ·refine cH.at ai (.inl rfl) ag (Same.refl _) aO aO ?_;simp[cI,uC,aV,aW,aU];simp[k0];omega
  ·rw[cO];refine cV.ob (dN fun v aJ=>aH v (by simp[T.occ,aJ])) ag aO aO (by simp[aw]) ?_;rintro r s2 ⟨rfl,rfl⟩;refine⟨Same.refl _,?_⟩;simp[gA,hT,cn,aA];(with_reducible repeat' first|((first|apply bR|apply bU|apply bT)<;>intro h<;>try simp at h)|refine aj ?_|simp[hu,av,cD,aA]);refine cH.at s2 (.inl rfl) ag (Same.refl _) aO aO ?_;simp[cI,uC,aV,aW,aU];simp[k0];omega
 |var n=>refine bF.mk mixed fO wZ xY (by simp) ag.obj fun aQ cN=>?_;unfold u2;simp[hu,av,cD,aA,cO];(with_reducible repeat' first|refine aj ?_|simp[hu,av,cD,aA]);refine cV.ob (aH n (by simp[T.occ])) ag aO aO (by simp[aw]) ?_;rintro r ai ⟨rfl,rfl⟩;refine⟨Same.refl _,?_⟩;simp[gA,hT,cn,aA];refine cH.at ai (.inl rfl) ag (Same.refl _) aO aO ?_;simp[cI,uC,aV,aW,aU];simp[k0]
 |_=>refine bF.mk mixed fO wZ xY (by simp) ag.obj fun aQ cN=>?_;unfold u2;simp[hu,av,cD,aA,cO];(with_reducible repeat' first|refine aj ?_|simp[hu,av,cD,aA]);refine cH.at s (.inl rfl) ag (Same.refl _) aO aO ?_;simp[cI,uC,aV,aW,aU];simp[k0]
theorem Rl(s:cE)(ag:dT s)(g:Nat)(da:List ah)(aw:aG (inObs s) da)(cO:cY da=da)(f:Int→aY T)(t:T)(aH:∀v,t.occ v=true→bF al g (.int .i64 v::da) s fun r ai=>r= .tuple [((f v).getD .nil).e,.bool (f v).isSome]∧ai=s):
  bF al 153 [t.e,.func g da] s fun r ai=>r=(t.sub f).e∧ai=s:=by
 have aA:∀m,Pv.look (.loc m) s.b=none:=ag.obj.1;have cF:∀m,Pv.look (.loc m) s.e=none:=ag.obj.2;have hu:∀m cs,cw (.loc m) cs s.b=s.b++[(.loc m,cs)]:=fun m cs=>jB (aA m);have av:∀m,aD.loc m∉cW s:=jx ag.obj;have jX:∀m p r,cw (.loc m) p (s.b++r)=s.b++cw (.loc m) p r:=fun m p r=>AM (aA m);induction t with
 |pair a b dM dN=>refine bF.mk mixed fO yU zZ (by simp) ag.obj fun aQ cN=>?_;unfold wS;simp[hu,av,cD,aA,cF,cO,jX];(with_reducible repeat' first|refine aj ?_|simp[hu,av,cD,aA,cF,jX]);refine h1.ob (dM fun v aJ=>aH v (by simp[T.occ,aJ])) ag ag (Same.refl _) aO aO (by simp[aw]) ?_;simp[gA,hT,cn,aA,cO];refine h1.ob (dN fun v aJ=>aH v (by simp[T.occ,aJ])) ag ag (Same.refl _) aO aO (by simp[aw]) ?_;simp[gA,hT,cn,aA,cO];(with_reducible repeat' first|refine aj ?_|refine aE (Ha _ _) ?_|refine aF (Ha _ _) ?_|simp);refine cH.at s (.inl rfl) ag (Same.refl _) aO aO ?_;simp[cI,x4,aV,aW,aU,cD,aA];simp[T.sub]
 |var n=>
  refine bF.mk mixed fO yU zZ (by simp) ag.obj fun aQ cN=>?_;unfold wS;simp[hu,av,cD,aA,cO,jX];(with_reducible repeat' first|refine aj ?_|simp[hu,av,cD,aA,jX]);refine cV.ob (aH n (by simp[T.occ])) ag aO aO (by simp[aw]) ?_;rintro r ai ⟨rfl,rfl⟩;refine⟨Same.refl _,?_⟩;simp[gA,hT,cn,aA,hu,av,cD];(with_reducible repeat' first|((first|apply bR|apply bU|apply bT)<;>intro h<;>try simp at h)|refine aj ?_|refine aE (te _) ?_|refine aF (te _) ?_|simp[hu,av,cD,aA,jX]);all_goals refine cH.at ai (.inl rfl) ag (Same.refl _) aO aO ?_
  all_goals simp[cI,x4,aV,aW,aU,cD,aA]
  all_goals cases qp:f n<;>simp_all[T.sub]
 |_=>refine bF.mk mixed fO yU zZ (by simp) ag.obj fun aQ cN=>?_;unfold wS;simp[hu,av,cD,aA,cO,jX];(with_reducible repeat' first|((first|apply bR|apply bU|apply bT)<;>intro h<;>try simp at h)|refine aj ?_|simp[hu,av,cD,aA,jX]);refine cH.at s (.inl rfl) ag (Same.refl _) aO aO ?_;simp[cI,x4,aV,aW,aU,cD,aA];simp[T.sub]
def nU(l:List au):cE:=⟨[(.obj 201,[.slice 5 .no (l.map au.e)])],[]⟩
def qR(l:List au):cE:=⟨[(.obj 201,[.slice 5 .no (l.map au.e)]),(.obj 202,[.func 182 [.ptr (.obj 201) 0]])],[]⟩
theorem AX(l:List au):dT (nU l):=by unfold nU;exact(dT.of ⟨by intro m;simp[Pv.look],by intro m;simp[Pv.look]⟩ (by simp[aG,aB,inObs,Pv.look]) (by simp[aG,aB,inObs,Pv.look]))
theorem Hj(l:List au):dT (qR l):=by unfold qR;exact(dT.of ⟨by intro m;simp[Pv.look],by intro m;simp[Pv.look]⟩ (by simp[aG,aB,inObs,Pv.look]) (by simp[aG,aB,inObs,Pv.look]))
def tK(l:List au)(v:Int):Int:=match rK l v with|some x=>fs x.tm 5000|none=>1
theorem acS(l:List au)(v:Int): -1≤tK l v:=by
 unfold tK;split
 ·rename_i x _;rcases CF x.tm 5000 with h|h<;>omega
 ·omega
theorem Xl(t:T):bK al 194 [t.e,.int .i64 5000] (.int .i64 (fs t.tm 5000)):=by have:=Xk t.tm.sz t.tm (eV _) 5000 (by omega);rwa[tC]at this
theorem adq(l:List au)(v:Int)(ar:l.length≤1000000):bF al 240 [.int .i64 v,.ptr (.obj 202) 0] (qR l) fun r ai=>r= .int .i64 (tK l v)∧ai=qR l:=by
 have ag:=Hj l;unfold qR at ag⊢;refine bF.mk mixed fO abk ahX (by simp) ag.obj fun aQ cN=>?_;unfold OH;simp;refine cV.ob (Rm l v ar _ rfl) (AX l) aO aO (by simp[inObs]) ?_;rintro r ai ⟨rfl,rfl⟩;refine⟨Same.refl _,?_⟩;simp[cn];(with_reducible repeat' first|((first|apply bR|apply bU|apply bT)<;>intro h<;>try simp at h)|refine aj ?_|refine aE (Xl _) ?_|refine aF (Xl _) ?_|simp);all_goals refine cH.at _ (.inl rfl) ag (Same.refl _) aO aO ?_
 all_goals simp[cI,Vw,aV,aW,aU]
 all_goals unfold tK
 all_goals cases bH:rK l v<;>simp_all
def CW(l:List au)(t:T):T:=t.sub (rK l)
def sT(l:List au)(t:T):Bool:=decide (k0 (tK l) t≤5000)
theorem adp(l:List au)(t:T)(ar:l.length≤1000000):bF al 181 [t.e,.func 182 [.ptr (.obj 201) 0]] (nU l) fun r ai=>r= .tuple [(if sT l t then CW l t else .nil).e,.bool (sT l t)]∧ai=nU l:=by
 have ag:=AX l;unfold nU at ag⊢;refine bF.mk mixed fO abj ahW (by simp) ag.obj fun aQ cN=>?_;unfold OG;simp;refine cV.ob (adt (qR l) (Hj l) 240 [.ptr (.obj 202) 0] (by simp[inObs,qR]) (by simp) (tK l) (acS l) t fun v aJ=>adq l v ar) (Hj l) (by unfold qR;exact aO) (by unfold qR;exact aO) (by simp[inObs,qR]) ?_;rintro r ai ⟨rfl,rfl⟩;refine⟨Same.refl _,?_⟩;unfold qR;simp[cn];(with_reducible repeat' first|((first|apply bR|apply bU|apply bT)<;>intro h<;>try simp at h)|refine aj ?_|simp)
 ·refine cH.at _ (.inl rfl) ag (Same.refl _) aO aO ?_;simp[cI,Lu,aV,aW,aU];have:sT l t=false:=by simp[sT];omega
  simp[this]
 ·refine cV.ob (Rl (nU l) (AX l) 182 [.ptr (.obj 201) 0] (by simp[inObs,nU]) (by simp) (rK l) t fun v aJ=>Rm l v ar _ rfl) (AX l) (by unfold nU;exact aO) (by unfold nU;exact aO) (by simp[inObs,nU]) ?_;rintro r ai ⟨rfl,rfl⟩;refine⟨Same.refl _,?_⟩;unfold nU;simp[cn];refine cH.at _ (.inl rfl) ag (Same.refl _) aO aO ?_;simp[cI,Lu,aV,aW,aU];have:sT l t=true:=by simp[sT];omega
  simp[this,CW]
theorem amQ(l:List au)(t:T)(ar:l.length≤1000000):bK al 95 [.slice 5 .no (l.map au.e),t.e] (.tuple [(if sT l t then CW l t else .nil).e,.bool (sT l t)]):=by refine bm fO abh ahU fun aQ=>?_;unfold OE;simp;refine cV.ob (adp l t ar) (AX l) (by unfold nU;exact aO) (by unfold nU;exact aO) (by simp[inObs,nU]) ?_;rintro r ai ⟨rfl,rfl⟩;refine⟨Same.refl _,?_⟩;unfold nU;simp[cn];simp[bu,Vv,aV,aW,aU]
theorem Mf(p:Nat→Bool)(n:Nat)(hm:∀k bM,k≤bM→bM<n→p k=true→p bM=true):∀(m i j:Nat),j-i≤m→i≤j→j≤n→(∀k,k<i→p k=false)→(∀k,j≤k→k<n→p k=true)→
  (i≤lX p i j∧lX p i j≤j)∧(∀k,k<lX p i j→p k=false)∧(∀k,lX p i j≤k→k<n→p k=true)
 |m,i,j,aR,lN,af,J,U=>by
  rw[lX];split
  ·rename_i bA;obtain⟨m,rfl⟩:∃hq,m=hq+1:=⟨m-1,by omega⟩;split
   ·rename_i bH;have:=Mf p n hm m i ((i+j)/2) (by omega) (by omega) (by omega) J (fun k ab EU=>hm _ k ab EU bH);exact⟨⟨this.1.1,by omega⟩,this.2⟩
   ·rename_i bH;have:=Mf p n hm m ((i+j)/2+1) j (by omega) (by omega) af (fun k ab=>by
     by_cases nx:p k=true
     ·exact absurd (hm k ((i+j)/2) (by omega) (by omega) nx) bH
     ·simpa using nx) U
    exact⟨⟨by omega,this.1.2⟩,this.2⟩
  ·obtain rfl:i=j:=by omega
   exact⟨⟨eV _,eV _⟩,J,U⟩
theorem Li{l:List au}(ag:iu l)(v:Int):rK l v=df l v:=by
 have bA:∀(i j:Nat) (x y:au),i<j→l[i]? =some x→l[j]? =some y→x.v<y.v:=by intro i j x y lN ad aM;obtain⟨J,rfl⟩:=fw.1 ad;obtain⟨U,rfl⟩:=fw.1 aM;exact pt.1 ag i j J U lN
 obtain⟨p,bH⟩:∃p:Nat→Bool,p=(fun i=>match l[i]? with|some b=>decide (v≤b.v)|none=>false):=⟨_,rfl⟩;have E1:∀i b,l[i]? =some b→p i=decide (v≤b.v):=fun i b ae=>by rw[bH];simp[ae]
 have hm:∀k bM,k≤bM→bM<l.length→p k=true→p bM=true:=by
  intro k bM ab nx h;have ak:l[k]? =some l[k]:=cf (by omega);have aC:l[bM]? =some l[bM]:=cf nx;rw[E1 k _ ak]at h;rw[E1 bM _ aC];simp only[fm]at h⊢;rcases Nat.lt_or_eq_of_le ab with vp|rfl
  ·have:=bA k bM _ _ vp ak aC;omega
  ·exact h
 obtain⟨⟨_,hle⟩,hbef,haft⟩:=Mf p l.length hm l.length 0 l.length (by omega) (by omega) (eV _) (fun k ab=>by omega) (fun k J U=>by omega);have Jn:mI l v=(match l[lX p 0 l.length]? with|some b=>if b.v=v then((lX p 0 l.length:Nat):Int)else-1|none=> -1):=by rw[bH];rfl
 generalize lX p 0 l.length=r at hle hbef haft Jn;by_cases hex:∃(k:Nat) (b:au),l[k]? =some b∧b.v=v
 ·obtain⟨k,b,ae,RK⟩:=hex;have ik:k<l.length:=(fw.1 ae).1;have gm:r≤k:=by
   rcases Nat.lt_or_ge k r with h|h
   ·have:=hbef k h;rw[E1 k b ae]at this;simp at this;omega
   ·exact h
  have aK:l[r]? =some l[r]:=cf (by omega);have zs:=haft r (eV _) (by omega);rw[E1 r _ aK]at zs;simp only[fm]at zs;have ae7:r=k:=by
   rcases Nat.lt_or_eq_of_le gm with h|h
   ·have:=bA r k _ _ h aK ae;omega
   ·exact h
  subst ae7;have Jq:mI l v=r:=by rw[Jn,ae];simp[RK]
  have J:rK l v=some b.t:=by unfold rK;rw[Jq,if_neg (by omega)];simp[ae]
  have U:l.find? (fun b=>b.v==v)=some b:=by
   rw[List.find?_eq_some_iff_getElem];refine⟨by simp[RK],r,ik,?_,fun j af=>?_⟩
   ·rw[cf ik]at ae;simpa using ae
   ·have:=bA j r l[j] b af (cf (by omega)) ae;simp;omega
  rw[J];simp[df,U]
 ·have U:l.find? (fun b=>b.v==v)=none:=by rw[List.find?_eq_none];intro b ae;obtain⟨k,ab,rfl⟩:=List.mem_iff_getElem.1 ae;simp;intro e;exact hex ⟨k,l[k],cf ab,e⟩
  have Jq:mI l v= -1:=by
   rw[Jn];split
   ·rename_i b ae;rw[if_neg (fun e=>hex ⟨r,b,ae,e⟩)]
   ·rfl
  unfold rK;rw[Jq];simp[df,U]
theorem Q4{l:List au}(ag:iu l)(v:Int):mI l v<0↔df l v=none:=by
 rw[←Li ag v];unfold rK;have J:=Q3 l v;by_cases h:mI l v<0
 ·simp[h]
 ·simp only[h,if_false,false_iff];intro e;rw[Option.map_eq_none_iff,List.getElem?_eq_none_iff]at e;omega
def yZ(s:List au):Prop:= ∀b∈s,b.t.fit=true
theorem acR{l:List au}(ag:iu l)(h:yZ l)(v:Int):tK l v=(cz l v).size:=by
 unfold tK cz;rw[Li ag];cases ae:df l v with
 |none=>simp[T.size]
 |some x=>have:=h _ (jS ae);simp only[T.fit,cA,fm]at this;simp only[k7];rw[FT,if_pos ⟨this.1,by omega⟩]
theorem ak4{l:List au}(ag:iu l)(h:yZ l)(t:T):k0 (tK l) t=cut (t.ap (cz l)).size:=by
 induction t with
 |var n=>simp only[k0,acR ag h,T.ap];rfl
 |pair a b dM dN=>have ae:=T.size_pos (b.ap (cz l));simp only[k0,dM,dN,T.ap,T.size];unfold cut;(repeat' split)<;>omega
 |_=>simp[k0,T.ap,T.size,cut]
theorem ajr{l:List au}(ag:iu l)(h:yZ l)(t:T):sT l t=decide ((t.ap (cz l)).size≤5000):=by unfold sT;rw[ak4 ag h];unfold cut;split<;>simp<;>omega
theorem ajs{l:List au}(ag:iu l)(t:T):CW l t=t.ap (cz l):=by unfold CW;rw[Ww];exact tv fun v _=>by rw[Li ag];rfl
theorem Hb(l:List au)(t:T)(ar:l.length≤1000000)(ag:iu l)(h:yZ l):bK al 95 [.slice 5 .no (l.map au.e),t.e] (.tuple [(if(t.ap (cz l)).size≤5000 then t.ap (cz l)else .nil).e,.bool (decide ((t.ap (cz l)).size≤5000))]):=by have:=amQ l t ar;rw[ajr ag h,ajs ag]at this;simpa using this
@[simp] def arv:List bt:=[.tmp 4]
@[simp] def arw:List bt:=[.tmp 4]
@[simp] def arB:List bt:=[.tmp 4]
@[simp] def aq8:List bt:=[.tmp 4]
@[simp] def arF:List bt:=[.tmp 4]
@[simp] def arb:List bt:=[.tmp 4]
@[simp] def arP:List bt:=[.tmp 4,.tmp 5]
@[simp] def arn:List bt:=[.tmp 4,.tmp 5]
@[simp] def aru:List bt:=[.tmp 2]
@[simp] def arJ:List bt:=[.tmp 6,.tmp 7]
@[simp] def aro:List bt:=[.tmp 6]
@[simp] def ars:List bt:=[]
@[simp] def art:List bt:=[.tmp 5]
def Cv(l:List (Int×T)):List ah:=jf (l.map fun x=>(x.1,x.2.e))
@[simp] theorem aqr:Cv []=jf []:=rfl
@[simp] theorem arR(m:aD)(l:List (Int×T)):wb m (Cv l)=some (cg l.length [] m):=by simp[Cv]
@[simp] theorem aqV(l:List (Int×T)):gn (Cv l)=false:=rfl
@[simp] theorem aqH(f:aD→aY (List ah))(m:aD)(l:List (Int×T))(hm:f m=some (Cv l)):ur f (.gmap m)=some (True,.int .i64 l.length):=by have:=ag3 f m _ hm;simpa using this
end Go.Proofs.YtohaalphocaebaaGreat
namespace Go.Proofs
open Go.Shelf
def Tryz.lays191_ren:Go.Shelf.Ren:=⟨fun|191=>242|189=>272|125=>209|257=>283|128=>258|129=>259|294=>286|295=>287|296=>288|297=>289|298=>290|299=>291|216=>292|300=>293|301=>294|328=>296|329=>297|330=>298|331=>299|332=>300|215=>301|343=>302|n=>n,fun|28=>112|0=>0|3=>3|46=>163|51=>254|53=>256|4=>4|183=>277|182=>276|131=>246|5=>5|9=>9|218=>282|222=>269|228=>285|229=>273|n=>n,fun|n=>n⟩
theorem Tryz.lays191:Go.Proofs.Lays.n191 al Tryz.lays191_ren:={
 mixed:=by kernel_rfl
 f125:=Tryz.func209.trans (eZ some (by kernel_rfl))
 f128:=Tryz.func258.trans (eZ some (by kernel_rfl))
 f129:=Tryz.func259.trans (eZ some (by kernel_rfl))
 f189:=Tryz.func272.trans (eZ some (by kernel_rfl))
 f191:=Tryz.func242.trans (eZ some (by kernel_rfl))
 f215:=Tryz.func301.trans (eZ some (by kernel_rfl))
 f216:=Tryz.func292.trans (eZ some (by kernel_rfl))
 f257:=Tryz.func283.trans (eZ some (by kernel_rfl))
 f294:=Tryz.func286.trans (eZ some (by kernel_rfl))
 f295:=Tryz.func287.trans (eZ some (by kernel_rfl))
 f296:=Tryz.func288.trans (eZ some (by kernel_rfl))
 f297:=Tryz.func289.trans (eZ some (by kernel_rfl))
 f298:=Tryz.func290.trans (eZ some (by kernel_rfl))
 f299:=Tryz.func291.trans (eZ some (by kernel_rfl))
 f300:=Tryz.func293.trans (eZ some (by kernel_rfl))
 f301:=Tryz.func294.trans (eZ some (by kernel_rfl))
 f328:=Tryz.func296.trans (eZ some (by kernel_rfl))
 f329:=Tryz.func297.trans (eZ some (by kernel_rfl))
 f330:=Tryz.func298.trans (eZ some (by kernel_rfl))
 f331:=Tryz.func299.trans (eZ some (by kernel_rfl))
 f332:=Tryz.func300.trans (eZ some (by kernel_rfl))
 f343:=Tryz.func302.trans (eZ some (by kernel_rfl))
 t0:=Tryz.underlying0
 a0:=Tryz.isAgg0
 z0:=Tryz.sizeOf0
 v0:=Tryz.zeroValue0
 t3:=Tryz.underlying3
 a3:=Tryz.isAgg3
 z3:=Tryz.sizeOf3
 v3:=Tryz.zeroValue3
 t4:=Tryz.underlying4
 a4:=Tryz.isAgg4
 z4:=Tryz.sizeOf4
 v4:=Tryz.zeroValue4
 t5:=Tryz.underlying5
 a5:=Tryz.isAgg5
 z5:=Tryz.sizeOf5
 v5:=Tryz.zeroValue5
 t9:=Tryz.underlying9
 a9:=Tryz.isAgg9
 z9:=Tryz.sizeOf9
 v9:=Tryz.zeroValue9
 t28:=Tryz.underlying112
 a28:=Tryz.isAgg112
 z28:=Tryz.sizeOf112
 v28:=Tryz.zeroValue112
 t46:=Tryz.underlying163
 a46:=Tryz.isAgg163
 z46:=Tryz.sizeOf163
 v46:=Tryz.zeroValue163
 t51:=Tryz.underlying254
 a51:=Tryz.isAgg254
 z51:=Tryz.sizeOf254
 v51:=Tryz.zeroValue254
 t53:=Tryz.underlying256
 a53:=Tryz.isAgg256
 z53:=Tryz.sizeOf256
 v53:=Tryz.zeroValue256
 t131:=Tryz.underlying246
 a131:=Tryz.isAgg246
 z131:=Tryz.sizeOf246
 v131:=Tryz.zeroValue246
 t182:=Tryz.underlying276
 a182:=Tryz.isAgg276
 z182:=Tryz.sizeOf276
 v182:=Tryz.zeroValue276
 t183:=Tryz.underlying277
 a183:=Tryz.isAgg277
 z183:=Tryz.sizeOf277
 v183:=Tryz.zeroValue277
 t218:=Tryz.underlying282
 a218:=Tryz.isAgg282
 z218:=Tryz.sizeOf282
 v218:=Tryz.zeroValue282
 t222:=Tryz.underlying269
 a222:=Tryz.isAgg269
 z222:=Tryz.sizeOf269
 v222:=Tryz.zeroValue269
 t228:=Tryz.underlying285
 a228:=Tryz.isAgg285
 z228:=Tryz.sizeOf285
 v228:=Tryz.zeroValue285
 t229:=Tryz.underlying273
 a229:=Tryz.isAgg273
 z229:=Tryz.sizeOf273
 v229:=Tryz.zeroValue273}
end Go.Proofs

namespace Go.Proofs.YtohaalphocaebaaGreat
open Go Go.Pv
def du(xs:List Int):List ah:=xs.map (ah.int .i64)
theorem V1{w:World}{ν:bd}:∀{xs:List Int} {us:List Value},dx w ν 1 (du xs) us→us=xs.map (Value.int .i64)
 |[],us,h=>by simpa[du,dx]using h
 |x::xs,us,h=>by simp only[du,gM,dx]at h;obtain⟨u,cj,rfl,⟨J,_,_⟩,U⟩:=h;simp only[ba]at J;subst J;rw[V1 U];rfl
theorem S4(w:World)(ν:bd):∀xs:List Int,dx w ν 1 (du xs) (xs.map (Value.int .i64))
 |[]=>by simp[du,dx]
 |x::xs=>by simp only[du,gM,dx];exact⟨.int .i64 x,_,rfl,⟨by simp[ba],rfl,by intro c aw;simp[oH]at aw;subst aw;rfl⟩,S4 w ν xs⟩
def mD(K:Nat)(xs:List Int):cE:=⟨[],[(.obj K,⟨xs.length,3,1,some (du xs)⟩)]⟩
theorem sL(S:aD→Prop)(xs:List Int):aG S (du xs):=by
 induction xs with
 |nil=>simp[du,aG]
 |cons x r bN=>simp only[du,gM,aG,aB];exact⟨trivial,bN⟩
theorem Hn(K:Nat)(xs:List Int):dT (mD K xs):=by unfold mD;refine dT.of ⟨by intro m;simp[Pv.look],by intro m;simp[Pv.look]⟩ (by simp) ?_;intro x ad ys aM;simp at ad;subst ad;simp at aM;subst aM;exact sL _ xs
def qG(xs:List Int):List Int:=xs.mergeSort fun x y=>decide (x≤y)
theorem Wn(xs:List Int):(qG xs).length=xs.length:=List.length_mergeSort xs
theorem ady(K:Nat)(xs:List Int)(ar:xs.length≤1000000):bF al 242 [.row 1 (.obj K) xs.length] (mD K xs) fun r ai=>r= .tuple []∧ai=mD K (qG xs):=by
 refine bF.sem (Hn K xs).obj fun w ν bc kE aK=>?_;refine .inl ⟨⟨Tryz.f242,Tryz.func242,by kernel_rfl,by kernel_rfl⟩,?_⟩;have rp:=aK.slot 0;simp only[j2,Pv.get,if_true]at rp;have kC:Pv.look (.obj K) (mD K xs).e=some ⟨xs.length,3,1,some (du xs)⟩:=by simp[mD,Pv.look]
 obtain⟨v,us,a6,bB,bS,c1⟩:=aK.good.own (.obj K) _ kC;obtain⟨c9,nF,uA⟩:=c1 _ rfl;have qv:=V1 nF;subst qv;simp only[ba]at rp;obtain⟨⟨anN,YO,vg⟩,_,n',u,ak,aC,bj⟩:=rp;rw[a6]at ak;simp only[dE,jj]at ak;obtain⟨rfl,rfl⟩:=ak;have aJ:=bj rfl;have afm:bc= #[v]:=by
  have J:bc.size=1:=by simpa using kE
  apply Array.ext (by simpa using J);intro i U ao;simp at ao;subst ao;rw[←aJ];simp[Array.getD,J]
 have cF:v≠ .slice none 0 0:=by rw[←aJ,vg];simp
 obtain⟨g,cap,rfl,_,qq,rf,aeo,BL,BA⟩:=Lib.holds_of_ownsRow bB cF;have aw:=Any.sort_Ints Tryz.lays191 g 0 cap xs w BA qq (by omega);subst afm;refine aw.mono ?_;rintro e w' ⟨rfl,n,os,rfl⟩;have pK:=Wn xs;have lq:=Lib.ownsRow_putRow (q:=n) (k:=xs.length) (ys:=qG xs) bB pK (eV _);rw[hB (by omega)]at lq;obtain⟨cU,ds,_⟩:=aK.setRowM (w':=Sort.putRow (Value.int .i64) (Sort.ahead w n) g 0 (qG xs).toArray) kC rfl a6 (bl:=g) rfl (v':= .slice (some ⟨g,0,none⟩) xs.length cap) rfl (xs':=du (qG xs)) (us:=(qG xs).map (Value.int .i64)) (.inl ⟨by simp[du,pK],rfl⟩) rfl rfl rfl
  (fun j af=>by simp[Sort.putRow,Sort.mapBlock,Sort.ahead,Array.getElem?_modify,kL af]) (by simp[Sort.putRow,Sort.mapBlock,Sort.ahead]) (by simpa[du,pK]using lq) (S4 _ _ _)
 have iK:=cU.grown (w':=Sort.grow (Sort.putRow (Value.int .i64) (Sort.ahead w n) g 0 (qG xs).toArray) os) ⟨rfl,rfl,rfl,by simp,fun k ab _=>Sort.heap_grow_old _ _ ab⟩;refine⟨_,_,_,_,.tuple [],mD K (qG xs),rfl,iK,by simp[ba,cP],by simp[mD,lU],?_,?_,?_,(Hn K _).obj,by simp[aB,aG],rfl,rfl⟩
 ·simp[mD,lU,inObs,Pv.look]
 ·intro k cs ab;simp[mD,Pv.look]at ab
 ·intro k o ab;have hm:=sN ab;simp[mD]at hm;obtain⟨rfl,rfl⟩:=hm;refine⟨by simp[mD,Pv.look,cw,du,pK],.inr (by simp[ab]),fun ys aM=>?_⟩;simp at aM;subst aM;exact sL _ _
def nZ(l:List Int):List ah:=jf (l.map fun x=>(x,.bool true))
theorem mm(S:aD→Prop)(l:List Int):aG S (nZ l):=by
 have:∀l:List Int,aG S (j9 (l.map fun x=>(x,.bool true))):=by
  intro l;induction l with
  |nil=>simp[j9,aG]
  |cons x r bN=>simp[j9,aG,bN,aB]
 simp[nZ,jf,aG,this,aB]
def oQ(v:Int)(l:List Int):List Int:=if v∈l then l else l++[v]
theorem NC(k:Int):∀l:List Int,oS k (.bool true) (l.map fun x=>(x,ah.bool true))=if k∈l then some (l.map fun x=>(x,ah.bool true))else none
 |[]=>rfl
 |i::r=>by
  by_cases h:k=i
  ·simp[oS,h]
  ·by_cases U:k∈r<;>simp[oS,h,U,NC k r]
@[simp] theorem aqI(k:Int)(l:List Int):ou .i (.int .i64 k) (.bool true) (nZ l)=some (nZ (oQ k l)):=by
 simp only[nZ,Up,DR,NC,oQ];split<;>rename_i h
 ·split at h
  ·simp at h;subst h;simp[*]
  ·cases h
 ·split at h
  ·cases h
  ·simp[*]
@[simp] theorem anO:nZ []=jf []:=rfl
@[simp] theorem aqT(l:List Int):gn (nZ l)=false:=rfl
@[simp] theorem arQ(m:aD)(l:List Int):wb m (nZ l)=some (cg l.length [] m):=by simp[nZ]
theorem agF(f:aD→aY (List ah))(fi mk:aD)(n:Nat)(seen:List Nat)(b:Nat)(l:List Int)(x:Int)(hi:f fi=some (cg n (seen++[b]) mk))(hm:f mk=some (nZ l))(aA:n=l.length)(ad:l[b]? =some x):pf f (.ptr fi 0)=some (True,.tuple [.int .i64 x,.bool true]):=by rw[Uc f fi mk n seen b _ hi hm (by simpa using aA)];simp[ad]
theorem ZM{st:bp}{d:Nat}{K:bp→Prop}{fi mk:aD}{n:Nat}{seen:List Nat}{l:List Int}(hi:Pv.look fi st.b=some (cg n seen mk))(hm:Pv.look mk st.b=some (nZ l))(aA:n=l.length)
  (J:(∀b,b<l.length→b∈seen)→K {st with t:=Pv.put d (.tuple [.bool false]) st.t}) (U:∀b x,l[b]? =some x→b∉seen→K {st with t:=Pv.put d (.tuple [.bool true,.int .i64 x,.bool true]) st.t,b:=cw fi (cg n (seen++[b]) mk) st.b}):
  sk st d (.ptr fi 0) K:=by
 refine QA hi hm (by simpa using aA) (fun h=>J fun b ae=>h b (by omega)) (fun b k v ae ag=>?_);simp only[List.getElem?_map,gN]at ae;obtain⟨x,ak,aC⟩:=ae;simp only[jj]at aC;obtain⟨rfl,rfl⟩:=aC;exact U b x ak ag
def _root_.Go.Pv.T.fold{α:Type}(f:Int→α→α):T→α→α
 | .var n,a=>f n a
 | .pair x y,a=>y.fold f (x.fold f a)
 |_,a=>a
theorem Rg{α:Type}(S:α→cE)(dk:∀a,dT (S a))(dX:∀a b,Same (S a) (S b))(g:Nat)(da:List ah)(aw:∀a,aG (inObs (S a)) da)(cO:cY da=da)(f:Int→α→α)(aH:∀v a,bF al g (.int .i64 v::da) (S a) fun r ai=>r= .tuple []∧ai=S (f v a))(t:T):
  ∀a,bF al 129 [t.e,.func g da] (S a) fun r ai=>r= .tuple []∧ai=S (t.fold f a):=by
 have aA:∀a m,Pv.look (.loc m) (S a).b=none:=fun a=>(dk a).obj.1;have hu:∀a m cs,cw (.loc m) cs (S a).b=(S a).b++[(.loc m,cs)]:=fun a m cs=>jB (aA a m);have av:∀a m,aD.loc m∉cW (S a):=fun a=>jx (dk a).obj;induction t with
 |pair x y lS nB=>intro a;have ag:=dk a;refine bF.mk mixed fO tI uv (by simp) ag.obj fun aQ cN=>?_;unfold sd;simp[hu,av,cD,aA,cO];(with_reducible repeat' first|refine aj ?_|simp[hu,av,cD,aA]);refine cV.ob (lS a) ag aO aO (by simp[aw]) ?_;rintro r ai ⟨rfl,rfl⟩;refine⟨dX _ _,?_⟩;simp[gA,hT,cn,aA];(with_reducible repeat' first|refine aj ?_|simp[hu,av,cD,aA]);rw[cO];refine cV.ob (nB (x.fold f a)) (dk (x.fold f a)) aO aO (by simp[aw]) ?_;rintro r ai ⟨rfl,rfl⟩;refine⟨dX _ _,?_⟩;simp[gA,hT,cn,aA];refine cH.at (S (y.fold f (x.fold f a))) (.inr rfl) (dk _) (dX _ _) aO aO ?_;simp[cI,sV,aV,aW,aU];simp[T.fold]
 |var n=>intro a;have ag:=dk a;refine bF.mk mixed fO tI uv (by simp) ag.obj fun aQ cN=>?_;unfold sd;simp[hu,av,cD,aA,cO];(with_reducible repeat' first|refine aj ?_|simp[hu,av,cD,aA]);refine cV.ob (aH n a) ag aO aO (by simp[aw]) ?_;rintro r ai ⟨rfl,rfl⟩;refine⟨dX _ _,?_⟩;simp[gA,hT,cn,aA,cD];refine cH.at (S (f n a)) (.inr rfl) (dk _) (dX _ _) aO aO ?_;simp[cI,sV,aV,aW,aU];simp[T.fold]
 |_=>intro a;have ag:=dk a;refine bF.mk mixed fO tI uv (by simp) ag.obj fun aQ cN=>?_;unfold sd;simp[hu,av,cD,aA,cO];(with_reducible repeat' first|refine aj ?_|simp[hu,av,cD,aA]);refine cH.at (S a) (.inr rfl) ag (Same.refl _) aO aO ?_;simp[cI,sV,aV,aW,aU];simp[T.fold]
def tp(l:List Int):cE:=⟨[(.obj 304,nZ l)],[]⟩
theorem Ng(l:List Int):dT (tp l):=by unfold tp;exact dT.of ⟨by intro m;simp[Pv.look],by intro m;simp[Pv.look]⟩ (by simp[mm,aG,aB,inObs,Pv.look]) (by simp)
def HL:C:=(aa [cM 1 0,bf 2 false] (.seq (.seq (.fz false 1 (.region [ax 6 1 1,cQ 7 100 6,cx 8 7])) (aT 8 (aa [bf 2 false] .ret) .skip)) (.seq (aa [ax 9 1 1,cb 10 9,bQ 11 0] (e4 12 11 10 (.seq (.block 1 (aa [cp 13 5 9 11,be 14 5 13,dH 4 jZ,bW 5 4 14] (aa [cK (.alloc 5 (some 731) (.bool false)),cK (.store 1 (.t 5) (.c (.bool true)))] (aa [fY 15 1 4 4,be 16 4 15,b1 17 (.mkf 133 [.t 1,.t 5]),cd 18 129 16 17] (aa [ax 19 1 5,cx 20 19,I 21 20,aq 21 false (fY 22 1 4 4),aq 21 false (aI 23 0 1 22),aq 21 false (ax 24 1 23),aq 21 false (aS 25 .eql 24 1),b4 21 false 26 25,aq 26 true (fY 27 1 4 4),aq 26 true (aI 28 1 1 27),aq 26 true (ax 29 1 28),aq 26 true (aI 30 0 1 4),aq 26 true (ax 31 1 30),aq 26 true (bk 32 .geq 29 31),aq 21 false (dK 33 26 32),dc 34 21 33] (aT 34 (aa [bf 2 false] .ret) .skip)))))) (.region [aS 35 .add 11 1,I 11 35])))) (aa [bf 2 true] .ret))))
@[simp] def ajD:List bt:=[.tmp 2]
def Oq:C:=(aa [ez 2 5] (aa [fk 6 5 61 [],I 3 6] (.seq (aa [I 7 0,cb 8 7,bQ 9 0] (e4 10 9 8 (.seq (.block 1 (aa [cp 11 5 7 9,be 12 5 11,dH 5 jZ,bW 5 5 12] (.drawn true 24 [I 13 3,aI 14 0 1 5,ax 15 1 14,fY 16 1 4 5,be 17 4 16,cQ 18 200 17,k3 19 jZ [(0,1,(.t 15)),(1,4,(.t 18))],fk 20 5 61 [.t 19],iN 21 5 61 13 20,I 3 21]))) (.region [aS 22 .add 9 1,I 9 22])))) (aa [I 23 3,I 2 23] .ret))))
@[simp] def ajH:List bt:=[.tmp 2]
def N2:C:=(aa [ez 4 5,bf 5 false] (.seq (aa [I 8 0,cQ 9 55 8,cx 10 9,I 11 10,b4 11 false 12 1,aq 11 false (cQ 13 55 12),aq 11 false (cx 14 13),dc 15 11 14] (aT 15 (aa [ez 4 5,bf 5 false] .ret) .skip)) (aa [I 17 1,cQ 18 201 17,I 16 18,c2 19 0 16,c2 20 1 16,I 6 19,I 7 20] (aa [I 21 0,I 22 6,I 23 7,dI 24 118 [.t 21,.t 22,.t 23],c2 25 0 24,c2 26 1 24,I 4 25,I 5 26] .ret))))
@[simp] def Vc:List bt:=[.tmp 4,.tmp 5]
def N7:C:=(aa [ez 4 5] (.seq (aa [I 8 0,cQ 9 55 8,cx 10 9,I 11 10,b4 11 false 12 1,aq 11 false (cQ 13 55 12),aq 11 false (cx 14 13),dc 15 11 14] (aT 15 (aa [ez 4 5] .ret) .skip)) (aa [fk 16 5 61 [],I 5 16] (.seq (aa [I 17 1,cb 18 17,bQ 19 0] (e4 20 19 18 (.seq (.block 1 (aa [cp 21 5 17 19,be 22 5 21,dH 7 jZ,bW 5 7 22] (aa [I 23 0,aI 24 0 1 7,ax 25 1 24,cd 26 134 23 25,aS 27 .lss 26 0] (aT 27 (.drawn true 39 [I 28 5,aI 29 0 1 7,ax 30 1 29,fY 31 1 4 7,be 32 4 31,cQ 33 200 32,k3 34 jZ [(0,1,(.t 30)),(1,4,(.t 33))],fk 35 5 61 [.t 34],iN 36 5 61 28 35,I 5 36]) .skip)))) (.region [aS 37 .add 19 1,I 19 37])))) (aa [I 38 5,I 4 38] .ret)))))
@[simp] def ajB:List bt:=[.tmp 4]
def HM:C:=(aa [ax 4 1 1,I 5 0,cd 6 134 4 5,aS 7 .geq 6 0] (aT 7 (.region [cK (.store 1 (.t 2) (.c (.bool false)))]) .skip))
@[simp] def Lp:List bt:=[]
def HQ:C:=(aa [bf 4 false] (.seq (aa [I 6 0,cb 7 6,I 8 1,cb 9 8,bk 10 .neq 7 9] (aT 10 (aa [bf 4 false] .ret) .skip)) (.seq (aa [I 11 0,cb 12 11,bQ 13 0] (e4 14 13 12 (.seq (.block 1 (aa [I 15 13,I 5 15] (.seq (.drawn true 42 [I 16 0,I 17 5,cp 18 5 16 17,aI 19 0 1 18,ax 20 1 19,I 21 1,I 22 5,cp 23 5 21 22,aI 24 0 1 23,ax 25 1 24,bk 26 .neq 20 25,I 27 26,b4 27 false 28 0,b4 27 false 29 5,aq 27 false (cp 30 5 28 29),aq 27 false (fY 31 1 4 30),aq 27 false (be 32 4 31),b4 27 false 33 1,b4 27 false 34 5,aq 27 false (cp 35 5 33 34),aq 27 false (fY 36 1 4 35),aq 27 false (be 37 4 36),aq 27 false (cd 38 108 32 37),aq 27 false (cx 39 38),dc 40 27 39]) (aT 40 (aa [bf 4 false] .ret) .skip)))) (.region [aS 41 .add 13 1,I 13 41])))) (aa [bf 4 true] .ret))))
@[simp] def Vn:List bt:=[.tmp 4]
def Ou:C:=(aa [ez 2 4,ez 3 4] (aa [fk 8 4 32 [],I 4 8] (aa [fk 9 4 32 [],I 5 9] (.seq (aa [I 10 0,cb 11 10,bQ 12 0] (e4 13 12 11 (.seq (.block 1 (aa [cp 14 5 10 12,be 15 5 14,dH 7 jZ,bW 5 7 15] (aa [I 16 4,aI 17 0 1 7,ax 18 1 17,cQ 19 96 18,fk 20 4 32 [.t 19],iN 21 4 32 16 20,I 4 21] (.region [I 22 5,fY 23 1 4 7,be 24 4 23,fk 25 4 32 [.t 24],iN 26 4 32 22 25,I 5 26])))) (.region [aS 27 .add 12 1,I 12 27])))) (aa [I 28 4,I 29 5,I 2 28,I 3 29] .ret)))))
@[simp] def Vp:List bt:=[.tmp 2,.tmp 3]
def OA:C:=(aa [bQ 4 0] (.seq (aa [bQ 5 0] (.block 0 (.loop (.seq (aa [I 8 5,I 9 0,cb 10 9,bk 11 .lss 8 10,I 12 11,b4 12 true 13 5,b4 12 true 14 1,aq 12 true (cb 15 14),aq 12 true (bk 16 .lss 13 15),dK 17 12 16] (aT 17 .skip (.exit 0))) (.seq (.block 1 (.seq (.seq (.drawn true 53 [I 20 0,I 21 5,cp 22 5 20 21,aI 23 0 1 22,ax 24 1 23,I 25 1,I 26 5,cp 27 5 25 26,aI 28 0 1 27,ax 29 1 28,cd 30 232 24 29,I 6 30]) (aa [I 31 6,aS 32 .neq 31 0] (aT 32 (aa [I 33 6,I 4 33] .ret) .skip))) (.seq (.drawn true 53 [I 34 0,I 35 5,cp 36 5 34 35,fY 37 1 4 36,be 38 4 37,I 39 1,I 40 5,cp 41 5 39 40,fY 42 1 4 41,be 43 4 42,cd 44 170 38 43,I 7 44]) (aa [I 45 7,aS 46 .neq 45 0] (aT 46 (aa [I 47 7,I 4 47] .ret) .skip))))) (.region [I 18 5,aS 19 .add 18 1,I 5 19])))))) (aa [I 48 0,cb 49 48,I 50 1,cb 51 50,cd 52 232 49 51,I 4 52] .ret)))
@[simp] def CX:List bt:=[.tmp 4]
def Ox:C:=(aa [bf 4 false] (.seq (aa [I 11 0,cb 12 11,bQ 13 0] (e4 14 13 12 (.seq (.block 1 (aa [cp 15 5 11 13,be 16 5 15,dH 6 jZ,bW 5 6 16] (aa [I 18 1,aI 19 0 1 6,ax 20 1 19,cQ 21 96 20,cd 22 95 18 21,I 17 22,c2 23 0 17,c2 24 1 17,dH 7 dS,bW 4 7 23,I 8 24] (aa [I 26 1,fY 27 1 4 6,be 28 4 27,cd 29 95 26 28,I 25 29,c2 30 0 25,c2 31 1 25,dH 9 dS,bW 4 9 30,I 10 31] (aa [I 32 8,cx 33 32,I 34 33,b4 34 false 35 10,aq 34 false (cx 36 35),dc 37 34 36,I 38 37,aq 38 false (be 39 4 7),aq 38 false (be 40 4 9),aq 38 false (cd 41 108 39 40),aq 38 false (cx 42 41),dc 43 38 42] (aT 43 (aa [bf 4 false] .ret) .skip)))))) (.region [aS 44 .add 13 1,I 13 44])))) (aa [bf 4 true] .ret)))
@[simp] def Lr:List bt:=[.tmp 4]
def tb:List (Nat×dA):=[
 (3,⟨1,8,.int .i64,.int .i64 0⟩),
 (4,⟨1,1,.bool,.bool false⟩),
 (23,⟨1,24,.slice 61,.slice 5 .nil []⟩),
 (30,⟨1,24,.slice 32,.slice 4 .nil []⟩),
 (32,⟨4,56,.struct [(0,3),(1,3),(2,9),(3,30)],.agg [.int .i64 0,.int .i64 0,.str [],.slice 4 .nil []]⟩),
 (61,⟨5,64,.struct [(0,3),(1,32)],.agg [.int .i64 0,.int .i64 0,.int .i64 0,.str [],.slice 4 .nil []]⟩)]
theorem qM:fN al tb=true:=by kernel_rfl
theorem Ux:bY tb HL ajD 1 Tryz.f55=true:=by kernel_rfl
theorem QF:al.funcs[(55:Nat)]? =some Tryz.f55:=Tryz.func55
theorem ahI:bY tb Oq ajH 1 Tryz.f119=true:=by kernel_rfl
theorem aa5:al.funcs[(119:Nat)]? =some Tryz.f119:=Tryz.func119
theorem ahn:bY tb N2 Vc 2 Tryz.f122=true:=by kernel_rfl
theorem aaK:al.funcs[(122:Nat)]? =some Tryz.f122:=Tryz.func122
theorem ahs:bY tb N7 ajB 2 Tryz.f123=true:=by kernel_rfl
theorem aaP:al.funcs[(123:Nat)]? =some Tryz.f123:=Tryz.func123
theorem Uy:bY tb HM Lp 3 Tryz.f133=true:=by kernel_rfl
theorem QG:al.funcs[(133:Nat)]? =some Tryz.f133:=Tryz.func133
theorem UC:bY tb HQ Vn 2 Tryz.f135=true:=by kernel_rfl
theorem QK:al.funcs[(135:Nat)]? =some Tryz.f135:=Tryz.func135
theorem ahK:bY tb Ou Vp 1 Tryz.f201=true:=by kernel_rfl
theorem aa7:al.funcs[(201:Nat)]? =some Tryz.f201:=Tryz.func201
theorem ahQ:bY tb OA CX 2 Tryz.f204=true:=by kernel_rfl
theorem abd:al.funcs[(204:Nat)]? =some Tryz.f204:=Tryz.func204
theorem ahN:bY tb Ox Lr 2 Tryz.f205=true:=by kernel_rfl
theorem aba:al.funcs[(205:Nat)]? =some Tryz.f205:=Tryz.func205
def OK:C:=(aa [dH 2 dS] (aa [I 3 0,k3 4 dS [(0,1,(gp 1)),(1,1,(.t 3))],bW 4 2 4] .ret))
@[simp] def ajM:List bt:=[.cell 2 true 4]
def Oy:C:=(aa [b1 0 (.mov (.c (.nilp)))] (aa [cK (.mkmap 1 (some 702)),cK (.mkmap 2 (some 703)),cK (.mkmap 3 (some 704)),cK (.mkmap 4 (some 705)),cK (.mkmap 5 (some 706)),cK (.mkmap 6 (some 707)),b1 7 (.build [.junk,.junk,.junk,.junk,.junk,.junk] [(0,1,(.t 1)),(1,1,(.t 2)),(2,1,(.t 3)),(3,1,(.t 4)),(4,1,(.t 5)),(5,1,(.t 6))]),cM 8 7,I 0 8] (.fz true 0 .ret)))
@[simp] def Vs:List bt:=[.tmp 0]
def Ol:C:=(aa [bQ 4 0] (.seq (aa [I 8 0,fv 9 8,aI 10 0 1 9,ax 11 1 10,I 12 1,b1 13 (.mget .i (.int .i64 0) true (.t 11) (.t 12)),I 7 13,c2 14 0 7,c2 15 1 7,I 5 14,I 6 15] (aa [I 16 6,cx 17 16] (aT 17 (.region [I 18 0,fv 19 18,aI 20 0 1 19,ax 21 1 20,I 22 1,I 23 1,cK (.mput .i (.t 21) (.t 22) (.t 23))]) .skip))) (.seq (.block 0 (.loop (.seq (aa [I 24 0,fv 25 24,aI 26 0 1 25,ax 27 1 26,I 28 1,b1 29 (.mget .i (.int .i64 0) false (.t 27) (.t 28)),I 30 1,bk 31 .neq 29 30] (aT 31 .skip (.exit 0))) (.block 1 (.seq (.drawn true 55 [I 32 0,fv 33 32,aI 34 0 1 33,ax 35 1 34,I 36 1,I 37 0,fv 38 37,aI 39 0 1 38,ax 40 1 39,I 41 0,fv 42 41,aI 43 0 1 42,ax 44 1 43,I 45 1,b1 46 (.mget .i (.int .i64 0) false (.t 44) (.t 45)),b1 47 (.mget .i (.int .i64 0) false (.t 40) (.t 46)),cK (.mput .i (.t 35) (.t 36) (.t 47))]) (.region [I 48 0,fv 49 48,aI 50 0 1 49,ax 51 1 50,I 52 1,b1 53 (.mget .i (.int .i64 0) false (.t 51) (.t 52)),I 1 53])))))) (aa [I 54 1,I 4 54] .ret))))
@[simp] def Vk:List bt:=[.tmp 4]
def Og:C:=(aa [cM 2 0,cM 3 1] (.fz false 2 (.region [be 4 4 3,b1 5 (.mkf 243 [.t 2]),cd 6 129 4 5])))
@[simp] def Vh:List bt:=[]
def u1:C:=(aa [cM 4 1,cM 5 2,bf 6 false] (.seq (.block 0 (aa [aI 12 0 1 4,ax 13 1 12,aS 14 .eql 13 1,I 15 14,aq 15 true (aI 16 0 1 5),aq 15 true (ax 17 1 16),aq 15 true (aS 18 .eql 17 1),dK 19 15 18,I 11 19] (aT 11 (aa [I 20 0,aI 21 1 1 4,ax 22 1 21,cd 23 196 20 22,I 7 23] (aa [I 24 0,aI 25 1 1 5,ax 26 1 25,cd 27 196 24 26,I 8 27] (.seq (aa [I 28 7,I 29 8,bk 30 .eql 28 29] (aT 30 (aa [bf 6 true] .ret) .skip)) (.seq (aa [I 31 8,I 32 7,bk 33 .lss 31 32] (aT 33 (.region [I 34 8,I 35 7,I 7 34,I 8 35]) .skip)) (aa [I 36 0,fv 37 36,aI 38 0 1 37,ax 39 1 38,I 40 8,I 41 7,cK (.mput .i (.t 39) (.t 40) (.t 41))] (.seq (aa [I 42 0,fv 43 42,aI 44 2 1 43,ax 45 1 44,I 46 8,b1 47 (.mget .i (.bool false) false (.t 45) (.t 46)),cx 48 47] (aT 48 (aa [I 49 0,fv 50 49,aI 51 2 1 50,ax 52 1 51,I 53 7,b1 54 (.mget .i (.bool false) false (.t 52) (.t 53)),cx 55 54,I 56 55,b4 56 false 57 0,b4 56 false 58 0,aq 56 false (fv 59 58),aq 56 false (aI 60 1 1 59),aq 56 false (ax 61 1 60),b4 56 false 62 7,wC 56 false 63 (.mget .i (.agg dS) false (.t 61) (.t 62)),b4 56 false 64 7,ys 56 false (.mkmap 65 (some 715)),aq 56 false (dI 66 244 [.t 57,.t 63,.t 64,.t 65]),aq 56 false (cx 67 66),dc 68 56 67,I 6 68] .ret) .skip)) (aa [I 69 0,fv 70 69,aI 71 1 1 70,ax 72 1 71,I 73 8,b1 74 (.mget .i (.agg dS) false (.t 72) (.t 73)),dH 9 dS,bW 4 9 74] (.seq (aa [I 75 0,fv 76 75,aI 77 2 1 76,ax 78 1 77,I 79 7,b1 80 (.mget .i (.bool false) false (.t 78) (.t 79)),cx 81 80] (aT 81 (aa [I 82 0,I 83 7,be 84 4 9,dI 85 245 [.t 82,.t 83,.t 84],I 6 85] .ret) .skip)) (.seq (.drawnW [715,716] 198 [I 86 0,be 87 4 9,I 88 7,cK (.mkmap 89 (some 715)),dI 90 244 [.t 86,.t 87,.t 88,.t 89],cx 91 90,I 92 91,b4 92 true 93 0,b4 92 true 94 0,aq 92 true (fv 95 94),aq 92 true (aI 96 1 1 95),aq 92 true (ax 97 1 96),b4 92 true 98 7,wC 92 true 99 (.mgetB .i (.agg dS) false (.t 97) (.t 98)),b4 92 true 100 7,ys 92 true (.mkmap 101 (some 716)),aq 92 true (dI 102 244 [.t 93,.t 99,.t 100,.t 101]),aq 92 true (cx 103 102),dK 104 92 103,I 105 104,b4 105 true 106 0,b4 105 true 107 0,aq 105 true (fv 108 107),aq 105 true (aI 109 1 1 108),aq 105 true (ax 110 1 109),b4 105 true 111 7,wC 105 true 112 (.mgetB .i (.agg dS) false (.t 110) (.t 111)),aq 105 true (be 113 4 9),aq 105 true (dI 114 198 [.t 106,.t 112,.t 113]),dK 115 105 114,I 6 115]) .ret))))))))) (aa [aI 117 0 1 4,ax 118 1 117,aS 119 .eql 118 1,I 116 119] (aT 116 (aa [I 120 0,aI 121 1 1 4,ax 122 1 121,cd 123 196 120 122,I 10 123] (.seq (aa [I 124 0,fv 125 124,aI 126 2 1 125,ax 127 1 126,I 128 10,b1 129 (.mget .i (.bool false) false (.t 127) (.t 128)),cx 130 129] (aT 130 (aa [I 131 0,I 132 10,be 133 4 5,dI 134 245 [.t 131,.t 132,.t 133],I 6 134] .ret) .skip)) (.seq (.drawn false 198 [I 135 0,I 136 0,fv 137 136,aI 138 1 1 137,ax 139 1 138,I 140 10,b1 141 (.mgetB .i (.agg dS) false (.t 139) (.t 140)),be 142 4 5,dI 143 198 [.t 135,.t 141,.t 142],I 6 143]) .ret))) (aa [aI 145 0 1 5,ax 146 1 145,aS 147 .eql 146 1,I 144 147] (aT 144 (aa [I 148 0,be 149 4 5,be 150 4 4,dI 151 198 [.t 148,.t 149,.t 150],I 6 151] .ret) (aa [aI 153 0 1 4,ax 154 1 153,aI 155 0 1 5,ax 156 1 155,bk 157 .neq 154 156,I 158 157,aq 158 false (aI 159 1 1 4),aq 158 false (ax 160 1 159),aq 158 false (aI 161 1 1 5),aq 158 false (ax 162 1 161),aq 158 false (bk 163 .neq 160 162),dc 164 158 163,I 165 164,aq 165 false (aI 166 2 1 4),aq 165 false (ax 167 1 166),aq 165 false (aI 168 2 1 5),aq 165 false (ax 169 1 168),aq 165 false (bk 170 .neq 167 169),dc 171 165 170,I 152 171] (aT 152 (aa [bf 6 false] .ret) (aa [aI 173 0 1 4,ax 174 1 173,aS 175 .eql 174 4,I 172 175] (aT 172 (.seq (.drawn false 198 [I 176 0,aI 177 3 1 4,ax 178 1 177,jC 179 4 178 0,be 180 4 179,aI 181 3 1 5,ax 182 1 181,jC 183 4 182 0,be 184 4 183,dI 185 198 [.t 176,.t 180,.t 184],I 186 185,b4 186 true 187 0,aq 186 true (aI 188 3 1 4),aq 186 true (ax 189 1 188),aq 186 true (jC 190 4 189 1),aq 186 true (be 191 4 190),aq 186 true (aI 192 3 1 5),aq 186 true (ax 193 1 192),aq 186 true (jC 194 4 193 1),aq 186 true (be 195 4 194),aq 186 true (dI 196 198 [.t 187,.t 191,.t 195]),dK 197 186 196,I 6 197]) .ret) .skip))))))))))) (aa [bf 6 true] .ret)))
@[simp] def nG:List bt:=[.tmp 6]
def Oh:C:=(.region [ax 3 1 1,I 4 0,cd 5 196 3 4])
@[simp] def Vi:List bt:=[]
def Oi:C:=(aa [cM 4 0,cM 5 1,cM 6 2,cM 7 3,bf 8 false] (aa [cK (.alloc 9 (some 712) (.bool false)),cK (.store 1 (.t 9) (.c (.bool false)))] (.seq (.fz false 7 (.fz false 6 (.fz false 4 (.region [be 10 4 5,b1 11 (.mkf 273 [.t 4,.t 9,.t 6,.t 7]),cd 12 129 10 11])))) (aa [ax 13 1 9,I 8 13] .ret))))
@[simp] def Vj:List bt:=[.tmp 8]
def Oe:C:=(aa [cM 5 2,bf 6 false] (.seq (.drawn true 24 [I 7 0,fv 8 7,aI 9 1 1 8,ax 10 1 9,I 11 1,be 12 4 5,cK (.mput .i (.t 10) (.t 11) (.t 12))]) (aa [I 13 0,fv 14 13,aI 15 2 1 14,ax 16 1 15,I 17 1,cK (.mput .i (.t 16) (.t 17) (.c (.bool true)))] (aa [I 18 0,be 19 4 5,I 20 1,cK (.mkmap 21 (some 715)),dI 22 244 [.t 18,.t 19,.t 20,.t 21],cx 23 22,I 6 23] .ret))))
@[simp] def Vg:List bt:=[.tmp 6]
def yI:C:=(aa [cM 2 0,bf 4 false] (.seq (.seq (.fz false 2 (.region [ax 6 1 2,fv 7 6,aI 8 3 1 7,ax 9 1 8,I 10 1,b1 11 (.mget .i (.int .i64 0) false (.t 9) (.t 10)),aS 12 .eql 11 2])) (aT 12 (aa [bf 4 true] .ret) .skip)) (.seq (aa [ax 13 1 2,fv 14 13,aI 15 3 1 14,ax 16 1 15,I 17 1,b1 18 (.mget .i (.int .i64 0) false (.t 16) (.t 17)),aS 19 .eql 18 1] (aT 19 (aa [bf 4 false] .ret) .skip)) (aa [ax 20 1 2,fv 21 20,aI 22 3 1 21,ax 23 1 22,I 24 1,cK (.mput .i (.t 23) (.t 24) (gp 1))] (aa [ax 25 1 2,fv 26 25,aI 27 4 1 26,ax 28 1 27,I 29 1,cK (.mput .i (.t 28) (.t 29) (gp 1))] (.seq (aa [ax 30 1 2,fv 31 30,aI 32 2 1 31,ax 33 1 32,I 34 1,b1 35 (.mget .i (.bool false) false (.t 33) (.t 34))] (aT 35 (aa [cK (.alloc 5 (some 712) (.bool false)),cK (.store 1 (.t 5) (.c (.bool true)))] (aa [ax 36 1 2,fv 37 36,aI 38 1 1 37,ax 39 1 38,I 40 1,b1 41 (.mget .i (.agg dS) false (.t 39) (.t 40)),b1 42 (.mkf 274 [.t 5,.t 2]),cd 43 129 41 42] (.seq (aa [ax 44 1 5,cx 45 44] (aT 45 (aa [bf 4 false] .ret) .skip)) (.drawn false 64 [ax 46 1 2,fv 47 46,aI 48 4 1 47,ax 49 1 48,I 50 1,ax 51 1 2,fv 52 51,aI 53 1 1 52,ax 54 1 53,I 55 1,b1 56 (.mgetB .i (.agg dS) false (.t 54) (.t 55)),b1 57 (.mkf 275 [.t 2]),cd 58 239 56 57,cK (.mput .i (.t 49) (.t 50) (.t 58))])))) .skip)) (aa [ax 59 1 2,fv 60 59,aI 61 3 1 60,ax 62 1 61,I 63 1,cK (.mput .i (.t 62) (.t 63) (gp 2))] (aa [bf 4 true] .ret))))))))
@[simp] def Ag:List bt:=[.tmp 4]
def DY:C:=(aa [cM 2 0,dH 4 dS] (.seq (.seq (.fz false 2 (.region [ax 9 1 2,fv 10 9,aI 11 5 1 10,ax 12 1 11,I 13 1,b1 14 (.mget .i (.agg dS) true (.t 12) (.t 13)),I 8 14,c2 15 0 8,c2 16 1 8,dH 5 dS,bW 4 5 15,I 6 16])) (aa [I 17 6] (aT 17 (aa [be 18 4 5,bW 4 4 18] .ret) .skip))) (aa [I 19 1,cQ 20 96 19,dH 7 dS,bW 4 7 20] (.seq (aa [ax 21 1 2,fv 22 21,aI 23 2 1 22,ax 24 1 23,I 25 1,b1 26 (.mget .i (.bool false) false (.t 24) (.t 25))] (aT 26 (.region [ax 27 1 2,fv 28 27,aI 29 1 1 28,ax 30 1 29,I 31 1,b1 32 (.mget .i (.agg dS) false (.t 30) (.t 31)),b1 33 (.mkf 276 [.t 2]),cd 34 153 32 33,bW 4 7 34]) .skip)) (.seq (.drawn true 42 [ax 35 1 2,fv 36 35,aI 37 5 1 36,ax 38 1 37,I 39 1,be 40 4 7,cK (.mput .i (.t 38) (.t 39) (.t 40))]) (aa [be 41 4 7,bW 4 4 41] .ret))))))
@[simp] def Ge:List bt:=[.cell 4 true 4]
def Oj:C:=(aa [ax 7 1 1,I 8 0,cd 9 196 7 8,I 6 9] (.seq (aa [ax 10 1 2,I 11 10,b4 11 false 12 6,aq 11 false (ax 13 1 3),aq 11 false (bk 14 .eql 12 13),dc 15 11 14] (aT 15 (aa [cK (.store 1 (.t 2) (.c (.bool true)))] .ret) .skip)) (aa [ax 16 1 4,I 17 6,b1 18 (.mget .i (.bool false) false (.t 16) (.t 17)),cx 19 18,I 20 19,aq 20 true (ax 21 1 1),aq 20 true (fv 22 21),aq 20 true (aI 23 2 1 22),aq 20 true (ax 24 1 23),b4 20 true 25 6,aq 20 true (b1 26 (.mget .i (.bool false) false (.t 24) (.t 25))),dK 27 20 26] (aT 27 (aa [ax 28 1 4,I 29 6,cK (.mput .i (.t 28) (.t 29) (.c (.bool true)))] (.drawn false 40 [ax 30 1 1,ax 31 1 1,fv 32 31,aI 33 1 1 32,ax 34 1 33,I 35 6,b1 36 (.mgetB .i (.agg dS) false (.t 34) (.t 35)),ax 37 1 3,ax 38 1 4,dI 39 244 [.t 30,.t 36,.t 37,.t 38],bW 1 2 39])) .skip))))
@[simp] def Af:List bt:=[]
def HO:C:=(.seq (.drawn false 13 [b1 4 (.loadB false 1 (.t 1)),I 5 4,aq 5 true (ax 6 1 2),aq 5 true (ax 7 1 2),b4 5 true 8 0,aq 5 true (cd 9 196 7 8),aq 5 true (cd 10 246 6 9),aq 5 true (cx 11 10),dK 12 5 11]) (aT 12 (.region [cK (.store 1 (.t 1) (.c (.bool false)))]) .skip))
@[simp] def Gf:List bt:=[]
def Oo:C:=(aa [bQ 3 0] (.seq (.drawn false 12 [ax 4 1 1,fv 5 4,aI 6 4 1 5,ax 7 1 6,ax 8 1 1,I 9 0,cd 10 196 8 9,b1 11 (.mgetB .i (.int .i64 0) false (.t 7) (.t 10)),I 3 11]) .ret))
@[simp] def Vm:List bt:=[.tmp 3]
def On:C:=(aa [dH 3 dS,bf 4 false] (.seq (.drawn false 10 [ax 5 1 1,ax 6 1 1,I 7 0,cd 8 196 6 7,cd 9 247 5 8,bW 4 3 9,bf 4 true]) .ret))
@[simp] def Vl:List bt:=[.cell 3 true 4,.tmp 4]
def oC:List (Nat×dA):=[
 (3,⟨1,8,.int .i64,.int .i64 0⟩),
 (4,⟨1,1,.bool,.bool false⟩),
 (9,⟨1,16,.str,.str []⟩),
 (30,⟨1,24,.slice 32,.slice 4 .nil []⟩),
 (32,⟨4,56,.struct [(0,3),(1,3),(2,9),(3,30)],.agg [.int .i64 0,.int .i64 0,.str [],.slice 4 .nil []]⟩),
 (127,⟨1,8,.map 3 32,.junk⟩),
 (154,⟨1,8,.map 3 4,.junk⟩),
 (182,⟨1,8,.map 3 3,.junk⟩),
 (204,⟨1,8,.other,.nilp⟩),
 (245,⟨6,48,.struct [(0,182),(1,127),(2,154),(3,182),(4,182),(5,127)],.agg [.junk,.junk,.junk,.junk,.junk,.junk]⟩)]
theorem jh:fN al oC=true:=by kernel_rfl
theorem ah0:bY oC OK ajM 1 Tryz.f96=true:=by kernel_rfl
theorem abn:al.funcs[(96:Nat)]? =some Tryz.f96:=Tryz.func96
theorem ahO:bY oC Oy Vs 0 Tryz.f195=true:=by kernel_rfl
theorem abb:al.funcs[(195:Nat)]? =some Tryz.f195:=Tryz.func195
theorem ahE:bY oC Ol Vk 2 Tryz.f196=true:=by kernel_rfl
theorem aa1:al.funcs[(196:Nat)]? =some Tryz.f196:=Tryz.func196
theorem ahA:bY oC Og Vh 2 Tryz.f197=true:=by kernel_rfl
theorem aaX:al.funcs[(197:Nat)]? =some Tryz.f197:=Tryz.func197
theorem xX:bY oC u1 nG 3 Tryz.f198=true:=by kernel_rfl
theorem wY:al.funcs[(198:Nat)]? =some Tryz.f198:=Tryz.func198
theorem ahB:bY oC Oh Vi 2 Tryz.f243=true:=by kernel_rfl
theorem aaY:al.funcs[(243:Nat)]? =some Tryz.f243:=Tryz.func243
theorem ahC:bY oC Oi Vj 4 Tryz.f244=true:=by kernel_rfl
theorem aaZ:al.funcs[(244:Nat)]? =some Tryz.f244:=Tryz.func244
theorem ahz:bY oC Oe Vg 3 Tryz.f245=true:=by kernel_rfl
theorem aaW:al.funcs[(245:Nat)]? =some Tryz.f245:=Tryz.func245
theorem CJ:bY oC yI Ag 2 Tryz.f246=true:=by kernel_rfl
theorem Bj:al.funcs[(246:Nat)]? =some Tryz.f246:=Tryz.func246
theorem KY:bY oC DY Ge 2 Tryz.f247=true:=by kernel_rfl
theorem Iy:al.funcs[(247:Nat)]? =some Tryz.f247:=Tryz.func247
theorem ahD:bY oC Oj Af 5 Tryz.f273=true:=by kernel_rfl
theorem aa0:al.funcs[(273:Nat)]? =some Tryz.f273:=Tryz.func273
theorem UA:bY oC HO Gf 3 Tryz.f274=true:=by kernel_rfl
theorem QI:al.funcs[(274:Nat)]? =some Tryz.f274:=Tryz.func274
theorem ahH:bY oC Oo Vm 2 Tryz.f275=true:=by kernel_rfl
theorem aa4:al.funcs[(275:Nat)]? =some Tryz.f275:=Tryz.func275
theorem ahG:bY oC On Vl 2 Tryz.f276=true:=by kernel_rfl
theorem aa3:al.funcs[(276:Nat)]? =some Tryz.f276:=Tryz.func276
end Go.Proofs.YtohaalphocaebaaGreat
namespace Go.Proofs.YtohaalphocaebaaGreat
open Go Go.Pv
section
variable {α:Type} (S:α→cE) (dk:∀a,dT (S a)) (dX:∀a b,Same (S a) (S b)) (g:Nat) (da:List ah) (aw:∀a,aG (inObs (S a)) da) (cO:cY da=da)
include dk dX aw cO in
theorem Rh(gV:α→Prop)(f:Int→α→aY α)(aH:∀v a bn,gV a→f v a=some bn→gV bn∧bF al g (.int .i64 v::da) (S a) fun r ai=>r= .tuple []∧ai=S bn)(t:T):
  ∀a bn,gV a→t.foldO f a=some bn→gV bn∧bF al 129 [t.e,.func g da] (S a) fun r ai=>r= .tuple []∧ai=S bn:=by
 have aA:∀a m,Pv.look (.loc m) (S a).b=none:=fun a=>(dk a).obj.1;have hu:∀a m cs,cw (.loc m) cs (S a).b=(S a).b++[(.loc m,cs)]:=fun a m cs=>jB (aA a m);have av:∀a m,aD.loc m∉cW (S a):=fun a=>jx (dk a).obj;induction t with
 |pair x y lS nB=>intro a bn hi he;have ag:=dk a;simp only[T.foldO,mB]at he;obtain⟨bC,J,U⟩:=he;obtain⟨i1,g1⟩:=lS a bC hi J;obtain⟨i2,g2⟩:=nB bC bn i1 U;refine⟨i2,?_⟩;refine bF.mk mixed fO tI uv (by simp) ag.obj fun aQ cN=>?_;unfold sd;simp[hu,av,cD,aA,cO];(with_reducible repeat' first|refine aj ?_|simp[hu,av,cD,aA]);refine cV.ob g1 ag aO aO (by simp[aw]) ?_;rintro r ai ⟨rfl,rfl⟩;refine⟨dX _ _,?_⟩;simp[gA,hT,cn,aA];(with_reducible repeat' first|refine aj ?_|simp[hu,av,cD,aA]);rw[cO];refine cV.ob g2 (dk bC) aO aO (by simp[aw]) ?_;rintro r ai ⟨rfl,rfl⟩;refine⟨dX _ _,?_⟩;simp[gA,hT,cn,aA];refine cH.at (S bn) (.inr rfl) (dk _) (dX _ _) aO aO ?_;simp[cI,sV,aV,aW,aU]
 |var n=>intro a bn hi he;have ag:=dk a;simp only[T.foldO]at he;obtain⟨i1,g1⟩:=aH n a bn hi he;refine⟨i1,?_⟩;refine bF.mk mixed fO tI uv (by simp) ag.obj fun aQ cN=>?_;unfold sd;simp[hu,av,cD,aA,cO];(with_reducible repeat' first|refine aj ?_|simp[hu,av,cD,aA]);refine cV.ob g1 ag aO aO (by simp[aw]) ?_;rintro r ai ⟨rfl,rfl⟩;refine⟨dX _ _,?_⟩;simp[gA,hT,cn,aA,cD];refine cH.at (S bn) (.inr rfl) (dk _) (dX _ _) aO aO ?_;simp[cI,sV,aV,aW,aU]
 |_=>intro a bn hi he;have ag:=dk a;simp only[T.foldO,dE]at he;subst he;refine⟨hi,?_⟩;refine bF.mk mixed fO tI uv (by simp) ag.obj fun aQ cN=>?_;unfold sd;simp[hu,av,cD,aA,cO];(with_reducible repeat' first|refine aj ?_|simp[hu,av,cD,aA]);refine cH.at (S a) (.inr rfl) ag (Same.refl _) aO aO ?_;simp[cI,sV,aV,aW,aU]
include dk dX aw cO in
theorem IW(f:Int→α→aY α)(aH:∀v a bn,f v a=some bn→bF al g (.int .i64 v::da) (S a) fun r ai=>r= .tuple []∧ai=S bn)(t:T)(a bn:α)(h:t.foldO f a=some bn):bF al 129 [t.e,.func g da] (S a) fun r ai=>r= .tuple []∧ai=S bn:=(Rh S dk dX g da aw cO (fun _=>True) f (fun v a bn _ h=>⟨trivial,aH v a bn h⟩) t a bn trivial h).2
include dk dX aw cO in
theorem adg(f:Int→α→aY (T×α))(aH:∀v a p,f v a=some p→bF al g (.int .i64 v::da) (S a) fun r ai=>r= .tuple [p.1.e,.bool true]∧ai=S p.2)(t:T):
  ∀a p,t.mapO f a=some p→bF al 153 [t.e,.func g da] (S a) fun r ai=>r=p.1.e∧ai=S p.2:=by
 have aA:∀a m,Pv.look (.loc m) (S a).b=none:=fun a=>(dk a).obj.1;have cF:∀a m,Pv.look (.loc m) (S a).e=none:=fun a=>(dk a).obj.2;have hu:∀a m cs,cw (.loc m) cs (S a).b=(S a).b++[(.loc m,cs)]:=fun a m cs=>jB (aA a m);have av:∀a m,aD.loc m∉cW (S a):=fun a=>jx (dk a).obj;have jX:∀a m p r,cw (.loc m) p ((S a).b++r)=(S a).b++cw (.loc m) p r:=fun a m p r=>AM (aA a m);induction t with
 |pair x y lS nB=>intro a p he;have ag:=dk a;simp only[T.mapO,mB,gN]at he;obtain⟨cU,J,ds,U,rfl⟩:=he;refine bF.mk mixed fO yU zZ (by simp) ag.obj fun aQ cN=>?_;unfold wS;simp[hu,av,cD,aA,cF,cO,jX];(with_reducible repeat' first|refine aj ?_|simp[hu,av,cD,aA,cF,jX]);refine h1.ob (lS a cU J) ag (dk cU.2) (dX _ _) aO aO (by simp[aw]) ?_;simp[gA,hT,cn,aA,cO];(with_reducible repeat' first|refine aj ?_|simp[hu,av,cD,aA,cF,jX]);refine h1.ob (nB cU.2 ds U) (dk cU.2) (dk ds.2) (dX _ _) aO aO (by simp[aw,cO]) ?_;simp[gA,hT,cn,aA,cO];(with_reducible repeat' first|refine aj ?_|refine aE (Ha _ _) ?_|refine aF (Ha _ _) ?_|simp[cD,aA,jX]);refine cH.at (S ds.2) (.inl rfl) (dk _) (dX _ _) aO aO ?_;simp[cI,x4,aV,aW,aU,cD,aA]
 |var n=>
  intro a p he;have ag:=dk a;simp only[T.mapO]at he;refine bF.mk mixed fO yU zZ (by simp) ag.obj fun aQ cN=>?_;unfold wS;simp[hu,av,cD,aA,cO,jX];(with_reducible repeat' first|refine aj ?_|simp[hu,av,cD,aA,jX]);refine cV.ob (aH n a p he) ag aO aO (by simp[aw]) ?_;rintro r ai ⟨rfl,rfl⟩;refine⟨dX _ _,?_⟩;simp[gA,hT,cn,aA,hu,av,cD];(with_reducible repeat' first|refine aj ?_|refine aE (te _) ?_|refine aF (te _) ?_|simp[hu,av,cD,aA,jX]);all_goals refine cH.at (S p.2) (.inl rfl) (dk _) (dX _ _) aO aO ?_
  all_goals simp[cI,x4,aV,aW,aU,cD,aA]
 |_=>intro a p he;have ag:=dk a;simp only[T.mapO,dE]at he;subst he;refine bF.mk mixed fO yU zZ (by simp) ag.obj fun aQ cN=>?_;unfold wS;simp[hu,av,cD,aA,cO,jX];(with_reducible repeat' first|refine aj ?_|simp[hu,av,cD,aA,jX]);refine cH.at (S a) (.inl rfl) ag (Same.refl _) aO aO ?_;simp[cI,x4,aV,aW,aU,cD,aA]
include dk dX aw cO in
theorem adu(gV:α→Prop)(f:Int→α→aY (Int×α))(BJ:∀v a p,gV a→f v a=some p→gV p.2∧0≤p.1∧p.1≤1000000)(aH:∀v a p,gV a→f v a=some p→bF al g (.int .i64 v::da) (S a) fun r ai=>r= .int .i64 p.1∧ai=S p.2)(t:T):
  ∀a p,gV a→t.sizeO f a=some p→gV p.2∧(0≤p.1∧p.1≤5001)∧bF al 239 [t.e,.func g da] (S a) fun r ai=>r= .int .i64 p.1∧ai=S p.2:=by
 have aA:∀a m,Pv.look (.loc m) (S a).b=none:=fun a=>(dk a).obj.1;have hu:∀a m cs,cw (.loc m) cs (S a).b=(S a).b++[(.loc m,cs)]:=fun a m cs=>jB (aA a m);have av:∀a m,aD.loc m∉cW (S a):=fun a=>jx (dk a).obj;induction t with
 |pair x y lS nB=>
  intro a p hi he;have ag:=dk a;simp only[T.sizeO,mB]at he;obtain⟨cU,J,U⟩:=he;obtain⟨i1,b8,g1⟩:=lS a cU hi J;by_cases EJ:5000<cU.1
  ·rw[if_pos EJ]at U;cases U;refine⟨i1,b8,?_⟩;refine bF.mk mixed fO wZ xY (by simp) ag.obj fun aQ cN=>?_;unfold u2;simp[hu,av,cD,aA,cO];(with_reducible repeat' first|refine aj ?_|simp[hu,av,cD,aA]);refine cV.ob g1 ag aO aO (by simp[aw]) ?_;rintro r ai ⟨rfl,rfl⟩;refine⟨dX _ _,?_⟩;simp[gA,hT,cn,aA];((with_reducible repeat' first|((first|apply bR|apply bU|apply bT)<;>intro h<;>try simp at h)|refine aj ?_|simp[hu,av,cD,aA])<;>(try contradiction));all_goals first|omega|(refine cH.at (S p.2) (.inl rfl) (dk _) (dX _ _) aO aO ?_;simp[cI,uC,aV,aW,aU])
  ·rw[if_neg EJ,gN]at U;obtain⟨ds,U,rfl⟩:=U;obtain⟨i2,b3,g2⟩:=nB cU.2 ds i1 U;refine⟨i2,by simp only;split<;>omega,?_⟩;refine bF.mk mixed fO wZ xY (by simp) ag.obj fun aQ cN=>?_;unfold u2;simp[hu,av,cD,aA,cO];(with_reducible repeat' first|((first|apply bR|apply bU|apply bT)<;>intro h<;>try simp at h)|refine aj ?_|simp[hu,av,cD,aA]);refine cV.ob g1 ag aO aO (by simp[aw]) ?_;rintro r ai ⟨rfl,rfl⟩;refine⟨dX _ _,?_⟩;simp[gA,hT,cn,aA];((with_reducible repeat' first|refine aj ?_|simp[hu,av,cD,aA]|((first|apply bR|apply bU|apply bT)<;>intro h<;>try simp at h))<;>(try exact cv));all_goals first|omega|skip
   rw[cO];refine cV.ob g2 (dk cU.2) aO aO (by simp[aw]) ?_;rintro r s2 ⟨rfl,rfl⟩;refine⟨dX _ _,?_⟩;simp[gA,hT,cn,aA];(with_reducible repeat' first|refine aj ?_|simp[hu,av,cD,aA]);refine cH.at (S ds.2) (.inl rfl) (dk _) (dX _ _) aO aO ?_;simp[cI,uC,aV,aW,aU]
 |var n=>intro a p hi he;have ag:=dk a;simp only[T.sizeO,gN]at he;obtain⟨cU,J,rfl⟩:=he;have ae:=BJ n a cU hi J;refine⟨ae.1,by simp only;split<;>omega,?_⟩;refine bF.mk mixed fO wZ xY (by simp) ag.obj fun aQ cN=>?_;unfold u2;simp[hu,av,cD,aA,cO];(with_reducible repeat' first|refine aj ?_|simp[hu,av,cD,aA]);refine cV.ob (aH n a cU hi J) ag aO aO (by simp[aw]) ?_;rintro r ai ⟨rfl,rfl⟩;refine⟨dX _ _,?_⟩;simp[gA,hT,cn,aA];refine cH.at (S cU.2) (.inl rfl) (dk _) (dX _ _) aO aO ?_;simp[cI,uC,aV,aW,aU]
 |_=>intro a p hi he;have ag:=dk a;simp only[T.sizeO,dE]at he;subst he;refine⟨hi,by simp,?_⟩;refine bF.mk mixed fO wZ xY (by simp) ag.obj fun aQ cN=>?_;unfold u2;simp[hu,av,cD,aA,cO];(with_reducible repeat' first|refine aj ?_|simp[hu,av,cD,aA]);refine cH.at (S a) (.inl rfl) ag (Same.refl _) aO aO ?_;simp[cI,uC,aV,aW,aU]
end
end Go.Proofs.YtohaalphocaebaaGreat
namespace Go.Pv
open Go Go.RowKit
section
variable {P:cB} {ob:List aD} {st:bp} {Q:Exit→bp→Prop} {c:C} {α:Type}
theorem dW(ca:List Nat)(cs:Nat→α→List (Nat×ah))(n:Nat)(e5:Nat→α→Prop)(a0:α)(hw:iz ob st (pj st ca (cs 0 a0)))(bq:e5 0 a0)(vj:∀a,e5 n a→(∀i,ef (get i (pj st ca (cs n a)).t))→c0 P ob c (bO ob (yw (fun i a=>pj st ca (cs i a)) n e5) 0 Q) (pj st ca (cs n a)))
  (jt:∀i a,i<n→e5 i a→(∀j,ef (get j (pj st ca (cs i a)).t))→c0 P ob c (bO ob (yw (fun i a=>pj st ca (cs i a)) n e5) (n-i) Q) (pj st ca (cs i a))):c0 P ob (.loop c) Q st:=
 gP (fun i a=>pj st ca (cs i a)) n e5 a0 hw bq vj jt
theorem u7(ca:List Nat)(cs:α→List (Nat×ah))(mx:α→Nat)(e5:α→Prop)(a0:α)(hw:iz ob st (pj st ca (cs a0)))(bq:e5 a0)
  (jt:∀a,e5 a→(∀j,ef (get j (pj st ca (cs a)).t))→c0 P ob c (bO ob (AT (fun a=>pj st ca (cs a)) mx e5) (mx a) Q) (pj st ca (cs a))):c0 P ob (.loop c) Q st:=
 n3 (fun a=>pj st ca (cs a)) mx e5 a0 hw bq jt
end
attribute [simp] ag0
end Go.Pv
namespace Go.Proofs.YtohaalphocaebaaGreat
open Go Go.Pv
theorem Kt{α β:Type}(k:aD):∀{l:List (aD×α)} {aX:List (aD×β)},l.map (·.1)=aX.map (·.1)→(Pv.look k l).isSome=(Pv.look k aX).isSome
 |[],[],_=>rfl
 |[],_::_,h=>by simp at h
 |_::_,[],h=>by simp at h
 |(i,x)::r,(j,y)::eF,h=>by
  simp only[gM,nQ]at h;simp only[Pv.look];obtain⟨rfl,h⟩:=h;split
  ·rfl
  ·exact Kt k h
theorem _root_.Go.Pv.Same.keys{s ai:cE}(ae:s.b.map (·.1)=ai.b.map (·.1))(he:s.e.map (·.1)=ai.e.map (·.1)):Same s ai:=⟨fun k=>Kt k ae,fun k=>Kt k he⟩
section
variable {α:Type} (e:α→ah)
def rD(l:List (Int×α)):List ah:=jf (l.map fun x=>(x.1,e x.2))
theorem Nu(k:Int):∀l:List (Int×α),wN k (l.map fun x=>(x.1,e x.2))=(cZ k l).map e
 |[]=>rfl
 |(i,v)::r=>by
  simp only[gM,wN,cZ];split
  ·rfl
  ·exact Nu k r
theorem NF(k:Int)(v:α):∀l:List (Int×α),oS k (e v) (l.map fun x=>(x.1,e x.2))=if(cZ k l).isSome then some ((eC k v l).map fun x=>(x.1,e x.2))else none
 |[]=>rfl
 |(i,w)::r=>by
  simp only[gM,oS,cZ,eC];by_cases h:k=i
  ·subst h;simp
  ·simp only[h,if_false,NF k v r];cases (cZ k r).isSome<;>simp
theorem GX{k:Int}{v:α}:∀{l:List (Int×α)},cZ k l=none→eC k v l=l++[(k,v)]
 |[],_=>rfl
 |(i,w)::r,h=>by
  simp only[cZ]at h;split at h
  ·cases h
  ·rename_i cF;simp[eC,cF,GX h]
theorem KO(k:Int)(v:α)(l:List (Int×α)):ou .i (.int .i64 k) (e v) (rD e l)=some (rD e (eC k v l)):=by
 simp only[rD,Up,DR,NF];cases h:cZ k l with
 |some w=>simp
 |none=>simp[GX h]
theorem KJ(f:aD→aY (List ah))(m:aD)(l:List (Int×α))(z:ah)(ok:Bool)(k:Int)(hm:f m=some (rD e l)):nE f .i z ok (.gmap m) (.int .i64 k)=some (True,if ok then .tuple [((cZ k l).map e).getD z,.bool (cZ k l).isSome]else((cZ k l).map e).getD z):=by rw[agL f m _ z ok k hm,Nu];cases cZ k l<;>rfl
@[simp] theorem aqZ(l:List (Int×α)):gn (rD e l)=false:=rfl
theorem Ki(S:aD→Prop)(he:∀x,aB S (e x))(l:List (Int×α)):aG S (rD e l):=by
 have:∀l:List (Int×α),aG S (j9 (l.map fun x=>(x.1,e x.2))):=by
  intro l;induction l with
  |nil=>simp[j9,aG]
  |cons x r bN=>simp[j9,aG,bN,he]
 simp[rD,jf,aG,this,aB]
end
def kZ:List (Int×Int)→List ah:=rD (ah.int .i64)
def pe:List (Int×Bool)→List ah:=rD ah.bool
def sP:List (Int×T)→List ah:=rD T.e
@[simp] theorem aqW(l):gn (kZ l)=false:=rfl
@[simp] theorem aqU(l):gn (pe l)=false:=rfl
@[simp] theorem aqY(l):gn (sP l)=false:=rfl
@[simp] theorem apH(S:aD→Prop)(l):aG S (kZ l)=True:=eq_true (Ki _ S (fun _=>by simp) l)
@[simp] theorem apG(S:aD→Prop)(l):aG S (pe l)=True:=eq_true (Ki _ S (fun _=>by simp) l)
@[simp] theorem apI(S:aD→Prop)(l):aG S (sP l)=True:=eq_true (Ki _ S (fun _=>by simp) l)
@[simp] theorem aqK(k v:Int)(l):ou .i (.int .i64 k) (.int .i64 v) (kZ l)=some (kZ (eC k v l)):=KO _ k v l
@[simp] theorem aqJ(k:Int)(v:Bool)(l):ou .i (.int .i64 k) (.bool v) (pe l)=some (pe (eC k v l)):=KO _ k v l
@[simp] theorem aqM(k:Int)(v:T)(l):ou .i (.int .i64 k) v.e (sP l)=some (sP (eC k v l)):=KO _ k v l
def CA(ca:jl)(z:ah)(ok:Bool)(o:aY (List ah))(k:ah):aY (Prop×ah):=nE (fun _=>o) ca z ok (.gmap (.loc 0)) k
@[simp] theorem aqG(f:aD→aY (List ah))(ca:jl)(z:ah)(ok:Bool)(m:aD)(k:ah):nE f ca z ok (.gmap m) k=CA ca z ok (f m) k:=by simp only[CA,Ug]
theorem agN(f:aD→aY (List ah))(m:aD)(l:List (Int×Int))(ok:Bool)(k:Int)(hm:f m=some (kZ l)):nE f .i (.int .i64 0) ok (.gmap m) (.int .i64 k)=some (True,if ok then .tuple [.int .i64 (hR l k),.bool (cZ k l).isSome]else .int .i64 (hR l k)):=by rw[KJ _ f m l _ ok k hm];unfold hR;cases cZ k l<;>rfl
theorem agM(f:aD→aY (List ah))(m:aD)(l:List (Int×Bool))(ok:Bool)(k:Int)(hm:f m=some (pe l)):nE f .i (.bool false) ok (.gmap m) (.int .i64 k)=some (True,if ok then .tuple [.bool ((cZ k l).getD false),.bool (cZ k l).isSome]else .bool ((cZ k l).getD false)):=by rw[KJ _ f m l _ ok k hm];cases cZ k l<;>rfl
def Mu:ah:= .agg [.int .i64 0,.int .i64 0,.str [],.slice 4 .nil []]
def s8(o:aY T):ah:=(o.map T.e).getD Mu
theorem agO(f:aD→aY (List ah))(m:aD)(l:List (Int×T))(ok:Bool)(k:Int)(hm:f m=some (sP l)):nE f .i (.agg [.int .i64 0,.int .i64 0,.str [],.slice 4 .nil []]) ok (.gmap m) (.int .i64 k)=some (True,if ok then .tuple [s8 (cZ k l),.bool (cZ k l).isSome]else s8 (cZ k l)):=by rw[KJ _ f m l _ ok k hm];rfl
@[simp] theorem aqE(l:List (Int×Int))(ok:Bool)(k:Int):CA .i (.int .i64 0) ok (some (kZ l)) (.int .i64 k)=some (True,if ok then .tuple [.int .i64 (hR l k),.bool (cZ k l).isSome]else .int .i64 (hR l k)):=agN _ _ l ok k rfl
@[simp] theorem aqD(l:List (Int×Bool))(ok:Bool)(k:Int):CA .i (.bool false) ok (some (pe l)) (.int .i64 k)=some (True,if ok then .tuple [.bool ((cZ k l).getD false),.bool (cZ k l).isSome]else .bool ((cZ k l).getD false)):=agM _ _ l ok k rfl
@[simp] theorem aqF(l:List (Int×T))(ok:Bool)(k:Int):CA .i (.agg [.int .i64 0,.int .i64 0,.str [],.slice 4 .nil []]) ok (some (sP l)) (.int .i64 k)=some (True,if ok then .tuple [s8 (cZ k l),.bool (cZ k l).isSome]else s8 (cZ k l)):=agO _ _ l ok k rfl
@[simp] theorem asR(o:aY T):dm (s8 o)=(o.getD .nil).e:=by cases o<;>simp[s8,Mu,dm,cY]
@[simp] theorem aqh(S:aD→Prop)(o:aY T):aB S (s8 o)=True:=by cases o<;>simp[s8,Mu,aB,aG]
@[simp] theorem aqs:[ah.hdm 0 []]=jf []:=rfl
def az:ah:= .eptr (.agg [.gmap (.obj 702),.gmap (.obj 703),.gmap (.obj 704),.gmap (.obj 705),.gmap (.obj 706),.gmap (.obj 707)])
def ay(c:bs):List (aD×List ah):=[(.obj 702,kZ c.up),(.obj 703,sP c.shape),(.obj 704,pe c.shaped),(.obj 705,kZ c.color),(.obj 706,kZ c.size),(.obj 707,sP c.full)]
def aN(c:bs):cE:=⟨ay c,[]⟩
theorem cc(c:bs):dT (aN c):=by unfold aN ay;exact dT.of ⟨by intro m;simp[Pv.look],by intro m;simp[Pv.look]⟩ (by simp) (by simp)
theorem DI(c cq:bs):Same (aN c) (aN cq):=by
 refine⟨fun k=>?_,fun k=>rfl⟩;simp only[aN,ay,Pv.look];repeat' split
 all_goals rfl
theorem q3(c:bs)(v r:Int)(cq:bs)(he:rt c v=some (r,cq)):bF al 196 [az,.int .i64 v] (aN c) fun eF ai=>eF= .int .i64 r∧ai=aN cq:=by
 have ag:=cc c;have eO:=cc cq;have dX:=DI c cq;simp only[rt,gN,jj]at he;obtain⟨⟨dF,m1⟩,he,rfl,rfl⟩:=he;unfold aN ay at ag eO dX⊢;simp only at eO dX⊢;unfold az;refine bF.mk mixed jh aa1 ahE (by simp) ag.obj fun aQ cN=>?_;unfold Ol;simp;(with_reducible repeat' first|((first|apply bR|apply bU|apply bT)<;>intro h<;>try simp at h)|refine aj ?_|simp);all_goals
  refine n3 (α:=Nat×Int×List (Int×Int)) (fun a=>⟨[(0,az),(1,.int .i64 a.2.1)],[(.obj 702,kZ a.2.2),(.obj 703,sP c.shape),(.obj 704,pe c.shaped),(.obj 705,kZ c.color),(.obj 706,kZ c.size),(.obj 707,sP c.full)],[],0,[.obj 702,.obj 703,.obj 704,.obj 705,.obj 706,.obj 707]⟩) (fun a=>a.1) (fun a=>we a.1 a.2.2 a.2.1=some (dF,m1)) (v.toNat+1,v,yB v c.up) (by simp[yB,h,az];exact⟨by simp[fresh,aG,aB,cg,inObs,Pv.look,az],ec (by simp[fresh,aG,aB,cg,inObs,Pv.look,az]),ed (by simp[fresh,aG,aB,dR,inObs,Pv.look,az]),by simp⟩) he ?_
  rintro⟨n,u,m⟩ af ae
  simp only at af ae⊢
  cases n with
  |zero=>simp[we]at af
  |succ n=>
   simp only[we]at af
   simp[az]
   (with_reducible repeat' first|((first|apply bR|apply bU|apply bT)<;>intro h<;>try simp at h)|refine aj ?_|simp)
   ·rw[if_neg h]at af
    refine bO.whl (n,hR (eC u (hR m (hR m u)) m) u,eC u (hR m (hR m u)) m) (Nat.lt_succ_self n) af ?_
    simp[az]
    exact⟨by simp[fresh,aG,aB,cg,inObs,Pv.look,az],ec (by simp[fresh,aG,aB,cg,inObs,Pv.look,az]),ed (by simp[fresh,aG,aB,dR,inObs,Pv.look,az]),by simp⟩
   ·rw[if_pos h]at af
    cases af
    refine cH.at _ (.inl rfl) eO dX aO aO ?_
    simp[cI,Vk,aV,aW,aU]
end Go.Proofs.YtohaalphocaebaaGreat
namespace Go.Proofs.YtohaalphocaebaaGreat
open Go Go.Pv
theorem adh(c:bs)(v r:Int)(cq:bs)(he:rt c v=some (r,cq)):bF al 243 [.int .i64 v,.eptr az] (aN c) fun eF ai=>eF= .tuple []∧ai=aN cq:=by have ag:=cc c;simp only[aN,ay]at ag⊢;refine bF.mk mixed jh aaY ahB (by simp) ag.obj fun aQ cN=>?_;unfold Oh;simp[az];(refine cV.ob (q3 c v r cq he) (by first|exact cc _|exact cc ‹_› _) (by simp only[aN,ay,az,bP,bX];exact aO) (by simp only[aN,ay,az,bP,bX];exact aO) (by simp[inObs,Pv.look,aN,ay,az]) ?_;rintro r ai ⟨rfl,rfl⟩;refine⟨(Same.keys (by simp[aN,ay,az]) (by simp[aN,ay,az])),?_⟩;simp[cn,aN,ay,az]);(refine cH.at (aN cq) (by simp) (by first|exact cc _|exact cc ‹_› _) (Same.keys (by simp[aN,ay,az]) (by simp[aN,ay,az])) (by simp only[aN,ay,az,bP,bX];exact aO) (by simp only[aN,ay,az,bP,bX];exact aO) ?_;simp[cI,Vi,aV,aW,aU,inObs,Pv.look,aN,ay,az])
theorem IZ(c:bs)(t:T)(cq:bs)(he:zN t c=some cq):bF al 197 [az,t.e] (aN c) fun eF ai=>eF= .tuple []∧ai=aN cq:=by
 have ag:=cc c;have key:=IW aN cc DI 243 [.eptr az] (fun a=>by simp[aN,ay,az,inObs,Pv.look]) rfl (fun(v:Int) (c:bs)=>(rt c v).map Prod.snd) (fun v a bn h=>by rw[gN]at h;obtain⟨⟨r,bG⟩,J,rfl⟩:=h;exact adh a v r bG J) t c cq he
 simp only[aN,ay]at ag⊢;refine bF.mk mixed jh aaX ahA (by simp) ag.obj fun aQ cN=>?_;unfold Og;simp[az];(refine cV.ob (key) (by first|exact cc _|exact cc ‹_› _) (by simp only[aN,ay,az,bP,bX];exact aO) (by simp only[aN,ay,az,bP,bX];exact aO) (by simp[inObs,Pv.look,aN,ay,az]) ?_;rintro r ai ⟨rfl,rfl⟩;refine⟨(Same.keys (by simp[aN,ay,az]) (by simp[aN,ay,az])),?_⟩;simp[cn,aN,ay,az]);(refine cH.at (aN cq) (by simp) (by first|exact cc _|exact cc ‹_› _) (Same.keys (by simp[aN,ay,az]) (by simp[aN,ay,az])) (by simp only[aN,ay,az,bP,bX];exact aO) (by simp only[aN,ay,az,bP,bX];exact aO) ?_;simp[cI,Vh,aV,aW,aU,inObs,Pv.look,aN,ay,az])
def eA(K:Nat)(a:bs×List (Int×Bool)):cE:=⟨ay a.1++[(.obj K,pe a.2)],[]⟩
def fW(K:Nat)(a:tn):cE:=⟨ay a.c++[(.obj K,pe a.seen),(.obj 712,[.bool a.found])],[]⟩
def xV(K:Nat):Prop:=K=715∨K=716
theorem h3{K:Nat}(c7:xV K)(a):dT (eA K a):=by unfold eA ay;rcases c7 with rfl|rfl;all_goals exact dT.of ⟨by intro m;simp[Pv.look],by intro m;simp[Pv.look]⟩ (by simp) (by simp)
theorem pz{K:Nat}(c7:xV K)(a):dT (fW K a):=by unfold fW ay;rcases c7 with rfl|rfl;all_goals exact dT.of ⟨by intro m;simp[Pv.look],by intro m;simp[Pv.look]⟩ (by simp) (by simp)
theorem Hm{K:Nat}(a b):Same (fW K a) (fW K b):=by
 refine⟨fun k=>?_,fun k=>rfl⟩;simp only[fW,ay,bP,bX,Pv.look];repeat' split
 all_goals rfl
theorem ado{K:Nat}(c7:xV K)(n:Nat)(x:Int)(vt:∀t c seen a,pn n x t c seen=some a→bF al 244 [az,t.e,.int .i64 x,.gmap (.obj K)] (eA K (c,seen)) fun r ai=>r= .bool a.found∧ai=eA K (a.c,a.seen))
  (v:Int) (a bn:tn) (he:wc (pn n x) x v a=some bn):bF al 273 [.int .i64 v,.eptr az,.ptr (.obj 712) 0,.eptr (.int .i64 x),.eptr (.gmap (.obj K))] (fW K a) fun r ai=>r= .tuple []∧ai=fW K bn:=by
 have ag:=pz c7 a;simp only[wc,mB]at he;obtain⟨⟨r,bG⟩,J,U⟩:=he;simp only at U;have ab:=c7;rcases ab with rfl|rfl;all_goals
  simp only[fW,ay,bP,bX]at ag⊢
  refine bF.mk mixed jh aa0 ahD (by simp) ag.obj fun aQ cN=>?_;unfold Oj
  simp[az]
  (refine cV.ob (q3 a.c v r bG J) (by first|exact cc _|exact cc ‹_› _) (by simp only[aN,ay,az,bP,bX];exact aO) (by simp only[aN,ay,az,bP,bX];exact aO) (by simp[inObs,Pv.look,aN,ay,az]) ?_;rintro r ai ⟨rfl,rfl⟩;refine⟨(Same.keys (by simp[aN,ay,az]) (by simp[aN,ay,az])),?_⟩;simp[cn,aN,ay,az])
  obtain⟨ac,AD,HA⟩:=a
  cases HA with
  |true=>
   simp at U;subst U
   (with_reducible repeat' first|refine aj ?_|simp)
   (refine cH.at (fW _ ⟨bG,AD,true⟩) (by simp) (by first|exact pz _|exact pz ‹_› _) (Same.keys (by simp[fW,ay,az]) (by simp[fW,ay,az])) (by simp only[fW,ay,az,bP,bX];exact aO) (by simp only[fW,ay,az,bP,bX];exact aO) ?_;simp[cI,Af,aV,aW,aU,inObs,Pv.look,fW,ay,az])
  |false=>
   by_cases ad:r=x
   ·simp[ad]at U;subst U
    (with_reducible repeat' first|refine aj ?_|simp[ad])
    (refine cH.at (fW _ ⟨bG,AD,true⟩) (by simp) (by first|exact pz _|exact pz ‹_› _) (Same.keys (by simp[fW,ay,az]) (by simp[fW,ay,az])) (by simp only[fW,ay,az,bP,bX];exact aO) (by simp only[fW,ay,az,bP,bX];exact aO) ?_;simp[cI,Af,aV,aW,aU,inObs,Pv.look,fW,ay,az])
   ·have h7:(r==x)=false:=by simp[ad]
    simp only[ad,gT,or_self,if_false]at U
    cases zt:(cZ r AD).getD false with
    |true=>
     simp[zt]at U;subst U
     (with_reducible repeat' first|refine aj ?_|simp[h7,zt])
     (refine cH.at (fW _ ⟨bG,AD,false⟩) (by simp) (by first|exact pz _|exact pz ‹_› _) (Same.keys (by simp[fW,ay,az]) (by simp[fW,ay,az])) (by simp only[fW,ay,az,bP,bX];exact aO) (by simp only[fW,ay,az,bP,bX];exact aO) ?_;simp[cI,Af,aV,aW,aU,inObs,Pv.look,fW,ay,az])
    |false=>
     cases gB:bG.shd r with
     |false=>
      have JM:(cZ r bG.shaped).getD false=false:=gB
      simp[zt,gB]at U;subst U
      (with_reducible repeat' first|refine aj ?_|simp[h7,zt,JM])
      (refine cH.at (fW _ ⟨bG,AD,false⟩) (by simp) (by first|exact pz _|exact pz ‹_› _) (Same.keys (by simp[fW,ay,az]) (by simp[fW,ay,az])) (by simp only[fW,ay,az,bP,bX];exact aO) (by simp only[fW,ay,az,bP,bX];exact aO) ?_;simp[cI,Af,aV,aW,aU,inObs,Pv.look,fW,ay,az])
     |true=>
      have JM:(cZ r bG.shaped).getD false=true:=gB
      simp[zt,gB]at U
      have aK:=vt _ _ _ _ U
      (with_reducible repeat' first|refine aj ?_|simp[h7,zt,JM])
      (refine h1.ob (aK) (by first|exact h3 _|exact h3 ‹_› _) (by first|exact h3 _|exact h3 ‹_› _) (Same.keys (by simp[eA,ay,az]) (by simp[eA,ay,az])) (by simp only[eA,ay,az,bP,bX];exact aO) (by simp only[eA,ay,az,bP,bX];exact aO) (by simp[inObs,Pv.look,eA,ay,az]) ?_;simp[cn,eA,ay,az])
      (with_reducible repeat' first|refine aj ?_|simp)
      (refine cH.at (fW _ bn) (by simp) (by first|exact pz _|exact pz ‹_› _) (Same.keys (by simp[fW,ay,az]) (by simp[fW,ay,az])) (by simp only[fW,ay,az,bP,bX];exact aO) (by simp only[fW,ay,az,bP,bX];exact aO) ?_;simp[cI,Af,aV,aW,aU,inObs,Pv.look,fW,ay,az])
theorem Ez{K:Nat}(c7:xV K)(x:Int)(n:Nat):∀(t:T) (c:bs) (seen:List (Int×Bool)) (a:tn),pn n x t c seen=some a→bF al 244 [az,t.e,.int .i64 x,.gmap (.obj K)] (eA K (c,seen)) fun r ai=>r= .bool a.found∧ai=eA K (a.c,a.seen):=by
 induction n with
 |zero=>intro t c seen a h;simp[pn]at h
 |succ n bN=>
  intro t c seen a h;simp only[pn]at h;have ag:=h3 c7 (c,seen);have key:=IW (fW K) (pz c7) Hm 273 [.eptr az,.ptr (.obj 712) 0,.eptr (.int .i64 x),.eptr (.gmap (.obj K))] (fun a=>by rcases c7 with rfl|rfl<;>simp[fW,ay,az,inObs,Pv.look]) rfl (wc (pn n x) x) (fun v a bn h=>ado c7 n x bN v a bn h) t ⟨c,seen,false⟩ a h;have ab:=c7;rcases ab with rfl|rfl;all_goals
   simp only[eA,ay,bP,bX]at ag⊢
   refine bF.mk mixed jh aaZ ahC (by simp) ag.obj fun aQ cN=>?_;unfold Oi
   simp[az]
   refine cV.new key (pz c7 _) (by simp only[fW,ay,az,bP,bX];exact aO) (by simp only[fW,ay,az,bP,bX];exact aO) (by simp[inObs,Pv.look,fW,ay,az]) ?_
   rintro r ai ⟨rfl,rfl⟩
   refine⟨fun m hm=>.inl ⟨?_,Hm _ _⟩,?_⟩
   ·exact((Hm _ _).inObs _).2 hm
   simp[cn,fW,ay]
   (with_reducible repeat' first|refine aj ?_|simp)
   (refine cH.at (eA _ (a.c,a.seen)) (by simp) (by first|exact h3 _|exact h3 ‹_› _) (Same.keys (by simp[eA,ay,az]) (by simp[eA,ay,az])) (by simp only[eA,ay,az,bP,bX];exact aO) (by simp only[eA,ay,az,bP,bX];exact aO) ?_;simp[cI,Vj,aV,aW,aU,inObs,Pv.look,eA,ay,az])
@[simp] theorem Kv:pe []=jf []:=rfl
@[simp] theorem asV(t:T):s8 (some t)=t.e:=rfl
@[simp] theorem asU:s8 none= .agg [.int .i64 0,.int .i64 0,.str [],.slice 4 .nil []]:=rfl
theorem Rk(n:Nat)(x:Int)(t:T)(c:bs)(p:Bool×bs)(he:ui n x t c=some p):bF al 245 [az,.int .i64 x,t.e] (aN c) fun r ai=>r= .bool p.1∧ai=aN p.2:=by have ag:=cc c;simp only[ui,gN]at he;obtain⟨a,J,rfl⟩:=he;have c7:xV 715:= .inl rfl;have key:=Ez c7 x n t (c.know x t) [] a J;simp only[aN,ay]at ag⊢;refine bF.mk mixed jh aaW ahz (by simp) ag.obj fun aQ cN=>?_;unfold Oe;simp[az];(refine cV.ob (key) (by first|exact h3 _|exact h3 ‹_› _) (by simp only[eA,ay,az,bs.know,bP,bX];exact aO) (by simp only[eA,ay,az,bs.know,bP,bX];exact aO) (by simp[inObs,Pv.look,eA,ay,az,bs.know]) ?_;rintro r ai ⟨rfl,rfl⟩;refine⟨(Same.keys (by simp[eA,ay,az,bs.know]) (by simp[eA,ay,az,bs.know])),?_⟩;simp[cn,eA,ay,az,bs.know]);(refine cH.at (aN a.c) (by simp) (by first|exact cc _|exact cc ‹_› _) (Same.keys (by simp[aN,ay,az]) (by simp[aN,ay,az])) (by simp only[aN,ay,az,bP,bX];exact aO) (by simp only[aN,ay,az,bP,bX];exact aO) ?_;simp[cI,Vg,aV,aW,aU,inObs,Pv.look,aN,ay,az])
set_option maxRecDepth 4000 in
theorem Ri(n:Nat):∀(a b:T) (c:bs) (p:Bool×bs),gu n a b c=some p→bF al 198 [az,a.e,b.e] (aN c) fun r ai=>r= .bool p.1∧ai=aN p.2:=by
 induction n with
 |zero=>intro a b c p h;simp[gu]at h
 |succ n bN=>
  intro a b c p he;have ag:=cc c;have Cd:∀i j,a= .var i→b= .var j→bF al 198 [az,a.e,b.e] (aN c) fun r ai=>r= .bool p.1∧ai=aN p.2:=by
   rintro i j rfl rfl;simp only[gu,mB]at he;obtain⟨⟨x,bG⟩,J,⟨y,ch⟩,U,ao⟩:=he;simp only at U ao;simp only[aN,ay]at ag⊢;refine bF.mk mixed jh wY xX (by simp) ag.obj fun aQ cN=>?_;unfold u1;simp[az];(refine cV.ob (q3 c i x bG J) (by first|exact cc _|exact cc ‹_› _) (by simp only[aN,ay,az,bP,bX];exact aO) (by simp only[aN,ay,az,bP,bX];exact aO) (by simp[inObs,Pv.look,aN,ay,az]) ?_;rintro r ai ⟨rfl,rfl⟩;refine⟨(Same.keys (by simp[aN,ay,az]) (by simp[aN,ay,az])),?_⟩;simp[cn,aN,ay,az]);(with_reducible repeat' first|refine aj ?_|simp);(refine cV.ob (q3 bG j y ch U) (by first|exact cc _|exact cc ‹_› _) (by simp only[aN,ay,az,bP,bX];exact aO) (by simp only[aN,ay,az,bP,bX];exact aO) (by simp[inObs,Pv.look,aN,ay,az]) ?_;rintro r ai ⟨rfl,rfl⟩;refine⟨(Same.keys (by simp[aN,ay,az]) (by simp[aN,ay,az])),?_⟩;simp[cn,aN,ay,az]);by_cases hL:x=y
   ·rw[if_pos hL]at ao;cases ao;(with_reducible repeat' first|refine aj ?_|simp[hL]);(refine cH.at (aN ch) (by simp) (by first|exact cc _|exact cc ‹_› _) (Same.keys (by simp[aN,ay,az]) (by simp[aN,ay,az])) (by simp only[aN,ay,az,bP,bX];exact aO) (by simp only[aN,ay,az,bP,bX];exact aO) ?_;simp[cI,nG,aV,aW,aU,inObs,Pv.look,aN,ay,az])
   ·rw[if_neg hL]at ao;have zA:(x==y)=false:=by simp[hL]
    have RC:xV 715:= .inl rfl;have adV:xV 716:= .inr rfl;obtain⟨u,v,zx,a7⟩:∃u v,((u=y∧v=x∧y<x)∨(u=x∧v=y∧¬y<x))∧qY (gu n) n u v (ch.join u v)=some p:=by
     by_cases bA:y<x
     ·rw[if_pos bA]at ao;exact⟨y,x,.inl ⟨rfl,rfl,bA⟩,ao⟩
     ·rw[if_neg bA]at ao;exact⟨x,y,.inr ⟨rfl,rfl,bA⟩,ao⟩
    clear ao;obtain⟨d,aR⟩:∃d,d=ch.join u v:=⟨_,rfl⟩;have fo:d.up=eC v u ch.up:=by rw[aR];rfl
    have eH:d.shape=ch.shape:=by rw[aR];rfl
    have gw:d.shaped=ch.shaped:=by rw[aR];rfl
    have hx:d.color=ch.color:=by rw[aR];rfl
    have hy:d.size=ch.size:=by rw[aR];rfl
    have hz:d.full=ch.full:=by rw[aR];rfl
    rw[←aR]at a7;simp only[qY]at a7;cases aJ:d.shd v with
    |false=>
     have lR:(cZ v ch.shaped).getD false=false:=by rw[←gw];exact aJ
     rw[if_pos aJ]at a7;cases hu:d.shd u with
     |false=>
      have rq:(cZ u ch.shaped).getD false=false:=by rw[←gw];exact hu
      rw[if_pos hu]at a7;cases a7;rcases zx with⟨rfl,rfl,bA⟩|⟨rfl,rfl,bA⟩;all_goals
       (with_reducible repeat' first|refine aj ?_|simp[zA,bA,lR,rq])
       (refine cH.at (aN d) (by simp) (by first|exact cc _|exact cc ‹_› _) (Same.keys (by simp[aN,ay,az,fo,eH,gw,hx,hy,hz]) (by simp[aN,ay,az,fo,eH,gw,hx,hy,hz])) (by simp only[aN,ay,az,fo,eH,gw,hx,hy,hz,bP,bX];exact aO) (by simp only[aN,ay,az,fo,eH,gw,hx,hy,hz,bP,bX];exact aO) ?_;simp[cI,nG,aV,aW,aU,inObs,Pv.look,aN,ay,az,fo,eH,gw,hx,hy,hz])
     |true=>
      have rq:(cZ u ch.shaped).getD false=true:=by rw[←gw];exact hu
      rw[if_neg (by simp[hu]),gN]at a7;obtain⟨a,bZ,rfl⟩:=a7;have key:=Ez RC u n _ _ _ _ bZ;rw[show d.shp u=(cZ u ch.shape).getD .nil from by rw[←eH];rfl]at key;rcases zx with⟨rfl,rfl,bA⟩|⟨rfl,rfl,bA⟩;all_goals
       (with_reducible repeat' first|refine aj ?_|simp[zA,bA,lR,rq])
       (refine cV.ob (key) (by first|exact h3 _|exact h3 ‹_› _) (by simp only[eA,ay,az,fo,eH,gw,hx,hy,hz,bP,bX];exact aO) (by simp only[eA,ay,az,fo,eH,gw,hx,hy,hz,bP,bX];exact aO) (by simp[inObs,Pv.look,eA,ay,az,fo,eH,gw,hx,hy,hz]) ?_;rintro r ai ⟨rfl,rfl⟩;refine⟨(Same.keys (by simp[eA,ay,az,fo,eH,gw,hx,hy,hz]) (by simp[eA,ay,az,fo,eH,gw,hx,hy,hz])),?_⟩;simp[cn,eA,ay,az,fo,eH,gw,hx,hy,hz])
       (with_reducible repeat' first|refine aj ?_|simp)
       (refine cH.at (aN a.c) (by simp) (by first|exact cc _|exact cc ‹_› _) (Same.keys (by simp[aN,ay,az]) (by simp[aN,ay,az])) (by simp only[aN,ay,az,bP,bX];exact aO) (by simp only[aN,ay,az,bP,bX];exact aO) ?_;simp[cI,nG,aV,aW,aU,inObs,Pv.look,aN,ay,az])
    |true=>
     have lR:(cZ v ch.shaped).getD false=true:=by rw[←gw];exact aJ
     rw[if_neg (by simp[aJ])]at a7;rw[show d.shp v=(cZ v ch.shape).getD .nil from by rw[←eH];rfl]at a7;cases hu:d.shd u with
     |false=>
      have rq:(cZ u ch.shaped).getD false=false:=by rw[←gw];exact hu
      rw[if_pos hu]at a7;have key:=Rk n u _ d p a7;cases aL:cZ v ch.shape;all_goals
       rw[aL]at key
       simp only[k7,nl]at key
       rcases zx with⟨rfl,rfl,bA⟩|⟨rfl,rfl,bA⟩
       all_goals
        (with_reducible repeat' first|refine aj ?_|simp[zA,bA,lR,rq,aL])
        (refine cV.ob (key) (by first|exact cc _|exact cc ‹_› _) (by simp only[aN,ay,az,fo,eH,gw,hx,hy,hz,bP,bX];exact aO) (by simp only[aN,ay,az,fo,eH,gw,hx,hy,hz,bP,bX];exact aO) (by simp[inObs,Pv.look,aN,ay,az,fo,eH,gw,hx,hy,hz]) ?_;rintro r ai ⟨rfl,rfl⟩;refine⟨(Same.keys (by simp[aN,ay,az,fo,eH,gw,hx,hy,hz]) (by simp[aN,ay,az,fo,eH,gw,hx,hy,hz])),?_⟩;simp[cn,aN,ay,az,fo,eH,gw,hx,hy,hz])
        (with_reducible repeat' first|refine aj ?_|simp)
        (refine cH.at (aN p.2) (by simp) (by first|exact cc _|exact cc ‹_› _) (Same.keys (by simp[aN,ay,az]) (by simp[aN,ay,az])) (by simp only[aN,ay,az,bP,bX];exact aO) (by simp only[aN,ay,az,bP,bX];exact aO) ?_;simp[cI,nG,aV,aW,aU,inObs,Pv.look,aN,ay,az])
     |true=>
      have rq:(cZ u ch.shaped).getD false=true:=by rw[←gw];exact hu
      rw[if_neg (by simp[hu]),mB]at a7;obtain⟨a,bZ,c6⟩:=a7;have key:=Ez RC u n _ _ _ _ bZ;obtain⟨o,aL⟩:∃o,cZ v ch.shape=o:=⟨_,rfl⟩;rw[aL]at key c6;obtain⟨ac,AD,HA⟩:=a;cases HA with
      |true=>
       simp at c6;subst c6;cases o;all_goals
        simp only[k7,nl]at key
        rcases zx with⟨rfl,rfl,bA⟩|⟨rfl,rfl,bA⟩
        all_goals
         (with_reducible repeat' first|refine aj ?_|simp[zA,bA,lR,rq,aL])
         (refine h1.ob (key) (by first|exact h3 _|exact h3 ‹_› _) (by first|exact h3 _|exact h3 ‹_› _) (Same.keys (by simp[eA,ay,az,fo,eH,gw,hx,hy,hz]) (by simp[eA,ay,az,fo,eH,gw,hx,hy,hz])) (by simp only[eA,ay,az,fo,eH,gw,hx,hy,hz,bP,bX];exact aO) (by simp only[eA,ay,az,fo,eH,gw,hx,hy,hz,bP,bX];exact aO) (by simp[inObs,Pv.look,eA,ay,az,fo,eH,gw,hx,hy,hz]) ?_;simp[cn,eA,ay,az,fo,eH,gw,hx,hy,hz])
         (with_reducible repeat' first|refine aj ?_|simp)
         (refine cH.at (aN ac) (by simp) (by first|exact cc _|exact cc ‹_› _) (Same.keys (by simp[aN,ay,az]) (by simp[aN,ay,az])) (by simp only[aN,ay,az,bP,bX];exact aO) (by simp only[aN,ay,az,bP,bX];exact aO) ?_;simp[cI,nG,aV,aW,aU,inObs,Pv.look,aN,ay,az])
      |false=>
       simp only[gT,if_false,mB]at c6;obtain⟨b,eg,nv⟩:=c6;have vH:=Ez adV u n _ _ _ _ eg;rw[show ac.shp u=(cZ u ac.shape).getD .nil from rfl]at vH;obtain⟨HE,anS,Yy⟩:=b;cases Yy with
       |true=>
        simp at nv;subst nv;cases o;all_goals
         simp only[k7,nl]at key
         rcases zx with⟨rfl,rfl,bA⟩|⟨rfl,rfl,bA⟩
         all_goals
          (with_reducible repeat' first|refine aj ?_|simp[zA,bA,lR,rq,aL])
          (refine h1.ob (key) (by first|exact h3 _|exact h3 ‹_› _) (by first|exact h3 _|exact h3 ‹_› _) (Same.keys (by simp[eA,ay,az,fo,eH,gw,hx,hy,hz]) (by simp[eA,ay,az,fo,eH,gw,hx,hy,hz])) (by simp only[eA,ay,az,fo,eH,gw,hx,hy,hz,bP,bX];exact aO) (by simp only[eA,ay,az,fo,eH,gw,hx,hy,hz,bP,bX];exact aO) (by simp[inObs,Pv.look,eA,ay,az,fo,eH,gw,hx,hy,hz]) ?_;simp[cn,eA,ay,az,fo,eH,gw,hx,hy,hz])
          (with_reducible repeat' first|refine aj ?_|simp)
          (refine h1.ob (vH) (by first|exact h3 _|exact h3 ‹_› _) (by first|exact h3 _|exact h3 ‹_› _) (Same.keys (by simp[eA,ay,az]) (by simp[eA,ay,az])) (by simp only[eA,ay,az,bP,bX];exact aO) (by simp only[eA,ay,az,bP,bX];exact aO) (by simp[inObs,Pv.look,eA,ay,az]) ?_;simp[cn,eA,ay,az])
          (with_reducible repeat' first|refine aj ?_|simp)
          (refine cH.at (aN HE) (by simp) (by first|exact cc _|exact cc ‹_› _) (Same.keys (by simp[aN,ay,az]) (by simp[aN,ay,az])) (by simp only[aN,ay,az,bP,bX];exact aO) (by simp only[aN,ay,az,bP,bX];exact aO) ?_;simp[cI,nG,aV,aW,aU,inObs,Pv.look,aN,ay,az])
       |false=>
        simp only[gT,if_false]at nv;have Kf:=bN _ _ _ _ nv;rw[show HE.shp u=(cZ u HE.shape).getD .nil from rfl]at Kf;cases o;all_goals
         simp only[k7,nl]at key Kf
         rcases zx with⟨rfl,rfl,bA⟩|⟨rfl,rfl,bA⟩
         all_goals
          (with_reducible repeat' first|refine aj ?_|simp[zA,bA,lR,rq,aL])
          (refine h1.ob (key) (by first|exact h3 _|exact h3 ‹_› _) (by first|exact h3 _|exact h3 ‹_› _) (Same.keys (by simp[eA,ay,az,fo,eH,gw,hx,hy,hz]) (by simp[eA,ay,az,fo,eH,gw,hx,hy,hz])) (by simp only[eA,ay,az,fo,eH,gw,hx,hy,hz,bP,bX];exact aO) (by simp only[eA,ay,az,fo,eH,gw,hx,hy,hz,bP,bX];exact aO) (by simp[inObs,Pv.look,eA,ay,az,fo,eH,gw,hx,hy,hz]) ?_;simp[cn,eA,ay,az,fo,eH,gw,hx,hy,hz])
          (with_reducible repeat' first|refine aj ?_|simp)
          (refine h1.ob (vH) (by first|exact h3 _|exact h3 ‹_› _) (by first|exact h3 _|exact h3 ‹_› _) (Same.keys (by simp[eA,ay,az]) (by simp[eA,ay,az])) (by simp only[eA,ay,az,bP,bX];exact aO) (by simp only[eA,ay,az,bP,bX];exact aO) (by simp[inObs,Pv.look,eA,ay,az]) ?_;simp[cn,eA,ay,az])
          (with_reducible repeat' first|refine aj ?_|simp)
          (refine h1.ob (Kf) (by first|exact cc _|exact cc ‹_› _) (by first|exact cc _|exact cc ‹_› _) (Same.keys (by simp[aN,ay,az]) (by simp[aN,ay,az])) (by simp only[aN,ay,az,bP,bX];exact aO) (by simp only[aN,ay,az,bP,bX];exact aO) (by simp[inObs,Pv.look,aN,ay,az]) ?_;simp[cn,aN,ay,az])
          (with_reducible repeat' first|refine aj ?_|simp)
          (refine cH.at (aN p.2) (by simp) (by first|exact cc _|exact cc ‹_› _) (Same.keys (by simp[aN,ay,az]) (by simp[aN,ay,az])) (by simp only[aN,ay,az,bP,bX];exact aO) (by simp only[aN,ay,az,bP,bX];exact aO) ?_;simp[cI,nG,aV,aW,aU,inObs,Pv.look,aN,ay,az])
  have aJ:∀i,a= .var i→b.kind≠1→bF al 198 [az,a.e,b.e] (aN c) fun r ai=>r= .bool p.1∧ai=aN p.2:=by
   rintro i rfl ae;have vi:((rt c i).bind fun p=>if p.2.shd p.1=false then ui n p.1 b p.2 else gu n (p.2.shp p.1) b p.2)=some p:=by cases b<;>first|exact he|simp at ae
   simp only[mB]at vi;obtain⟨⟨x,bG⟩,J,U⟩:=vi;simp only at U;have fI:(b.kind==1)=false:=by simp[ae]
   simp only[aN,ay]at ag⊢;refine bF.mk mixed jh wY xX (by simp) ag.obj fun aQ cN=>?_;unfold u1;simp[az];(with_reducible repeat' first|refine aj ?_|simp[fI,ae]);(refine cV.ob (q3 c i x bG J) (by first|exact cc _|exact cc ‹_› _) (by simp only[aN,ay,az,bP,bX];exact aO) (by simp only[aN,ay,az,bP,bX];exact aO) (by simp[inObs,Pv.look,aN,ay,az]) ?_;rintro r ai ⟨rfl,rfl⟩;refine⟨(Same.keys (by simp[aN,ay,az]) (by simp[aN,ay,az])),?_⟩;simp[cn,aN,ay,az]);cases ad:bG.shd x with
   |false=>have h7:(cZ x bG.shaped).getD false=false:=ad;rw[if_pos ad]at U;(with_reducible repeat' first|refine aj ?_|simp[h7]);(refine cV.ob (Rk n x b bG p U) (by first|exact cc _|exact cc ‹_› _) (by simp only[aN,ay,az,bP,bX];exact aO) (by simp only[aN,ay,az,bP,bX];exact aO) (by simp[inObs,Pv.look,aN,ay,az]) ?_;rintro r ai ⟨rfl,rfl⟩;refine⟨(Same.keys (by simp[aN,ay,az]) (by simp[aN,ay,az])),?_⟩;simp[cn,aN,ay,az]);(refine cH.at (aN p.2) (by simp) (by first|exact cc _|exact cc ‹_› _) (Same.keys (by simp[aN,ay,az]) (by simp[aN,ay,az])) (by simp only[aN,ay,az,bP,bX];exact aO) (by simp only[aN,ay,az,bP,bX];exact aO) ?_;simp[cI,nG,aV,aW,aU,inObs,Pv.look,aN,ay,az])
   |true=>have h7:(cZ x bG.shaped).getD false=true:=ad;rw[if_neg (by simp[ad])]at U;have key:=bN _ _ _ _ U;(with_reducible repeat' first|refine aj ?_|simp[h7]);(refine h1.ob (key) (by first|exact cc _|exact cc ‹_› _) (by first|exact cc _|exact cc ‹_› _) (Same.keys (by simp[aN,ay,az]) (by simp[aN,ay,az])) (by simp only[aN,ay,az,bP,bX];exact aO) (by simp only[aN,ay,az,bP,bX];exact aO) (by simp[inObs,Pv.look,aN,ay,az]) ?_;simp[cn,aN,ay,az]);(with_reducible repeat' first|refine aj ?_|simp);(refine cH.at (aN p.2) (by simp) (by first|exact cc _|exact cc ‹_› _) (Same.keys (by simp[aN,ay,az]) (by simp[aN,ay,az])) (by simp only[aN,ay,az,bP,bX];exact aO) (by simp only[aN,ay,az,bP,bX];exact aO) ?_;simp[cI,nG,aV,aW,aU,inObs,Pv.look,aN,ay,az])
  cases a with
  |var i=>
   cases b with
   |var j=>exact Cd i j rfl rfl
   |_=>exact aJ i rfl (by simp)
  |pair bC a2=>
   cases b with
   |var j=>simp only[gu]at he;have key:=bN _ _ _ _ he;simp only[aN,ay]at ag⊢;refine bF.mk mixed jh wY xX (by simp) ag.obj fun aQ cN=>?_;unfold u1;simp[az];(refine cV.ob (key) (by first|exact cc _|exact cc ‹_› _) (by simp only[aN,ay,az,bP,bX];exact aO) (by simp only[aN,ay,az,bP,bX];exact aO) (by simp[inObs,Pv.look,aN,ay,az]) ?_;rintro r ai ⟨rfl,rfl⟩;refine⟨(Same.keys (by simp[aN,ay,az]) (by simp[aN,ay,az])),?_⟩;simp[cn,aN,ay,az]);(refine cH.at (aN p.2) (by simp) (by first|exact cc _|exact cc ‹_› _) (Same.keys (by simp[aN,ay,az]) (by simp[aN,ay,az])) (by simp only[aN,ay,az,bP,bX];exact aO) (by simp only[aN,ay,az,bP,bX];exact aO) ?_;simp[cI,nG,aV,aW,aU,inObs,Pv.look,aN,ay,az])
   |pair b8 b3=>
    simp only[gu,mB]at he;obtain⟨⟨f1,bG⟩,J,U⟩:=he;have key:=bN _ _ _ _ J;simp only[aN,ay]at ag⊢;refine bF.mk mixed jh wY xX (by simp) ag.obj fun aQ cN=>?_;unfold u1;simp[az];(with_reducible repeat' first|refine aj ?_|simp);(refine h1.ob (key) (by first|exact cc _|exact cc ‹_› _) (by first|exact cc _|exact cc ‹_› _) (Same.keys (by simp[aN,ay,az]) (by simp[aN,ay,az])) (by simp only[aN,ay,az,bP,bX];exact aO) (by simp only[aN,ay,az,bP,bX];exact aO) (by simp[inObs,Pv.look,aN,ay,az]) ?_;simp[cn,aN,ay,az]);cases f1 with
    |false=>simp at U;subst U;(with_reducible repeat' first|refine aj ?_|simp);(refine cH.at (aN bG) (by simp) (by first|exact cc _|exact cc ‹_› _) (Same.keys (by simp[aN,ay,az]) (by simp[aN,ay,az])) (by simp only[aN,ay,az,bP,bX];exact aO) (by simp only[aN,ay,az,bP,bX];exact aO) ?_;simp[cI,nG,aV,aW,aU,inObs,Pv.look,aN,ay,az])
    |true=>simp at U;have vH:=bN _ _ _ _ U;(with_reducible repeat' first|refine aj ?_|simp);(refine h1.ob (vH) (by first|exact cc _|exact cc ‹_› _) (by first|exact cc _|exact cc ‹_› _) (Same.keys (by simp[aN,ay,az]) (by simp[aN,ay,az])) (by simp only[aN,ay,az,bP,bX];exact aO) (by simp only[aN,ay,az,bP,bX];exact aO) (by simp[inObs,Pv.look,aN,ay,az]) ?_;simp[cn,aN,ay,az]);(with_reducible repeat' first|refine aj ?_|simp);(refine cH.at (aN p.2) (by simp) (by first|exact cc _|exact cc ‹_› _) (Same.keys (by simp[aN,ay,az]) (by simp[aN,ay,az])) (by simp only[aN,ay,az,bP,bX];exact aO) (by simp only[aN,ay,az,bP,bX];exact aO) ?_;simp[cI,nG,aV,aW,aU,inObs,Pv.look,aN,ay,az])
   |_=>simp[gu]at he;subst he;simp only[aN,ay]at ag⊢;refine bF.mk mixed jh wY xX (by simp) ag.obj fun aQ cN=>?_;unfold u1;simp[az];(refine cH.at (aN c) (by simp) (by first|exact cc _|exact cc ‹_› _) (Same.keys (by simp[aN,ay,az]) (by simp[aN,ay,az])) (by simp only[aN,ay,az,bP,bX];exact aO) (by simp only[aN,ay,az,bP,bX];exact aO) ?_;simp[cI,nG,aV,aW,aU,inObs,Pv.look,aN,ay,az])
  |_=>
   cases b with
   |var j=>simp only[gu]at he;have key:=bN _ _ _ _ he;simp only[aN,ay]at ag⊢;refine bF.mk mixed jh wY xX (by simp) ag.obj fun aQ cN=>?_;unfold u1;simp[az];(refine cV.ob (key) (by first|exact cc _|exact cc ‹_› _) (by simp only[aN,ay,az,bP,bX];exact aO) (by simp only[aN,ay,az,bP,bX];exact aO) (by simp[inObs,Pv.look,aN,ay,az]) ?_;rintro r ai ⟨rfl,rfl⟩;refine⟨(Same.keys (by simp[aN,ay,az]) (by simp[aN,ay,az])),?_⟩;simp[cn,aN,ay,az]);(refine cH.at (aN p.2) (by simp) (by first|exact cc _|exact cc ‹_› _) (Same.keys (by simp[aN,ay,az]) (by simp[aN,ay,az])) (by simp only[aN,ay,az,bP,bX];exact aO) (by simp only[aN,ay,az,bP,bX];exact aO) ?_;simp[cI,nG,aV,aW,aU,inObs,Pv.look,aN,ay,az])
   |_=>
    simp[gu]at he;subst he;simp only[aN,ay]at ag⊢;refine bF.mk mixed jh wY xX (by simp) ag.obj fun aQ cN=>?_;unfold u1;simp[az];((with_reducible repeat' first|refine aj ?_|simp|((first|apply bR|apply bU|apply bT)<;>intro h<;>try simp at h))<;>(try exact cv));all_goals(refine cH.at (aN c) (by simp) (by first|exact cc _|exact cc ‹_› _) (Same.keys (by simp[aN,ay,az]) (by simp[aN,ay,az])) (by simp only[aN,ay,az,bP,bX];exact aO) (by simp only[aN,ay,az,bP,bX];exact aO) ?_;simp[cI,nG,aV,aW,aU,inObs,Pv.look,aN,ay,az])
    all_goals simp_all
def l1(c:bs):Prop:= ∀x,0≤c.sz x∧c.sz x≤5001
theorem l1.rt{c:bs}(h:l1 c){v r:Int}{cq:bs}(he:rt c v=some (r,cq)):l1 cq:=by simp only[Pv.rt,gN,jj]at he;obtain⟨p,_,_,rfl⟩:=he;exact h
theorem l1.put{c:bs}(h:l1 c){x k:Int}(ab:0≤k∧k≤5001)(m:List (Int×Int)):l1 {c with size:=eC x k c.size,color:=m}:=fun z=>by
 show 0≤(cZ z (eC x k c.size)).getD 0∧(cZ z (eC x k c.size)).getD 0≤5001;rw[ng];split
 ·exact ab
 ·exact h z
theorem adF(c:bs)(v:Int)(p:Int×bs)(he:yg v c=some p):bF al 275 [.int .i64 v,.eptr az] (aN c) fun r ai=>r= .int .i64 p.1∧ai=aN p.2:=by have ag:=cc c;simp only[yg,gN]at he;obtain⟨⟨r,bG⟩,J,rfl⟩:=he;simp only[aN,ay]at ag⊢;refine bF.mk mixed jh aa4 ahH (by simp) ag.obj fun aQ cN=>?_;unfold Oo;simp[az];(refine h1.ob (q3 c v r bG J) (by first|exact cc _|exact cc ‹_› _) (by first|exact cc _|exact cc ‹_› _) (Same.keys (by simp[aN,ay,az]) (by simp[aN,ay,az])) (by simp only[aN,ay,az,bP,bX];exact aO) (by simp only[aN,ay,az,bP,bX];exact aO) (by simp[inObs,Pv.look,aN,ay,az]) ?_;simp[cn,aN,ay,az]);(with_reducible repeat' first|refine aj ?_|simp);(refine cH.at (aN bG) (by simp) (by first|exact cc _|exact cc ‹_› _) (Same.keys (by simp[aN,ay,az]) (by simp[aN,ay,az])) (by simp only[aN,ay,az,bP,bX];exact aO) (by simp only[aN,ay,az,bP,bX];exact aO) ?_;simp[cI,Vm,aV,aW,aU,inObs,Pv.look,aN,ay,az]);all_goals rfl
def gj(a:bs×Bool):cE:=⟨ay a.1++[(.obj 712,[.bool a.2])],[]⟩
theorem qb(a):dT (gj a):=by unfold gj ay;exact dT.of ⟨by intro m;simp[Pv.look],by intro m;simp[Pv.look]⟩ (by simp) (by simp)
theorem X3(a b):Same (gj a) (gj b):=Same.keys (by simp[gj,ay]) (by simp[gj,ay])
theorem adE(n:Nat)(vt:∀x c p,p2 n x c=some p→l1 c→l1 p.2∧bF al 246 [az,.int .i64 x] (aN c) fun r ai=>r= .bool p.1∧ai=aN p.2)
  (v:Int) (a bn:bs×Bool) (bE:l1 a.1) (he:yp (p2 n) v a=some bn):l1 bn.1∧bF al 274 [.int .i64 v,.ptr (.obj 712) 0,.eptr az] (gj a) fun r ai=>r= .tuple []∧ai=gj bn:=by
 have ag:=qb a;obtain⟨c,f⟩:=a;cases f with
 |false=>simp[yp]at he;subst he;refine⟨bE,?_⟩;simp only[gj,ay,bP,bX]at ag⊢;refine bF.mk mixed jh QI UA (by simp) ag.obj fun aQ cN=>?_;unfold HO;simp[az];(with_reducible repeat' first|refine aj ?_|simp);(refine cH.at (gj (c,false)) (by simp) (by first|exact qb _|exact qb ‹_› _) (Same.keys (by simp[gj,ay,az]) (by simp[gj,ay,az])) (by simp only[gj,ay,az,bP,bX];exact aO) (by simp only[gj,ay,az,bP,bX];exact aO) ?_;simp[cI,Gf,aV,aW,aU,inObs,Pv.look,gj,ay,az])
 |true=>
  simp only[yp,if_true,mB,gN]at he;obtain⟨⟨r,bG⟩,J,⟨f2,ch⟩,U,rfl⟩:=he;obtain⟨z2,key⟩:=vt _ _ _ U (bE.rt J);refine⟨z2,?_⟩;simp only[gj,ay,bP,bX]at ag⊢;refine bF.mk mixed jh QI UA (by simp) ag.obj fun aQ cN=>?_;unfold HO;simp[az];(with_reducible repeat' first|refine aj ?_|simp);(refine h1.ob (q3 c v r bG J) (by first|exact cc _|exact cc ‹_› _) (by first|exact cc _|exact cc ‹_› _) (Same.keys (by simp[aN,ay,az]) (by simp[aN,ay,az])) (by simp only[aN,ay,az,bP,bX];exact aO) (by simp only[aN,ay,az,bP,bX];exact aO) (by simp[inObs,Pv.look,aN,ay,az]) ?_;simp[cn,aN,ay,az]);(with_reducible repeat' first|refine aj ?_|simp);(refine h1.ob (key) (by first|exact cc _|exact cc ‹_› _) (by first|exact cc _|exact cc ‹_› _) (Same.keys (by simp[aN,ay,az]) (by simp[aN,ay,az])) (by simp only[aN,ay,az,bP,bX];exact aO) (by simp only[aN,ay,az,bP,bX];exact aO) (by simp[inObs,Pv.look,aN,ay,az]) ?_;simp[cn,aN,ay,az]);cases f2 with
  |true=>(with_reducible repeat' first|refine aj ?_|simp);(refine cH.at (gj (ch,true)) (by simp) (by first|exact qb _|exact qb ‹_› _) (Same.keys (by simp[gj,ay,az]) (by simp[gj,ay,az])) (by simp only[gj,ay,az,bP,bX];exact aO) (by simp only[gj,ay,az,bP,bX];exact aO) ?_;simp[cI,Gf,aV,aW,aU,inObs,Pv.look,gj,ay,az])
  |false=>(with_reducible repeat' first|refine aj ?_|simp);(refine cH.at (gj (ch,false)) (by simp) (by first|exact qb _|exact qb ‹_› _) (Same.keys (by simp[gj,ay,az]) (by simp[gj,ay,az])) (by simp only[gj,ay,az,bP,bX];exact aO) (by simp only[gj,ay,az,bP,bX];exact aO) ?_;simp[cI,Gf,aV,aW,aU,inObs,Pv.look,gj,ay,az])
theorem adD(n:Nat):∀(x:Int) (c:bs) (p:Bool×bs),p2 n x c=some p→l1 c→l1 p.2∧bF al 246 [az,.int .i64 x] (aN c) fun r ai=>r= .bool p.1∧ai=aN p.2:=by
 induction n with
 |zero=>intro x c p h;simp[p2]at h
 |succ n bN=>
  intro x c p he bE;have ag:=cc c;simp only[p2]at he;by_cases U:c.col x=2
  ·rw[if_pos U]at he;cases he;have Bx:hR c.color x=2:=U;refine⟨bE,?_⟩;simp only[aN,ay]at ag⊢;refine bF.mk mixed jh Bj CJ (by simp) ag.obj fun aQ cN=>?_;unfold yI;simp[az];(with_reducible repeat' first|refine aj ?_|simp[Bx]);(refine cH.at (aN c) (by simp) (by first|exact cc _|exact cc ‹_› _) (Same.keys (by simp[aN,ay,az]) (by simp[aN,ay,az])) (by simp only[aN,ay,az,bP,bX];exact aO) (by simp only[aN,ay,az,bP,bX];exact aO) ?_;simp[cI,Ag,aV,aW,aU,inObs,Pv.look,aN,ay,az])
  rw[if_neg U]at he;have Bx:(hR c.color x==2)=false:=by simp;exact U
  by_cases J:c.col x=1
  ·rw[if_pos J]at he;cases he;have nu:hR c.color x=1:=J;refine⟨bE,?_⟩;simp only[aN,ay]at ag⊢;refine bF.mk mixed jh Bj CJ (by simp) ag.obj fun aQ cN=>?_;unfold yI;simp[az];(with_reducible repeat' first|refine aj ?_|simp[nu]);(refine cH.at (aN c) (by simp) (by first|exact cc _|exact cc ‹_› _) (Same.keys (by simp[aN,ay,az]) (by simp[aN,ay,az])) (by simp only[aN,ay,az,bP,bX];exact aO) (by simp only[aN,ay,az,bP,bX];exact aO) ?_;simp[cI,Ag,aV,aW,aU,inObs,Pv.look,aN,ay,az])
  rw[if_neg J]at he;have nu:(hR c.color x==1)=false:=by simp;exact J
  have SN:l1 (c.grey x):=bE.put (by omega) _;cases lQ:(c.grey x).shd x with
  |false=>rw[if_pos lQ]at he;cases he;have sF:(cZ x c.shaped).getD false=false:=lQ;refine⟨SN,?_⟩;simp only[aN,ay]at ag⊢;refine bF.mk mixed jh Bj CJ (by simp) ag.obj fun aQ cN=>?_;unfold yI;simp[az];(with_reducible repeat' first|refine aj ?_|simp[Bx,nu,sF]);(refine cH.at (aN ((c.grey x).black x)) (by simp) (by first|exact cc _|exact cc ‹_› _) (Same.keys (by simp[aN,ay,az,bs.grey,bs.black]) (by simp[aN,ay,az,bs.grey,bs.black])) (by simp only[aN,ay,az,bs.grey,bs.black,bP,bX];exact aO) (by simp only[aN,ay,az,bs.grey,bs.black,bP,bX];exact aO) ?_;simp[cI,Ag,aV,aW,aU,inObs,Pv.look,aN,ay,az,bs.grey,bs.black])
  |true=>
   rw[if_neg (by simp[lQ]),mB]at he;have sF:(cZ x c.shaped).getD false=true:=lQ;obtain⟨⟨e,f⟩,ao,a7⟩:=he;simp only at a7;obtain⟨XG,key⟩:=Rh gj qb X3 274 [.ptr (.obj 712) 0,.eptr az] (fun a=>by simp[gj,ay,az,inObs,Pv.look]) rfl (fun a=>l1 a.1) (yp (p2 n)) (fun v a bn bE h=>adE n bN v a bn bE h) _ _ _ SN ao;rw[show(c.grey x).shp x=(cZ x c.shape).getD .nil from rfl]at key;cases f with
   |false=>simp at a7;subst a7;refine⟨XG,?_⟩;simp only[aN,ay]at ag⊢;refine bF.mk mixed jh Bj CJ (by simp) ag.obj fun aQ cN=>?_;unfold yI;simp[az];(with_reducible repeat' first|refine aj ?_|simp[Bx,nu,sF]);(refine cV.ob (key) (by first|exact qb _|exact qb ‹_› _) (by simp only[gj,ay,az,bs.grey,bP,bX];exact aO) (by simp only[gj,ay,az,bs.grey,bP,bX];exact aO) (by simp[inObs,Pv.look,gj,ay,az,bs.grey]) ?_;rintro r ai ⟨rfl,rfl⟩;refine⟨(Same.keys (by simp[gj,ay,az,bs.grey]) (by simp[gj,ay,az,bs.grey])),?_⟩;simp[cn,gj,ay,az,bs.grey]);(with_reducible repeat' first|refine aj ?_|simp);(refine cH.at (aN e) (by simp) (by first|exact cc _|exact cc ‹_› _) (Same.keys (by simp[aN,ay,az]) (by simp[aN,ay,az])) (by simp only[aN,ay,az,bP,bX];exact aO) (by simp only[aN,ay,az,bP,bX];exact aO) ?_;simp[cI,Ag,aV,aW,aU,inObs,Pv.look,aN,ay,az])
   |true=>
    rw[if_neg (by simp),gN]at a7;obtain⟨⟨k,aC⟩,bZ,rfl⟩:=a7;obtain⟨z2,b3,vH⟩:=adu aN cc DI 275 [.eptr az] (fun a=>by simp[aN,ay,az,inObs,Pv.look]) rfl l1 yg (fun v a p bE h=>by simp only[yg,gN]at h;obtain⟨⟨r,bG⟩,J,rfl⟩:=h;exact⟨bE.rt J,(bE.rt J r).1,Int.le_trans (bE.rt J r).2 (by omega)⟩) (fun v a p _ h=>adF a v p h) _ _ _ XG bZ
    rw[show bs.shp e x=(cZ x e.shape).getD .nil from rfl]at vH;refine⟨z2.put b3 _,?_⟩;simp only[aN,ay]at ag⊢;refine bF.mk mixed jh Bj CJ (by simp) ag.obj fun aQ cN=>?_;unfold yI;simp[az];(with_reducible repeat' first|refine aj ?_|simp[Bx,nu,sF]);(refine cV.ob (key) (by first|exact qb _|exact qb ‹_› _) (by simp only[gj,ay,az,bs.grey,bP,bX];exact aO) (by simp only[gj,ay,az,bs.grey,bP,bX];exact aO) (by simp[inObs,Pv.look,gj,ay,az,bs.grey]) ?_;rintro r ai ⟨rfl,rfl⟩;refine⟨(Same.keys (by simp[gj,ay,az,bs.grey]) (by simp[gj,ay,az,bs.grey])),?_⟩;simp[cn,gj,ay,az,bs.grey]);(with_reducible repeat' first|refine aj ?_|simp);(refine h1.ob (vH) (by first|exact cc _|exact cc ‹_› _) (by first|exact cc _|exact cc ‹_› _) (Same.keys (by simp[aN,ay,az]) (by simp[aN,ay,az])) (by simp only[aN,ay,az,bP,bX];exact aO) (by simp only[aN,ay,az,bP,bX];exact aO) (by simp[inObs,Pv.look,aN,ay,az]) ?_;simp[cn,aN,ay,az]);(with_reducible repeat' first|refine aj ?_|simp);(refine cH.at (aN (({aC with size:=eC x k aC.size}:bs).black x)) (by simp) (by first|exact cc _|exact cc ‹_› _) (Same.keys (by simp[aN,ay,az,bs.black]) (by simp[aN,ay,az,bs.black])) (by simp only[aN,ay,az,bs.black,bP,bX];exact aO) (by simp only[aN,ay,az,bs.black,bP,bX];exact aO) ?_;simp[cI,Ag,aV,aW,aU,inObs,Pv.look,aN,ay,az,bs.black])
theorem adC(n:Nat)(vt:∀x c p,p1 n x c=some p→bF al 247 [az,.int .i64 x] (aN c) fun r ai=>r=p.1.e∧ai=aN p.2)
  (v:Int) (c:bs) (p:T×bs) (he:AQ (p1 n) v c=some p):bF al 276 [.int .i64 v,.eptr az] (aN c) fun r ai=>r= .tuple [p.1.e,.bool true]∧ai=aN p.2:=by
 have ag:=cc c;simp only[AQ,mB]at he;obtain⟨⟨r,bG⟩,J,U⟩:=he;have key:=vt _ _ _ U;simp only[aN,ay]at ag⊢;refine bF.mk mixed jh aa3 ahG (by simp) ag.obj fun aQ cN=>?_;unfold On;simp[az];(with_reducible repeat' first|refine aj ?_|simp);(refine h1.ob (q3 c v r bG J) (by first|exact cc _|exact cc ‹_› _) (by first|exact cc _|exact cc ‹_› _) (Same.keys (by simp[aN,ay,az]) (by simp[aN,ay,az])) (by simp only[aN,ay,az,bP,bX];exact aO) (by simp only[aN,ay,az,bP,bX];exact aO) (by simp[inObs,Pv.look,aN,ay,az]) ?_;simp[cn,aN,ay,az]);(with_reducible repeat' first|refine aj ?_|simp);(refine h1.ob (key) (by first|exact cc _|exact cc ‹_› _) (by first|exact cc _|exact cc ‹_› _) (Same.keys (by simp[aN,ay,az]) (by simp[aN,ay,az])) (by simp only[aN,ay,az,bP,bX];exact aO) (by simp only[aN,ay,az,bP,bX];exact aO) (by simp[inObs,Pv.look,aN,ay,az]) ?_;simp[cn,aN,ay,az]);(with_reducible repeat' first|refine aj ?_|simp);(refine cH.at (aN p.2) (by simp) (by first|exact cc _|exact cc ‹_› _) (Same.keys (by simp[aN,ay,az]) (by simp[aN,ay,az])) (by simp only[aN,ay,az,bP,bX];exact aO) (by simp only[aN,ay,az,bP,bX];exact aO) ?_;simp[cI,Vl,aV,aW,aU,inObs,Pv.look,aN,ay,az])
theorem kr(n:Int):bK al 96 [.int .i64 n] (T.var n).e:=by refine bm jh abn ah0 fun aQ=>?_;unfold OK;exact b6
theorem adB(n:Nat):∀(x:Int) (c:bs) (p:T×bs),p1 n x c=some p→bF al 247 [az,.int .i64 x] (aN c) fun r ai=>r=p.1.e∧ai=aN p.2:=by
 induction n with
 |zero=>intro x c p h;simp[p1]at h
 |succ n bN=>
  intro x c p he;have ag:=cc c;simp only[p1]at he;cases aH:cZ x c.full with
  |some t=>rw[aH]at he;cases he;simp only[aN,ay]at ag⊢;refine bF.mk mixed jh Iy KY (by simp) ag.obj fun aQ cN=>?_;unfold DY;simp[az];(with_reducible repeat' first|refine aj ?_|simp[aH]);(refine cH.at (aN c) (by simp) (by first|exact cc _|exact cc ‹_› _) (Same.keys (by simp[aN,ay,az]) (by simp[aN,ay,az])) (by simp only[aN,ay,az,bP,bX];exact aO) (by simp only[aN,ay,az,bP,bX];exact aO) ?_;simp[cI,Ge,aV,aW,aU,inObs,Pv.look,aN,ay,az])
  |none=>
   rw[aH]at he;simp only at he;cases lQ:c.shd x with
   |false=>have sF:(cZ x c.shaped).getD false=false:=lQ;rw[if_pos lQ]at he;cases he;simp only[aN,ay]at ag⊢;refine bF.mk mixed jh Iy KY (by simp) ag.obj fun aQ cN=>?_;unfold DY;simp[az];(with_reducible repeat' first|refine aj ?_|refine aE (kr _) ?_|refine aF (kr _) ?_|simp[aH,sF]);(refine cH.at (aN {c with full:=eC x (.var x) c.full}) (by simp) (by first|exact cc _|exact cc ‹_› _) (Same.keys (by simp[aN,ay,az]) (by simp[aN,ay,az])) (by simp only[aN,ay,az,bP,bX];exact aO) (by simp only[aN,ay,az,bP,bX];exact aO) ?_;simp[cI,Ge,aV,aW,aU,inObs,Pv.look,aN,ay,az])
   |true=>have sF:(cZ x c.shaped).getD false=true:=lQ;rw[if_neg (by simp[lQ]),gN]at he;obtain⟨⟨t,bG⟩,J,rfl⟩:=he;have key:=adg aN cc DI 276 [.eptr az] (fun a=>by simp[aN,ay,az,inObs,Pv.look]) rfl (AQ (p1 n)) (fun v a p h=>adC n bN v a p h) _ _ _ J;rw[show c.shp x=(cZ x c.shape).getD .nil from rfl]at key;simp only[aN,ay]at ag⊢;refine bF.mk mixed jh Iy KY (by simp) ag.obj fun aQ cN=>?_;unfold DY;simp[az];(with_reducible repeat' first|refine aj ?_|refine aE (kr _) ?_|refine aF (kr _) ?_|simp[aH,sF]);(refine cV.ob (key) (by first|exact cc _|exact cc ‹_› _) (by simp only[aN,ay,az,bP,bX];exact aO) (by simp only[aN,ay,az,bP,bX];exact aO) (by simp[inObs,Pv.look,aN,ay,az]) ?_;rintro r ai ⟨rfl,rfl⟩;refine⟨(Same.keys (by simp[aN,ay,az]) (by simp[aN,ay,az])),?_⟩;simp[cn,aN,ay,az]);(with_reducible repeat' first|refine aj ?_|simp);(refine cH.at (aN {bG with full:=eC x t bG.full}) (by simp) (by first|exact cc _|exact cc ‹_› _) (Same.keys (by simp[aN,ay,az]) (by simp[aN,ay,az])) (by simp only[aN,ay,az,bP,bX];exact aO) (by simp only[aN,ay,az,bP,bX];exact aO) ?_;simp[cI,Ge,aV,aW,aU,inObs,Pv.look,aN,ay,az])
theorem adi:bF al 195 [] ⟨[],[]⟩ fun r ai=>r=az∧ai=aN bs.new:=by have ag:dT ⟨[],[]⟩:=dT.of xU (by simp) (by simp);refine bF.mk mixed jh abb ahO (by simp) ag.obj fun aQ cN=>?_;unfold Oy;simp;refine cH.new (aN bs.new) (.inl rfl) (cc _) ⟨trivial,trivial⟩ (by simp only[aN,ay,bs.new];exact aO) (by simp only[aN,ay,bs.new];exact aO) ?_;simp[cI,Vs,aV,aW,aU,inObs,Pv.look,aN,ay,az]
theorem Wo{a b:List Int}(h:a.Perm b):qG a=qG b:=by
 have aL:∀a b c:Int,(decide (a≤b))=true→(decide (b≤c))=true→(decide (a≤c))=true:=by intro a b c;simp;omega
 have zw:∀a b:Int,(decide (a≤b)||decide (b≤a))=true:=by intro a b;simp;omega
 have J:=List.pairwise_mergeSort aL zw a;have U:=List.pairwise_mergeSort aL zw b;refine M7 (le:=fun x y:Int=>(decide (x≤y))=true) (fun x y _ _ J U=>by simp at J U;omega) J U ?_;exact(List.mergeSort_perm a _).trans (h.trans (List.mergeSort_perm b _).symm)
def afN(l:List Int)(k:Nat)(st:bp):Prop:=∃(seen:List Nat) (xs:List Int),seen.Nodup∧(∀b∈seen,b<l.length)∧k=l.length-seen.length∧xs=seen.filterMap (fun b=>l[b]?)∧xs.length=seen.length∧st=⟨[(3,.row 1 (.obj 306) xs.length),(7,.ptr (.loc 0) 0)],[(.obj 304,nZ l),(.loc 0,cg l.length seen (.obj 304))],[(.obj 306,⟨xs.length,3,1,some (du xs)⟩)],1,[.obj 306,.obj 304]⟩
@[simp] theorem apo(xs:List Int):(du xs).length=xs.length:=by simp[du]
@[simp] theorem asL(xs:List Int):cY (du xs)=du xs:=by
 induction xs with
 |nil=>rfl
 |cons x r bN=>simp only[du,gM,cY,dm]at bN⊢;rw[bN]
@[simp] theorem apq:du []=[]:=rfl
theorem J6(xs:List Int)(x:Int):du xs++[ah.int .i64 x]=du (xs++[x]):=by simp[du]
theorem adA(l:List Int)(ar:l.length≤1000000):bF al 189 [.gmap (.obj 304)] (tp l) fun r ai=>r= .slice 1 .no (du (qG l))∧ai=tp l:=by
 have ag:=Ng l;unfold tp at ag⊢;refine bF.mk mixed fO abm ahZ (by simp) ag.obj fun aQ cN=>?_;unfold OJ;simp;refine tF (afN l) l.length _ ⟨by simp[fresh,aG,aB,cg,inObs,Pv.look,mm,sL],ec (by simp[fresh,aG,aB,cg,inObs,Pv.look,mm,sL]),ed (by simp[fresh,aG,aB,dR,inObs,Pv.look,mm,sL]),by simp⟩ ⟨[],[],by simp,by simp,by simp,by simp,by simp,rfl⟩ ?_;rintro k st ⟨seen,xs,aR,bA,ab,gY,ju,rfl⟩ qn cN;clear qn cN;have hle:=GI aR bA;simp;refine ZM (mk:= .obj 304) (seen:=seen) (l:=l) (by simp) (by simp) rfl (fun lg=>?_) (fun b x ad ae=>?_)
 ·simp;have vs:=L9 aR bA lg;rw[←gY]at vs;refine cV.ob (ady 306 xs (by omega)) (Hn 306 xs) (by unfold mD;exact aO) (by unfold mD;exact aO) (by simp[mD,inObs,Pv.look]) ?_;rintro r ai ⟨rfl,rfl⟩;refine⟨⟨fun _=>rfl,fun k=>by simp only[mD,Pv.look];split<;>rfl⟩,?_⟩;unfold mD;simp[cn,Wn];refine cH.at _ (.inl rfl) ag (Same.refl _) aO aO ?_;simp[cI,Vx,aV,aW,aU];rw[Wo vs];simp[aB,sL]
 ·have zn:∀f:aD→aY (List ah),f (.loc 0)=some (cg l.length (seen++[b]) (.obj 304))→f (.obj 304)=some (nZ l)→pf f (.ptr (.loc 0) 0)=some (True,.tuple [.int .i64 x,.bool true]):=fun f J U=>agF f (.loc 0) (.obj 304) l.length seen b l x J U rfl ad;have fA:b<l.length:=(fw.1 ad).1;have pK:=Ma aR bA fA ae;simp[zn,J6];refine⟨by unfold lim;omega,?_⟩;refine bO.next (l.length-(seen.length+1)) (by omega) ⟨seen++[b],xs++[x],KU aR ae,(by simp;intro c aw;rcases aw with aw|rfl;exact bA c aw;exact fA),by simp,by rw[List.filterMap_append,←gY];simp[ad],by simp[ju],rfl⟩ ⟨by simp[fresh,aG,aB,cg,inObs,Pv.look,mm,sL],ec (by simp[fresh,aG,aB,cg,inObs,Pv.look,mm,sL]),ed (by simp[fresh,aG,aB,dR,inObs,Pv.look,mm,sL]),by simp⟩
@[simp] theorem apF(S:aD→Prop)(xs:List Int):aG S (du xs)=True:=eq_true (sL S xs)
@[simp] theorem aob:cells .junk=[.junk]:=rfl
def OI:C:=(aa [ez 6 5,bf 7 false] (aa [dI 12 195 [],I 8 12] (.seq (aa [I 13 0,cb 14 13,bQ 15 0] (e4 16 15 14 (.seq (.block 1 (aa [cp 17 5 13 15,be 18 5 17,dH 10 jZ,bW 5 10 18] (aa [I 19 8,aI 20 0 1 10,ax 21 1 20,cd 22 196 19 21] (aa [I 23 8,fY 24 1 4 10,be 25 4 24,cd 26 197 23 25] (.seq (.drawn false 69 [I 27 8,aI 28 0 1 10,ax 29 1 28,cQ 30 96 29,fY 31 1 4 10,be 32 4 31,dI 33 198 [.t 27,.t 30,.t 32],cx 34 33]) (aT 34 (aa [ez 6 5,bf 7 false] .ret) .skip)))))) (.region [aS 35 .add 15 1,I 15 35])))) (.seq (aa [I 36 1,cb 37 36,bQ 38 0] (.block 2 (.loop (aa [bk 39 .lss 38 37] (.seq (aT 39 .skip (.exit 2)) (.seq (.block 3 (aa [I 40 38,I 11 40] (aa [I 41 8,I 42 1,I 43 11,cp 44 4 42 43,be 45 4 44,cd 46 197 41 45] (aa [I 47 8,I 48 2,I 49 11,cp 50 4 48 49,be 51 4 50,cd 52 197 47 51] (.seq (.drawn false 69 [I 53 8,I 54 1,I 55 11,cp 56 4 54 55,be 57 4 56,I 58 2,I 59 11,cp 60 4 58 59,be 61 4 60,dI 62 198 [.t 53,.t 57,.t 61],cx 63 62]) (aT 63 (aa [ez 6 5,bf 7 false] .ret) .skip)))))) (.region [aS 64 .add 38 1,I 38 64]))))))) (aa [I 65 8,cQ 66 199 65,c2 67 0 66,c2 68 1 66,I 6 67,I 7 68] .ret)))))
@[simp] def Lv:List bt:=[.tmp 6,.tmp 7]
def Om:C:=(aa [ez 2 5,bf 3 false] (aa [cK (.mkmap 12 (some 304)),I 4 12] (.seq (aa [I 13 0,fv 14 13,aI 15 0 1 14,ax 16 1 15,cK (.range 17 none (.t 16))] (.block 0 (.loop (aa [⟨none,.next 18 (.t 17)⟩,c2 19 0 18] (.seq (aT 19 .skip (.exit 0)) (.block 1 (aa [b1 20 (.ment (.t 17)),c2 21 0 20,I 5 21] (.region [I 22 4,I 23 5,cK (.mput .i (.t 22) (.t 23) (.c (.bool true)))])))))))) (aa [I 24 4,cQ 25 189 24,I 6 25] (aa [cK (.bslm 26 none 5 61 []),I 7 26] (.seq (aa [I 27 6,cb 28 27,bQ 29 0] (.block 2 (.loop (aa [bk 30 .lss 29 28] (.seq (aT 30 .skip (.exit 2)) (.seq (.block 3 (aa [cp 31 1 27 29,ax 32 1 31,I 9 32] (aa [I 33 0,I 34 9,cd 35 196 33 34,I 10 35] (.seq (aa [I 36 0,I 37 10,cd 38 246 36 37,cx 39 38] (aT 39 (aa [ez 2 5,bf 3 false] .ret) .skip)) (.seq (aa [I 40 10,I 41 9,bk 42 .eql 40 41,I 43 42,b4 43 true 44 0,aq 43 true (fv 45 44),aq 43 true (aI 46 2 1 45),aq 43 true (ax 47 1 46),b4 43 true 48 10,aq 43 true (b1 49 (.mget .i (.bool false) false (.t 47) (.t 48))),aq 43 true (cx 50 49),dK 51 43 50] (aT 51 (.exit 3) .skip)) (aa [I 52 7,I 53 9,k3 54 jZ [(0,1,(.t 53))],fk 55 5 61 [.t 54],cK (.appm 56 none 5 61 (.t 52) (.t 55)),I 7 56] (aa [I 57 0,fv 58 57,aI 59 4 1 58,ax 60 1 59,I 61 10,b1 62 (.mget .i (.int .i64 0) false (.t 60) (.t 61)),aS 63 .gtr 62 5000,I 64 63,b4 64 false 65 7,aq 64 false (cb 66 65),aq 64 false (aS 67 .gtr 66 400),dc 68 64 67] (aT 68 (aa [ez 2 5,bf 3 false] .ret) .skip)))))))) (.region [aS 69 .add 29 1,I 29 69]))))))) (.seq (aa [I 70 7,cb 71 70,bQ 72 0] (.block 4 (.loop (aa [bk 73 .lss 72 71] (.seq (aT 73 .skip (.exit 4)) (.seq (.block 5 (aa [I 74 72,I 11 74] (.region [I 75 7,I 76 11,I 77 0,I 78 0,I 79 7,I 80 11,cp 81 5 79 80,aI 82 0 1 81,ax 83 1 82,cd 84 196 78 83,cd 85 247 77 84,cQ 86 200 85,cp 87 5 75 76,fY 88 1 4 87,bW 4 88 86]))) (.region [aS 89 .add 72 1,I 72 89]))))))) (.seq (.pub 7 (.region [I 90 7,I 2 90,bf 3 true])) .ret))))))))
@[simp] def Gd:List bt:=[.tmp 2,.tmp 3]
def MD:List (Nat×dA):=[
 (3,⟨1,8,.int .i64,.int .i64 0⟩),
 (4,⟨1,1,.bool,.bool false⟩),
 (23,⟨1,24,.slice 61,.slice 5 .nil []⟩),
 (30,⟨1,24,.slice 32,.slice 4 .nil []⟩),
 (32,⟨4,56,.struct [(0,3),(1,3),(2,9),(3,30)],.agg [.int .i64 0,.int .i64 0,.str [],.slice 4 .nil []]⟩),
 (61,⟨5,64,.struct [(0,3),(1,32)],.agg [.int .i64 0,.int .i64 0,.int .i64 0,.str [],.slice 4 .nil []]⟩),
 (112,⟨1,24,.slice 3,.slice 1 .nil []⟩),
 (154,⟨1,8,.map 3 4,.junk⟩),
 (182,⟨1,8,.map 3 3,.junk⟩),
 (245,⟨6,48,.struct [(0,182),(1,127),(2,154),(3,182),(4,182),(5,127)],.agg [.junk,.junk,.junk,.junk,.junk,.junk]⟩)]
theorem WR:fN al MD=true:=by kernel_rfl
theorem ahY:bY MD OI Lv 3 Tryz.f118=true:=by kernel_rfl
theorem abl:al.funcs[(118:Nat)]? =some Tryz.f118:=Tryz.func118
theorem ahF:bY MD Om Gd 1 Tryz.f199=true:=by kernel_rfl
theorem aa2:al.funcs[(199:Nat)]? =some Tryz.f199:=Tryz.func199
def gh(o:aY (List au)):ah:= .tuple [.slice 5 .no ((o.getD []).map au.e),.bool o.isSome]
theorem agH(f:aD→aY (List ah))(fi mk:aD)(n:Nat)(seen:List Nat)(b:Nat)(l:List (Int×Int))(x:Int×Int)(hi:f fi=some (cg n (seen++[b]) mk))(hm:f mk=some (kZ l))(aA:n=l.length)(ad:l[b]? =some x):pf f (.ptr fi 0)=some (True,.tuple [.int .i64 x.1,.int .i64 x.2]):=by rw[Uc f fi mk n seen b _ hi hm (by simpa using aA)];simp[ad]
theorem ZN{st:bp}{d:Nat}{K:bp→Prop}{fi mk:aD}{n:Nat}{seen:List Nat}{l:List (Int×Int)}(hi:Pv.look fi st.b=some (cg n seen mk))(hm:Pv.look mk st.b=some (kZ l))(aA:n=l.length)
  (J:(∀b,b<l.length→b∈seen)→K {st with t:=Pv.put d (.tuple [.bool false]) st.t}) (U:∀b x,l[b]? =some x→b∉seen→K {st with t:=Pv.put d (.tuple [.bool true,.int .i64 x.1,.int .i64 x.2]) st.t,b:=cw fi (cg n (seen++[b]) mk) st.b}):
  sk st d (.ptr fi 0) K:=by
 refine QA hi hm (by simpa using aA) (fun h=>J fun b ae=>h b (by omega)) (fun b k v ae ag=>?_);simp only[List.getElem?_map,gN]at ae;obtain⟨x,ak,aC⟩:=ae;simp only[jj]at aC;obtain⟨rfl,rfl⟩:=aC;exact U b x ak ag
@[simp] theorem arS(m:aD)(l:List (Int×Int)):wb m (kZ l)=some (cg l.length [] m):=by simp[kZ,rD]
def np(v:Int):ah:= .agg [.int .i64 v,.int .i64 0,.int .i64 0,.str [],.slice 4 .nil []]
@[simp] theorem af7(S:aD→Prop)(l:List Int):aG S (l.map np)=True:=by
 apply eq_true;induction l with
 |nil=>simp[aG]
 |cons x r bN=>simp only[gM,aG];exact⟨by simp[np,aB,aG],bN⟩
@[simp] theorem apT(S:aD→Prop)(v:Int):aB S (np v)=True:=by simp[np,aB,aG]
@[simp] theorem ar2(v:Int):dY (np v)=true:=rfl
@[simp] theorem anV(v:Int):cells (np v)=[.int .i64 v,.int .i64 0,.int .i64 0,.str [],.slice 4 .nil []]:=rfl
theorem akH(v:Int)(f:Nat)(cs:List ah):mu (np v) f cs= .agg (nH [.int .i64 v,.int .i64 0,.int .i64 0,.str [],.slice 4 .nil []] f cs):=rfl
theorem jG{S:aD→Prop}:∀{a b:List ah},aG S (a++b)↔(aG S a∧aG S b)
 |[],b=>by simp[aG]
 |x::a,b=>by simp[aG,jG (a:=a),and_assoc]
@[simp] theorem apE(S:aD→Prop)(k:Nat)(l:List Int):aG S (my k (l.map np))=True:=by rw[←List.map_drop];exact af7 S _
@[simp] theorem ap9(S:aD→Prop)(o:aY (List au)):aB S (gh o)=True:=by simp[gh]
theorem HD(l:List Int)(v:Int):l.map np++[.agg [.int .i64 v,.int .i64 0,.int .i64 0,.str [],.slice 4 .nil []]]=(l++[v]).map np:=by simp[np]
def afJ(c:bs)(k:Nat)(st:bp):Prop:=∃(seen:List Nat) (xs:List Int),seen.Nodup∧(∀b∈seen,b<c.up.length)∧k=c.up.length-seen.length∧xs=seen.filterMap (fun b=>(c.up[b]?).map (·.1))∧xs.length=seen.length∧st=⟨[(0,az),(4,.gmap (.obj 304)),(17,.ptr (.loc 0) 0)],ay c++[(.obj 304,nZ xs),(.loc 0,cg c.up.length seen (.obj 702))],[],1,[.obj 304,.obj 702,.obj 703,.obj 704,.obj 705,.obj 706,.obj 707]⟩
theorem akS{c:bs}{seen:List Nat}(aR:seen.Nodup)(bA:∀b∈seen,b<c.up.length)(lg:∀b,b<c.up.length→b∈seen):(seen.filterMap fun b=>(c.up[b]?).map (·.1)).Perm (ct c.up):=by have:=L9 (l:=ct c.up) aR (by simpa[ct]using bA) (by simpa[ct]using lg);simpa[ct]using this
theorem akT{c:bs}(aA:(ct c.up).Nodup){seen:List Nat}{b:Nat}(ae:b∉seen){x:Int×Int}(ad:c.up[b]? =some x):x.1∉seen.filterMap fun b=>(c.up[b]?).map (·.1):=by
 intro hm;rw[List.mem_filterMap]at hm;obtain⟨b2,J,U⟩:=hm;obtain⟨y,ao,a7⟩:=gN.1 U;have ak:(ct c.up)[b]? =some x.1:=by simp[ct,ad]
 have aC:(ct c.up)[b2]? =some x.1:=by simp[ct,ao,a7]
 have bA:=(fw.1 ak).1;have vp:=(fw.1 aC).1;have f1:=(fw.1 ak).2;have f2:=(fw.1 aC).2;rcases Nat.lt_trichotomy b b2 with h|h|h
 ·exact pt.1 aA b b2 bA vp h (f1.trans f2.symm)
 ·subst h;exact ae J
 ·exact pt.1 aA b2 b vp bA h (f2.trans f1.symm)
set_option maxRecDepth 4000 in
theorem adw(n:Nat)(c:bs)(o:aY (List au))(he:Df n (qH (ct c.up)) c=some o)(vr:(ct c.up).Nodup)(hlen:c.up.length≤1000000)(bE:l1 c):bF al 199 [az] (aN c) fun r ai=>r=gh o∧∃cq,ai=aN cq:=by
 have ag:=cc c;simp only[aN,ay]at ag⊢;refine bF.mk mixed WR aa2 ahF (by simp) ag.obj fun aQ cN=>?_;unfold Om;simp[az];have BQ:∀S:aD→Prop,aG S (jf []):=fun S=>mm S [];refine tF (afJ c) c.up.length _ ⟨by simp[fresh,aG,aB,cg,inObs,Pv.look,mm,az,ay,BQ],ec (by simp[fresh,aG,aB,cg,inObs,Pv.look,mm,az,ay,BQ]),ed (by simp[fresh,aG,aB,dR,inObs,Pv.look,mm,az,ay,BQ]),by simp⟩ ⟨[],[],by simp,by simp,by simp,by simp,by simp,rfl⟩ ?_;rintro k st ⟨seen,xs,aR,bA,ab,gY,ju,rfl⟩ qn cN;clear qn cN;have hle:=GI aR bA;simp[ay,az];refine ZN (mk:= .obj 702) (seen:=seen) (l:=c.up) (by simp) (by simp) rfl (fun lg=>?_) (fun b x ad ae=>?_);rotate_left
 ·have zn:∀f:aD→aY (List ah),f (.loc 0)=some (cg c.up.length (seen++[b]) (.obj 702))→f (.obj 702)=some (kZ c.up)→pf f (.ptr (.loc 0) 0)=some (True,.tuple [.int .i64 x.1,.int .i64 x.2]):=fun f J U=>agH f (.loc 0) (.obj 702) c.up.length seen b c.up x J U rfl ad;have fA:b<c.up.length:=(fw.1 ad).1;have pK:=Ma aR bA fA ae;have kg:=akT vr ae ad;rw[←gY]at kg;simp[zn,oQ,kg];refine bO.next (c.up.length-(seen.length+1)) (by omega) ⟨seen++[b],xs++[x.1],KU aR ae,(by simp;intro c aw;rcases aw with aw|rfl;exact bA c aw;exact fA),by simp,by rw[List.filterMap_append,←gY];simp[ad],by simp[ju],rfl⟩ ⟨by simp[fresh,aG,aB,cg,inObs,Pv.look,mm,az,ay],ec (by simp[fresh,aG,aB,cg,inObs,Pv.look,mm,az,ay]),ed (by simp[fresh,aG,aB,dR,inObs,Pv.look,mm,az,ay]),by simp⟩
 ·simp;have vs:=akS aR bA lg;rw[←gY]at vs;have afu:xs.length≤1000000:=by omega
  refine cV.ob (adA xs afu) (Ng _) (by simp only[tp];exact aO) (by simp only[tp];exact aO) (by simp[inObs,tp,Pv.look]) ?_;rintro r ai ⟨rfl,rfl⟩;refine⟨Same.refl _,?_⟩;have zu:qG xs=qH (ct c.up):=Wo vs;rw[zu];obtain⟨bc,kE⟩:∃bc,bc=qH (ct c.up):=⟨_,rfl⟩;rw[←kE]at he⊢;simp[tp,cn];simp only[Df,mB]at he;obtain⟨res,zf,oa⟩:=he;have pM:bc.length≤1000000:=by rw[kE,(Di _).length_eq];simpa[ct]using hlen
  refine gP (α:=bs×List Int) (fun i a=>⟨[(0,az),(27,.slice 1 .no (du bc)),(28,.int .i64 bc.length),(7,.row 5 (.loc 1) a.2.length),(29,.int .i64 i)],ay a.1,[(.loc 1,⟨a.2.length,61,5,some (a.2.map np)⟩)],2,[.obj 702,.obj 703,.obj 704,.obj 705,.obj 706,.obj 707]⟩) bc.length (fun i a=>rP n (bc.drop i) a.1 a.2=some res∧l1 a.1∧a.2.length≤400) (c,[]) (by simp[az,ay];exact⟨by simp[fresh,aG,aB,cg,inObs,Pv.look,mm,az,ay],ec (by simp[fresh,aG,aB,cg,inObs,Pv.look,mm,az,ay]),ed (by simp[fresh,aG,aB,dR,inObs,Pv.look,mm,az,ay]),by simp⟩) ⟨by simpa using zf,bE,by simp⟩ ?_ ?_
  ·rintro⟨bG,out⟩ ⟨J,U,ao⟩ ae;simp only at J U ao ae⊢;simp[rP]at J;subst J;simp only[gN]at oa;obtain⟨⟨L,YR⟩,aef,rfl⟩:=oa;simp[az,ay];refine gP (α:=bs×List au) (fun j a=>⟨[(0,az),(7,.row 5 (.loc 1) out.length),(71,.int .i64 out.length),(72,.int .i64 j)],ay a.1,[(.loc 1,⟨out.length,61,5,some (a.2.map au.e++(out.drop j).map np)⟩)],2,[.obj 702,.obj 703,.obj 704,.obj 705,.obj 706,.obj 707]⟩) out.length (fun j a=>a.2.length=j∧∃rest,yh n (out.drop j) a.1=some (rest,YR)∧a.2++rest=L) (bG,[]) (by simp[az,ay];exact⟨by simp[fresh,aG,aB,cg,inObs,Pv.look,az,ay],ec (by simp[fresh,aG,aB,cg,inObs,Pv.look,az,ay]),ed (by simp[fresh,aG,aB,dR,inObs,Pv.look,az,ay]),by simp⟩) ⟨rfl,L,by simpa using aef,rfl⟩ ?_ ?_
   ·rintro⟨ch,done⟩ ⟨a7,rest,bZ,c6⟩ ae;simp only at a7 bZ c6 ae⊢;simp[yh]at bZ;obtain⟨rfl,rfl⟩:=bZ;simp at c6;subst c6;simp[az,ay,a7];refine cH.at (aN ch) (by simp) (cc _) (Same.keys (by simp[aN,ay]) (by simp[aN,ay])) (by simp only[aN,ay];exact aO) (by simp only[aN,ay];exact aO) ?_;simp[cI,Gd,aV,aW,aU,aN,ay,gh];exact⟨ch,by simp⟩
   ·rintro j ⟨ch,done⟩ af ⟨a7,rest,bZ,c6⟩ ae;simp only at a7 bZ c6 ae⊢;obtain⟨v,aJ⟩:∃v,out[j]? =some v:=⟨_,cf af⟩;have aR:out.drop j=v::out.drop (j+1):=by rw[k5 af];rw[cf af]at aJ;cases aJ;rfl
    rw[aR]at bZ;simp only[yh,mB,gN,jj]at bZ;obtain⟨⟨x,c3⟩,eg,⟨t,hD⟩,nv,⟨akD,aoo⟩,sq,rfl,rfl⟩:=bZ;simp only at nv sq;have key:=adB n x c3 _ nv;rw[aR];have gX:∀R,(done.map au.e++np v::R)[j]? =some (np v):=fun R=>by rw[List.getElem?_append_right (by simp;omega)];simp[a7]
    have vv:∀R x,(done.map au.e++np v::R).set j x=done.map au.e++x::R:=fun R x=>by rw[List.set_append_right _ _ (by simp;omega)];simp[a7]
    simp[az,ay];(with_reducible repeat' first|refine aj ?_|simp[gX,af]);(refine cV.ob (q3 ch v x c3 eg) (by first|exact cc _|exact cc ‹_› _) (by simp only[aN,ay,az,bP,bX];exact aO) (by simp only[aN,ay,az,bP,bX];exact aO) (by simp[inObs,Pv.look,aN,ay,az]) ?_;rintro r ai ⟨rfl,rfl⟩;refine⟨(Same.keys (by simp[aN,ay,az]) (by simp[aN,ay,az])),?_⟩;simp[cn,aN,ay,az]);(with_reducible repeat' first|refine aj ?_|simp);(refine cV.ob (key) (by first|exact cc _|exact cc ‹_› _) (by simp only[aN,ay,az,bP,bX];exact aO) (by simp only[aN,ay,az,bP,bX];exact aO) (by simp[inObs,Pv.look,aN,ay,az]) ?_;rintro r ai ⟨rfl,rfl⟩;refine⟨(Same.keys (by simp[aN,ay,az]) (by simp[aN,ay,az])),?_⟩;simp[cn,aN,ay,az]);(with_reducible repeat' first|refine aj ?_|refine aE (te _) ?_|refine aF (te _) ?_|simp[gX,vv,af,akH,-mu]);refine bO.rng (hD,done++[⟨v,t⟩]) af ⟨by simp[a7],akD,sq,by simpa using c6⟩ ?_;simp[az,ay];exact⟨by simp[fresh,aG,aB,cg,inObs,Pv.look,az,ay,jG],ec (by simp[fresh,aG,aB,cg,inObs,Pv.look,az,ay,jG]),ed (by simp[fresh,aG,aB,dR,inObs,Pv.look,az,ay,jG]),by simp⟩
  ·rintro i ⟨bG,out⟩ hi ⟨J,U,ao⟩ ae;simp only at J U ao ae⊢;obtain⟨v,aJ⟩:∃v,bc[i]? =some v:=⟨_,cf hi⟩;have aR:bc.drop i=v::bc.drop (i+1):=by rw[k5 hi];rw[cf hi]at aJ;cases aJ;rfl
   rw[aR]at J;simp only[rP,mB]at J;obtain⟨⟨x,ch⟩,a7,⟨f,c3⟩,bZ,c6⟩:=J;simp only at bZ c6;obtain⟨z3,key⟩:=adD n x ch _ bZ (U.rt a7);have aev:∀h,(du bc)[i]'h= .int .i64 v:=fun h=>by rw[cf hi]at aJ;simp only[dE]at aJ;simp[du,aJ]
   simp[az,ay];(with_reducible repeat' first|refine aj ?_|simp[aev,hi]);(refine cV.ob (q3 bG v x ch a7) (by first|exact cc _|exact cc ‹_› _) (by simp only[aN,ay,az,bP,bX];exact aO) (by simp only[aN,ay,az,bP,bX];exact aO) (by simp[inObs,Pv.look,aN,ay,az]) ?_;rintro r ai ⟨rfl,rfl⟩;refine⟨(Same.keys (by simp[aN,ay,az]) (by simp[aN,ay,az])),?_⟩;simp[cn,aN,ay,az]);(with_reducible repeat' first|refine aj ?_|simp);(refine cV.ob (key) (by first|exact cc _|exact cc ‹_› _) (by simp only[aN,ay,az,bP,bX];exact aO) (by simp only[aN,ay,az,bP,bX];exact aO) (by simp[inObs,Pv.look,aN,ay,az]) ?_;rintro r ai ⟨rfl,rfl⟩;refine⟨(Same.keys (by simp[aN,ay,az]) (by simp[aN,ay,az])),?_⟩;simp[cn,aN,ay,az]);cases f with
   |false=>simp at c6;subst c6;simp at oa;subst oa;(with_reducible repeat' first|refine aj ?_|simp);refine cH.at (aN c3) (by simp) (cc _) (Same.keys (by simp[aN,ay]) (by simp[aN,ay])) (by simp only[aN,ay];exact aO) (by simp only[aN,ay];exact aO) ?_;simp[cI,Gd,aV,aW,aU,aN,ay,gh];exact⟨c3,by simp⟩
   |true=>
    simp only[Bool.true_eq_false,if_false]at c6;by_cases aw:x=v∧c3.shd x=false
    ·rw[if_pos aw]at c6;obtain⟨afv,lQ⟩:=aw;subst afv;have sF:(cZ x c3.shaped).getD false=false:=lQ;(with_reducible repeat' first|refine aj ?_|simp[sF]);refine bO.rng (c3,out) hi ⟨c6,z3,ao⟩ ?_;exact⟨by simp[fresh,aG,aB,cg,inObs,Pv.look,az,ay],ec (by simp[fresh,aG,aB,cg,inObs,Pv.look,az,ay]),ed (by simp[fresh,aG,aB,dR,inObs,Pv.look,az,ay]),by simp⟩
    ·rw[if_neg aw]at c6;have Su:(x==v)=false∨((x==v)=true∧(cZ x c3.shaped).getD false=true):=by
      by_cases e:x=v
      ·right;refine⟨by simp[e],?_⟩;cases aC:c3.shd x with
       |false=>exact absurd ⟨e,aC⟩ aw
       |true=>exact aC
      ·left;simp[e]
     by_cases ar:5000<c3.sz x∨400<out.length+1
     ·rw[if_pos ar]at c6;cases c6;simp at oa;subst oa;have oc:(decide (5000<hR c3.size x))=true∨(decide (5000<hR c3.size x)=false∧400<out.length+1):=by
       by_cases e:5000<hR c3.size x
       ·left;simp[e]
       ·right;exact⟨by simp[e],ar.resolve_left e⟩
      have zq:True:=trivial;have ki:True:=trivial;rcases Su with bH|⟨bH,zq⟩;all_goals
       rcases oc with br|⟨br,ki⟩
       all_goals
        ((with_reducible repeat' first|refine aj ?_|simp[bH,zq,br,ki]|((first|apply bR|apply bU|apply bT)<;>intro h<;>try simp at h))<;>(try exact cv))
        refine cH.at (aN c3) (by simp) (cc _) (Same.keys (by simp[aN,ay]) (by simp[aN,ay])) (by simp only[aN,ay];exact aO) (by simp only[aN,ay];exact aO) ?_
        simp[cI,Gd,aV,aW,aU,aN,ay,gh]
        exact⟨c3,by simp⟩
     ·rw[if_neg ar]at c6;have br:decide (5000<hR c3.size x)=false:=by simp;exact Int.not_lt.1 fun h=>ar (.inl h)
      have ki:¬400<out.length+1:=fun h=>ar (.inr h);have zq:True:=trivial;rcases Su with bH|⟨bH,zq⟩;all_goals
       ((with_reducible repeat' first|refine aj ?_|simp[bH,zq,br,ki]|((first|apply bR|apply bU|apply bT)<;>intro h<;>try simp at h))<;>(try exact cv))
       all_goals first|(refine⟨by unfold lim;omega,?_⟩)|skip
       ((with_reducible repeat' first|refine aj ?_|simp[bH,zq,br,ki]|((first|apply bR|apply bU|apply bT)<;>intro h<;>try simp at h))<;>(try exact cv))
       refine bO.rng (c3,out++[v]) hi ⟨c6,z3,by simp;omega⟩ ?_
       exact⟨by simp[fresh,aG,aB,cg,inObs,Pv.look,az,ay,HD,jG],ec (by simp[fresh,aG,aB,cg,inObs,Pv.look,az,ay,HD,jG]),ed (by simp[fresh,aG,aB,dR,inObs,Pv.look,az,ay,HD,jG]),by simp⟩
theorem MA:∀{a b:T},a.tm=b.tm→a=b:=by
 intro a;induction a with
 |pair x y lS nB=>intro b h;cases b<;>simp[T.tm]at h;rw[lS h.1,nB h.2]
 |_=>intro b h;cases b<;>simp[T.tm]at h⊢ <;>exact h
def Ya(l:List cX):Prop:= ∃s:List au,l=s.map au.b∧pX s∧iu s∧hs s
def Hs(l:List cX):Prop:= ∃s:List au,l=s.map au.b∧pX s∧fD s∧hs s
theorem NP:∀{l:List cX},(∀b∈l,b.t.fits=true)→∃s:List au,l=s.map au.b∧yZ s
 |[],_=>⟨[],rfl,fun b ae=>by simp at ae⟩
 |b::l,h=>by
  obtain⟨s,J,U⟩:=NP (l:=l) fun c aw=>h c (by simp[aw]);obtain⟨x,ao,a7⟩:=bJ.fits_ex (h b (by simp));refine⟨⟨b.v,x⟩::s,by rw[J];simp[au.b,ao],fun c aw=>?_⟩;rcases fK.1 aw with rfl|aw
  ·exact a7
  ·exact U c aw
theorem Hc{l:List cX}:yA l↔Ya l:=by
 constructor
 ·rintro⟨J,U⟩;obtain⟨s,rfl,aej⟩:=NP (l:=l) fun b ae=>by obtain⟨i,hi,e⟩:=nj ae;exact(U i hi b (by rw[cf hi,e])).2.2
  have RX:∀b∈s,b.t.ok=true∧b.t.size≤5000:=fun b ae=>by have:=aej b ae;simpa[T.fit]using this
  refine⟨s,rfl,fun b ae=>⟨?_,(RX b ae).1⟩,?_,by simpa using J,fun b ae=>(RX b ae).2⟩
  ·obtain⟨i,hi,e⟩:=nj ae;have:=(U i (by simpa using hi) b.b (by simp[cf hi,e])).1;exact this
  ·rw[iu,pt];have jt:∀i (h:i+1<s.length),s[i].v<s[i+1].v:=fun i h=>by have:=(U (i+1) (by simpa using h) s[i+1].b (by simp[cf h])).2.1 s[i].b (by omega) (by simp[cf (show i<s.length by omega)]);exact this
   have:∀(d i:Nat) (h:i+d+1<s.length),s[i].v<s[i+d+1].v:=by
    intro d;induction d with
    |zero=>intro i h;exact jt i h
    |succ d bN=>intro i h;have bC:=bN i (by omega);have a2:=jt (i+d+1) (by omega);simp only[Nat.add_assoc]at bC a2⊢;omega
   intro i j hi af lN;have:=this (j-i-1) i (by omega);simpa[show i+(j-i-1)+1=j from by omega]using this
 ·rintro⟨s,rfl,av,bD,aH⟩;refine⟨by simpa using aH.1,fun i hi b ae=>?_⟩;simp only[List.getElem?_map,gN]at ae;obtain⟨c,aw,rfl⟩:=ae;have hm:=eo aw;refine⟨(av c hm).1,fun d bq aR=>?_,?_⟩
  ·simp only[List.getElem?_map,gN]at aR;obtain⟨e,he,rfl⟩:=aR;obtain⟨J,ak⟩:=fw.1 he;obtain⟨U,aC⟩:=fw.1 aw;have:=pt.1 bD (i-1) i J U (by omega);rw[ak,aC]at this;exact this
  ·show c.t.tm.fits=true;rw[bJ.fits_T];simp[T.fit,(av c hm).2,aH.2 c hm]
def u5(s:List au)(v:Int)(f:Bool):Bool:=if 0≤mI s v then false else f
def l2(s:List au)(b:au):Bool:=b.t.fold (u5 s) true&& !(b.t.kind==1&&decide (b.v≤b.t.int))
theorem Q6{s:List au}(bD:iu s)(t:T):∀f:Bool,t.fold (u5 s) f=true↔f=true∧∀w,t.occ w=true→df s w=none:=by
 induction t with
 |var n=>
  intro f;simp only[T.fold,T.occ,dL,u5];have:=Q4 bD n;by_cases h:0≤mI s n
  ·rw[if_pos h];constructor
   ·intro h;cases h
   ·rintro⟨_,U⟩;have:=this.2 (U n rfl);omega
  ·rw[if_neg h];exact⟨fun aH=>⟨aH,fun w hw=>by subst hw;exact this.1 (by omega)⟩,fun h=>h.1⟩
 |pair a b dM dN=>
  intro f;simp only[T.fold,dM,dN,T.occ,lF];constructor
  ·rintro⟨⟨J,U⟩,ao⟩;exact⟨J,fun w hw=>hw.elim (U w) (ao w)⟩
  ·rintro⟨J,U⟩;exact⟨⟨J,fun w hw=>U w (.inl hw)⟩,fun w hw=>U w (.inr hw)⟩
 |_=>intro f;simp[T.fold,T.occ]
theorem HF{s:List au}(bD:iu s)(b:au):l2 s b=true↔(∀w,b.t.occ w=true→df s w=none)∧∀w,b.t= .var w→w<b.v:=by
 unfold l2;rw[cA,Q6 bD];simp only[true_and];refine and_congr_right fun _=>?_;constructor
 ·intro h w hw;have ab:(b.t.kind==1)=true:=by rw[hw];rfl
  have hi:b.t.int=w:=by rw[hw];rfl
  rw[ab,hi]at h;simpa using h
 ·intro h;cases ab:(b.t.kind==1)with
  |false=>rfl
  |true=>
   obtain⟨w,hw⟩:∃w,b.t= .var w:=by
    cases e:b.t with
    |var w=>exact⟨w,rfl⟩
    |_=>rw[e]at ab;simp at ab
   have hi:b.t.int=w:=by rw[hw];rfl
   have:=h w hw;rw[hi];simpa using this
theorem Wm{s:List au}(bD:iu s):fD s↔∀b∈s,l2 s b=true:=by
 constructor
 ·intro h b ae;exact(HF bD b).2 ⟨h.free b ae,h.ori b ae⟩
 ·intro h;exact⟨bD,fun b ae=>((HF bD b).1 (h b ae)).1,fun b ae=>((HF bD b).1 (h b ae)).2⟩
def oo{α:Type}(p:α→Bool)(s:List α)(i:Nat)(_:Unit):Prop:= ∀k b,k<i→s[k]? =some b→p b=true
theorem oo.step{α:Type}{p:α→Bool}{s:List α}{i:Nat}(h:oo p s i ()){b:α}(ae:s[i]? =some b)(bH:p b=true):oo p s (i+1) ():=fun k c ab aw=>by
 rcases(by omega:k<i∨k=i)with J|rfl
 ·exact h k c J aw
 ·rw[ae]at aw;cases aw;exact bH
open Classical in
noncomputable def gE(l:List cX):Bool:=decide (Hs l)
theorem qJ{l:List cX}:gE l=true↔Hs l:=by unfold gE;simp
def iv(f:Bool):cE:=⟨[(.obj 731,[.bool f])],[]⟩
theorem uT(f:Bool):dT (iv f):=by unfold iv;exact dT.of ⟨by intro m;simp[Pv.look],by intro m;simp[Pv.look]⟩ (by simp) (by simp)
theorem X0(a b:Bool):Same (iv a) (iv b):=Same.keys (by simp[iv]) (by simp[iv])
theorem ac4(s:List au)(ar:s.length≤1000000)(v:Int)(f:Bool):bF al 133 [.int .i64 v,.eptr (.slice 5 .no (s.map au.e)),.ptr (.obj 731) 0] (iv f) fun r ai=>r= .tuple []∧ai=iv (u5 s v f):=by
 have ag:=uT f;simp only[iv]at ag⊢;by_cases h:0≤mI s v
 ·rw[u5,if_pos h];refine bF.mk mixed qM QG Uy (by simp) ag.obj fun aQ cN=>?_;unfold HM;simp;(with_reducible repeat' first|refine aj ?_|refine aE (tf s v ar) ?_|refine aF (tf s v ar) ?_|simp[h]);(refine cH.at (iv false) (by simp) (by first|exact uT _|exact uT ‹_› _) (Same.keys (by simp[iv]) (by simp[iv])) (by simp only[iv,bP,bX];exact aO) (by simp only[iv,bP,bX];exact aO) ?_;simp[cI,Lp,aV,aW,aU,inObs,Pv.look,iv])
 ·rw[u5,if_neg h];refine bF.mk mixed qM QG Uy (by simp) ag.obj fun aQ cN=>?_;unfold HM;simp;(with_reducible repeat' first|refine aj ?_|refine aE (tf s v ar) ?_|refine aF (tf s v ar) ?_|simp[h]);(refine cH.at (iv f) (by simp) (by first|exact uT _|exact uT ‹_› _) (Same.keys (by simp[iv]) (by simp[iv])) (by simp only[iv,bP,bX];exact aO) (by simp only[iv,bP,bX];exact aO) ?_;simp[cI,Lp,aV,aW,aU,inObs,Pv.look,iv])
theorem MH(l:List cX):bK al 55 [.slice 5 .no (l.map cX.e)] (.bool (gE l)):=by
 have aJ:=amg l;by_cases h:yA l;rotate_left
 ·have bq:gE l=false:=by unfold gE;simp only[gr];rintro⟨s,J,U,ao,a7⟩;exact h (Hc.2 ⟨s,J,U,ao.asc,a7⟩)
  rw[bq];refine bm qM QF Ux fun aQ=>?_;unfold HL;exact b6
 ·obtain⟨s,rfl,av,bD,aH⟩:=Hc.1 h;have ar:s.length≤1000000:=by have:=aH.1;omega
  have ak:(s.map au.b).map cX.e=s.map au.e:=by rw[List.map_map];exact List.map_congr_left fun b _=>au.b_e b
  have bq:gE (s.map au.b)=s.all (l2 s):=by
   rw[p4,ir,qJ,←Wm bD];constructor
   ·rintro⟨ai,J,U,ao,a7⟩;have:ai=s:=by
     have aeu:∀a b:List au,a.map au.b=b.map au.b→a=b:=by
      intro a;induction a with
      |nil=>intro b ae;cases b<;>simp at ae⊢
      |cons x a bN=>
       intro b ae;cases b with
       |nil=>simp at ae
       |cons y b=>simp only[gM,nQ,au.b,cX.mk.injEq]at ae;rw[bN b ae.2];have:=MA ae.1.2;obtain⟨⟨lh,_⟩,_⟩:=ae;cases x;cases y;simp_all
     exact(aeu _ _ J).symm
    rw[←this];exact ao
   ·intro ao;exact⟨s,rfl,av,ao,aH⟩
  rw[bq];rw[ak]at aJ⊢;refine bm qM QF Ux fun aQ=>?_;unfold HL;simp;(with_reducible repeat' first|refine aj ?_|refine aE aJ ?_|refine aF aJ ?_|simp[h]);refine gP (α:=Unit) (fun i _=>⟨[(1,.eptr (.slice 5 .no (s.map au.e))),(9,.slice 5 .no (s.map au.e)),(10,.int .i64 s.length),(11,.int .i64 i)],[],[],1,[]⟩) s.length (oo (l2 s) s) () bV (fun k b ab=>by omega) (fun _ af _=>?_) (fun i _ hi af _=>?_)
  ·have:s.all (l2 s)=true:=by rw[ir];intro b ae;obtain⟨k,ab,e⟩:=nj ae;exact af k b ab (by rw[cf ab,e])
   rw[this];exact b6
  ·obtain⟨b,lR⟩:∃b,s[i]? =some b:=⟨_,cf hi⟩;have gx:∀h,(s[i]'h)=b:=fun h=>by rw[cf hi]at lR;exact fl lR
   have key:=Rg iv uT X0 133 [.eptr (.slice 5 .no (s.map au.e)),.ptr (.obj 731) 0] (fun a=>by simp[iv,inObs,Pv.look]) (by simp) (u5 s) (fun v a=>ac4 s ar v a) b.t true;have gv:l2 s b=false→s.all (l2 s)=false:=fun h=>by rw[Bool.eq_false_iff];intro cr;rw[ir]at cr;rw[cr b (eo lR)]at h;cases h
   simp[hi,gx];(with_reducible repeat' first|refine aj ?_|simp[gx,hi]);(refine cV.ob (key) (by first|exact uT _|exact uT ‹_› _) (by simp only[iv,bP,bX];exact aO) (by simp only[iv,bP,bX];exact aO) (by simp[inObs,Pv.look,iv]) ?_;rintro r ai ⟨rfl,rfl⟩;refine⟨(Same.keys (by simp[iv]) (by simp[iv])),?_⟩;simp[cn,iv]);generalize ael:b.t.fold (u5 s) true=sl;have xa:l2 s b=(sl&& !(b.t.kind==1&&decide (b.v≤b.t.int))):=by unfold l2;rw[ael]
   cases sl with
   |false=>rw[gv (by rw[xa];rfl)];exact b6
   |true=>
    cases ab:(b.t.kind==1)with
    |false=>(with_reducible repeat' first|refine aj ?_|simp[ab]);refine bO.rng () hi (af.step lR (by rw[xa,ab];rfl)) ?_;exact bV
    |true=>
     by_cases hle:b.v≤b.t.int
     ·rw[gv (by rw[xa,ab];simp[hle])];exact b6
     ·(with_reducible repeat' first|refine aj ?_|simp[ab,hle]);refine bO.rng () hi (af.step lR (by rw[xa,ab];simp[hle])) ?_;exact bV
@[simp] theorem apM(S:aD→Prop):aG S (jf [])=True:=eq_true (mm S [])
set_option maxRecDepth 4000 in
theorem adv(n:Nat)(s:List au)(l r:List T)(ar:l.length=r.length)(kj:s.length≤1000000)(xm:l.length≤1000000)(o:aY (List au))(he:AE n (hE s++l.zip r)=some o)
  (hinv:∀c,pC n (hE s++l.zip r) bs.new=some (true,c)→(ct c.up).Nodup∧c.up.length≤1000000∧l1 c):bK al 118 [.slice 5 .no (s.map au.e),.slice 4 .no (l.map T.e),.slice 4 .no (r.map T.e)] (gh o):=by
 obtain⟨E,dw⟩:∃E,E=hE s++l.zip r:=⟨_,rfl⟩;rw[←dw]at he hinv;simp only[AE,mB]at he;obtain⟨fin,zf,oa⟩:=he;have hlen:E.length=s.length+l.length:=by rw[dw];simp[hE,ar]
 have adQ:∀i b,s[i]? =some b→E.drop i=(.var b.v,b.t)::E.drop (i+1):=fun i b ae=>by
  have hi:=(fw.1 ae).1;have a8:E[i]? =some (.var b.v,b.t):=by rw[dw,List.getElem?_append_left (by simp[hE];exact hi)];simp[hE,ae]
  rw[k5 (by omega)];rw[cf (by omega)]at a8;simp only[dE]at a8;rw[a8]
 have adP:∀i a b,l[i]? =some a→r[i]? =some b→E.drop (s.length+i)=(a,b)::E.drop (s.length+(i+1)):=fun i a b bD ae=>by
  have hi:=(fw.1 bD).1;have a8:E[s.length+i]? =some (a,b):=by rw[dw,List.getElem?_append_right (by simp[hE])];simp[hE,List.getElem?_zip_eq_some,bD,ae]
  rw[k5 (by omega)];rw[cf (by omega)]at a8;simp only[dE]at a8;rw[a8];rfl
 refine bm WR abl ahY fun aQ=>?_;unfold OI;simp;refine cV.new adi (dT.of xU (by simp) (by simp)) (fun k cs h=>by simp[Pv.look]at h) (fun k cs h=>by simp[Pv.look]at h) (by simp) ?_;rintro r0 s0 ⟨rfl,rfl⟩;refine⟨fun m hm=>.inr (by simp),?_⟩;simp[aN,ay,cn,az];refine gP (α:=bs) (fun i c=>⟨[(1,.slice 4 .no (l.map T.e)),(2,.slice 4 .no (r.map T.e)),(8,az),(13,.slice 5 .no (s.map au.e)),(14,.int .i64 s.length),(15,.int .i64 i)],ay c,[],0,[.obj 702,.obj 703,.obj 704,.obj 705,.obj 706,.obj 707]⟩) s.length (fun i c=>pC n (E.drop i) c=some fin) bs.new (by simp[az,ay];exact⟨by simp[fresh,aG,aB,cg,inObs,Pv.look,az,ay,bs.new],ec (by simp[fresh,aG,aB,cg,inObs,Pv.look,az,ay,bs.new]),ed (by simp[fresh,aG,aB,dR,inObs,Pv.look,az,ay,bs.new]),by simp⟩) (by simpa using zf) ?_ ?_
 ·rintro c J ae;simp[az,ay];refine gP (α:=bs) (fun i c=>⟨[(1,.slice 4 .no (l.map T.e)),(2,.slice 4 .no (r.map T.e)),(8,az),(37,.int .i64 l.length),(38,.int .i64 i)],ay c,[],0,[.obj 702,.obj 703,.obj 704,.obj 705,.obj 706,.obj 707]⟩) l.length (fun i c=>pC n (E.drop (s.length+i)) c=some fin) c (by simp[az,ay];exact⟨by simp[fresh,aG,aB,cg,inObs,Pv.look,az,ay],ec (by simp[fresh,aG,aB,cg,inObs,Pv.look,az,ay]),ed (by simp[fresh,aG,aB,dR,inObs,Pv.look,az,ay]),by simp⟩) J ?_ ?_
  ·rintro bG J ae;rw[List.drop_eq_nil_of_le (by omega)]at J;simp[pC]at J;subst J;simp at oa;obtain⟨a6,bB,bS⟩:=hinv bG zf;simp[az,ay];refine cV.ob (adw n bG o oa a6 bB bS) (cc _) (by simp only[aN,ay];exact aO) (by simp only[aN,ay];exact aO) (by simp[inObs,Pv.look,aN,ay,az]) ?_;rintro r0 s0 ⟨rfl,cq,rfl⟩;refine⟨Same.keys (by simp[aN,ay]) (by simp[aN,ay]),?_⟩;simp[cn,aN,ay,gh];exact b6
  ·rintro i c hi J ae;simp only at J ae⊢;obtain⟨a,bD⟩:∃a,l[i]? =some a:=⟨_,cf hi⟩;obtain⟨b,fI⟩:∃b,r[i]? =some b:=⟨_,cf (by omega)⟩;have mO:∀h,(l[i]'h)=a:=fun h=>by rw[cf hi]at bD;exact fl bD
   have cy:∀h,(r[i]'h)=b:=fun h=>by rw[cf h]at fI;exact fl fI
   have ri:i<r.length:=by omega
   rw[adP i a b bD fI]at J;simp only[pC,mB]at J;obtain⟨bG,U,ch,ao,⟨f,c3⟩,a7,bZ⟩:=J;simp only at a7 bZ;have key:=Ri n _ _ _ _ a7;simp[az,ay];(with_reducible repeat' first|refine aj ?_|simp[mO,cy,hi,ri]);(refine cV.ob (IZ c a bG U) (by first|exact cc _|exact cc ‹_› _) (by simp only[aN,ay,az,bP,bX];exact aO) (by simp only[aN,ay,az,bP,bX];exact aO) (by simp[inObs,Pv.look,aN,ay,az]) ?_;rintro r ai ⟨rfl,rfl⟩;refine⟨(Same.keys (by simp[aN,ay,az]) (by simp[aN,ay,az])),?_⟩;simp[cn,aN,ay,az]);(with_reducible repeat' first|refine aj ?_|simp[mO,cy,hi,ri]);(refine cV.ob (IZ bG b ch ao) (by first|exact cc _|exact cc ‹_› _) (by simp only[aN,ay,az,bP,bX];exact aO) (by simp only[aN,ay,az,bP,bX];exact aO) (by simp[inObs,Pv.look,aN,ay,az]) ?_;rintro r ai ⟨rfl,rfl⟩;refine⟨(Same.keys (by simp[aN,ay,az]) (by simp[aN,ay,az])),?_⟩;simp[cn,aN,ay,az]);(with_reducible repeat' first|refine aj ?_|simp[mO,cy,hi,ri]);(refine h1.ob (key) (by first|exact cc _|exact cc ‹_› _) (by first|exact cc _|exact cc ‹_› _) (Same.keys (by simp[aN,ay,az]) (by simp[aN,ay,az])) (by simp only[aN,ay,az,bP,bX];exact aO) (by simp only[aN,ay,az,bP,bX];exact aO) (by simp[inObs,Pv.look,aN,ay,az]) ?_;simp[cn,aN,ay,az]);cases f with
   |false=>simp at bZ;subst bZ;simp at oa;subst oa;(with_reducible repeat' first|refine aj ?_|simp);simp[bu,Lv,aV,aW,aU];simp[gh]
   |true=>simp at bZ;(with_reducible repeat' first|refine aj ?_|simp);refine bO.rng c3 hi bZ ?_;simp[az,ay];exact⟨by simp[fresh,aG,aB,cg,inObs,Pv.look,az,ay],ec (by simp[fresh,aG,aB,cg,inObs,Pv.look,az,ay]),ed (by simp[fresh,aG,aB,dR,inObs,Pv.look,az,ay]),by simp⟩
 ·rintro i c hi J ae;simp only at J ae⊢;obtain⟨b,aJ,gx⟩:=dV hi;rw[adQ i b aJ]at J;simp only[pC,mB]at J;obtain⟨bG,U,ch,ao,⟨f,c3⟩,a7,bZ⟩:=J;simp only[zN,T.foldO,gN]at U;obtain⟨⟨x,NT⟩,U,rfl⟩:=U;simp only at U ao a7 bZ;have key:=Ri n _ _ _ _ a7;simp[az,ay];(with_reducible repeat' first|refine aj ?_|simp[gx,hi]);(refine cV.ob (q3 c b.v x NT U) (by first|exact cc _|exact cc ‹_› _) (by simp only[aN,ay,az,bP,bX];exact aO) (by simp only[aN,ay,az,bP,bX];exact aO) (by simp[inObs,Pv.look,aN,ay,az]) ?_;rintro r ai ⟨rfl,rfl⟩;refine⟨(Same.keys (by simp[aN,ay,az]) (by simp[aN,ay,az])),?_⟩;simp[cn,aN,ay,az]);(with_reducible repeat' first|refine aj ?_|simp);(refine cV.ob (IZ NT b.t ch ao) (by first|exact cc _|exact cc ‹_› _) (by simp only[aN,ay,az,bP,bX];exact aO) (by simp only[aN,ay,az,bP,bX];exact aO) (by simp[inObs,Pv.look,aN,ay,az]) ?_;rintro r ai ⟨rfl,rfl⟩;refine⟨(Same.keys (by simp[aN,ay,az]) (by simp[aN,ay,az])),?_⟩;simp[cn,aN,ay,az]);(with_reducible repeat' first|refine aj ?_|refine aE (kr _) ?_|refine aF (kr _) ?_|simp);(refine h1.ob (key) (by first|exact cc _|exact cc ‹_› _) (by first|exact cc _|exact cc ‹_› _) (Same.keys (by simp[aN,ay,az]) (by simp[aN,ay,az])) (by simp only[aN,ay,az,bP,bX];exact aO) (by simp only[aN,ay,az,bP,bX];exact aO) (by simp[inObs,Pv.look,aN,ay,az]) ?_;simp[cn,aN,ay,az]);cases f with
  |false=>simp at bZ;subst bZ;simp at oa;subst oa;(with_reducible repeat' first|refine aj ?_|simp);simp[bu,Lv,aV,aW,aU];simp[gh]
  |true=>simp at bZ;(with_reducible repeat' first|refine aj ?_|simp);refine bO.rng c3 hi bZ ?_;simp[az,ay];exact⟨by simp[fresh,aG,aB,cg,inObs,Pv.look,az,ay],ec (by simp[fresh,aG,aB,cg,inObs,Pv.look,az,ay]),ed (by simp[fresh,aG,aB,dR,inObs,Pv.look,az,ay]),by simp⟩
theorem amY(s:List au)(l r:List T)(ar:l.length=r.length)(ag:fD s)(aH:hs s)(av:pX s)(xm:l.length≤1000000)(J:∀t∈l,t.ok=true)(U:∀t∈r,t.ok=true):
  bK al 118 [.slice 5 .no (s.map au.e),.slice 4 .no (l.map T.e),.slice 4 .no (r.map T.e)] (gh (mgu s (l.zip r))):=by
 have dw:∀e∈hE s++l.zip r,e.1.ok=true∧e.2.ok=true:=fun e he=>by
  rcases jP.1 he with he|he
  ·obtain⟨b,ae,rfl⟩:=iO.1 he;have:=av b ae;exact⟨by simpa[T.ok]using this.1,this.2⟩
  ·exact⟨J _ (List.of_mem_zip he).1,U _ (List.of_mem_zip he).2⟩
 have bq:KV (hE s++l.zip r):=fun e he v aJ=>by
  rcases aJ with aJ|aJ
  ·exact(wA (dw e he).1 aJ).1
  ·exact(wA (dw e he).2 aJ).1
 obtain⟨n,o,a6,bB,bS⟩:=alg _ bq;rw[rG (X8.1 bB)];refine adv n s l r ar (by have:=aH.1;omega) xm o a6 fun c aw=>?_;obtain⟨bC,a2,a3⟩:=bS c aw;have:=Tr bC fun v aJ=>by
  obtain⟨e,he,aJ⟩:=a2 v aJ;rcases aJ with aJ|aJ
  ·exact wA (dw e he).1 aJ
  ·exact wA (dw e he).2 aJ
 refine⟨bC,by simp[ct]at this;omega,fun x=>?_⟩;simp[bs.sz,a3,cZ]
structure eP (s:List au):Prop where
 ok:pX s
 sol:fD s
 fits:hs s
theorem eP.len{s:List au}(h:eP s):s.length≤1000000:=by have:=h.fits.1;omega
theorem eP.fit{s:List au}(h:eP s):yZ s:=fun b ae=>by simp[T.fit,(h.ok b ae).2,h.fits.2 b ae]
theorem eP.mgu{s:List au}(h:eP s){E:List (T×T)}(dw:∀e∈E,e.1.ok=true∧e.2.ok=true){ai:List au}(hm:mgu s E=some ai):eP ai:=⟨agQ h.sol h.fits h.ok dw hm,(zO h.sol h.fits hm).1,(zO h.sol h.fits hm).2⟩
theorem xQ(s:List au):(s.map au.b).map cX.e=s.map au.e:=by rw[List.map_map];exact List.map_congr_left fun b _=>au.b_e b
theorem p0{s:List au}(h:eP s):bK al 55 [.slice 5 .no (s.map au.e)] (.bool true):=by have:=MH (s.map au.b);rw[xQ,qJ.2 ⟨s,rfl,h.ok,h.sol,h.fits⟩]at this;exact this
def afY(t:List au)(i:Nat)(p:List T×List T):Prop:=p.1=(t.take i).map (fun b=>T.var b.v)∧p.2=(t.take i).map (·.t)
theorem amt(t:List au)(aL:t.length≤1000000):bK al 201 [.slice 5 .no (t.map au.e)] (.tuple [.slice 4 .no ((t.map fun b=>T.var b.v).map T.e),.slice 4 .no ((t.map (·.t)).map T.e)]):=by
 generalize a1:((t.map fun b=>T.var b.v).map T.e)=R1;generalize kd:((t.map fun x=>x.t).map T.e)=R2;have gm:∀S:aD→Prop,aG S R1=True:=fun S=>by rw[←a1];exact TA S _
 have kS:∀S:aD→Prop,aG S R2=True:=fun S=>by rw[←kd];exact TA S _
 refine bK.mk mixed qM aa7 ahK (by simp) (by simp[aB,gm,kS]) fun aQ=>?_;unfold Ou;simp;refine gP (α:=List T×List T) (fun i p=>⟨[(10,.slice 5 .no (t.map au.e)),(11,.int .i64 t.length),(4,.slice 4 (.own (.loc 0)) (p.1.map T.e)),(5,.slice 4 (.own (.loc 1)) (p.2.map T.e)),(12,.int .i64 i)],[],[(.loc 0,⟨p.1.length,32,4,none⟩),(.loc 1,⟨p.2.length,32,4,none⟩)],2,[]⟩) t.length (afY t) ([],[]) bV ⟨by simp,by simp⟩ (fun p af _=>?_) (fun i p hi af _=>?_)
 ·obtain⟨A,B⟩:=p;obtain⟨bh,kB⟩:=af;simp only at bh kB⊢;rw[hB (eV _)]at bh kB;rw[←a1,←kd,←bh,←kB];simp;(with_reducible repeat' first|refine aj ?_|simp);simp[bu,Vp,aV,aW,aU]
 ·obtain⟨A,B⟩:=p;obtain⟨bh,kB⟩:=af;simp only at bh kB⊢;obtain⟨b,aJ,gx⟩:=dV hi;have vw:t.take (i+1)=t.take i++[b]:=by rw[nR,aJ];rfl
  have adN:A.length≤1000000:=by rw[bh];simp;omega
  have adO:B.length≤1000000:=by rw[kB];simp;omega
  simp[hi,gx];((with_reducible repeat' first|refine aj ?_|refine aE (kr _) ?_|refine aF (kr _) ?_|simp[gx,hi]|((first|apply bR|apply bU|apply bT)<;>intro h<;>try simp at h))<;>(try exact cv));all_goals first|(refine⟨by unfold lim;omega,?_⟩)|skip
  (with_reducible repeat' first|refine aj ?_|simp);all_goals first|(refine⟨by unfold lim;omega,?_⟩)|skip
  (with_reducible repeat' first|refine aj ?_|simp);refine bO.rng (A++[.var b.v],B++[b.t]) hi ⟨by rw[vw,bh];simp,by rw[vw,kB];simp⟩ ?_;simp;exact⟨by simp[fresh,aG,aB,cg,inObs,Pv.look,jG],ec (by simp[fresh,aG,aB,cg,inObs,Pv.look,jG]),ed (by simp[fresh,aG,aB,dR,inObs,Pv.look,jG]),by simp⟩
theorem al6{s t:List au}(ag:eP s)(aL:eP t):bK al 122 [.slice 5 .no (s.map au.e),.slice 5 .no (t.map au.e)] (gh (mgu s (hE t))):=by
 have bE:(t.map fun b=>T.var b.v).zip (t.map (·.t))=hE t:=by rw[hE,List.zip_map']
 have key:=amY s (t.map fun b=>T.var b.v) (t.map (·.t)) (by simp) ag.sol ag.fits ag.ok (by simpa using aL.len) (fun x ad=>by
  obtain⟨b,ae,rfl⟩:=iO.1 ad;have:=aL.ok b ae;simpa[T.ok]using this.1) (fun x ad=>by
  obtain⟨b,ae,rfl⟩:=iO.1 ad;exact(aL.ok b ae).2)
 rw[bE]at key;have heq:=amt t aL.len;generalize (t.map fun b=>T.var b.v)=A at key heq;generalize (t.map fun x=>x.t)=B at key heq;refine bm qM aaK ahn fun aQ=>?_;unfold N2;simp;(with_reducible repeat' first|refine aj ?_|refine aE (p0 ag) ?_|refine aF (p0 ag) ?_|refine aE (p0 aL) ?_|refine aF (p0 aL) ?_|refine aE heq ?_|refine aF heq ?_|refine aE key ?_|refine aF key ?_|simp);simp[bu,Vc,aV,aW,aU];simp[gh]
theorem qK{α:Type}{t:List α}{i:Nat}{b:α}(aJ:t[i]? =some b):t.take (i+1)=t.take i++[b]:=by rw[nR,aJ];rfl
def gz(s t:List au):List au:=t.filter fun b=>(df s b.v).isNone
def qx(s t:List au)(i:Nat)(out:List au):Prop:=out=gz s (t.take i)
theorem amb{s t:List au}(ag:eP s)(aL:eP t):bK al 123 [.slice 5 .no (s.map au.e),.slice 5 .no (t.map au.e)] (.slice 5 .no ((gz s t).map au.e)):=by
 have afh:=aL.len;generalize a1:gz s t=R;refine bm qM aaP ahs fun aQ=>?_;unfold N7;simp;(with_reducible repeat' first|refine aj ?_|refine aE (p0 ag) ?_|refine aF (p0 ag) ?_|refine aE (p0 aL) ?_|refine aF (p0 aL) ?_|simp);refine gP (α:=List au) (fun i out=>⟨[(0,.slice 5 .no (s.map au.e)),(17,.slice 5 .no (t.map au.e)),(18,.int .i64 t.length),(5,.slice 5 (.own (.loc 0)) (out.map au.e)),(19,.int .i64 i)],[],[(.loc 0,⟨out.length,61,5,none⟩)],1,[]⟩) t.length (qx s t) [] bV (by simp[qx,gz]) (fun out af _=>?_) (fun i out hi af _=>?_)
 ·rw[qx,hB (eV _),a1]at af;rw[←af];exact b6
 ·obtain⟨b,aJ,gx⟩:=dV hi;have tZ:out.length≤1000000:=by
   have:out.length≤(t.take i).length:=by rw[af];exact List.length_filter_le _ _
   simp at this;omega
  have qp:=Q4 ag.sol.asc b.v;simp[hi,gx];by_cases ae:mI s b.v<0
  ·(with_reducible repeat' first|refine aj ?_|refine aE (tf s b.v ag.len) ?_|refine aF (tf s b.v ag.len) ?_|refine aE (te _) ?_|refine aF (te _) ?_|simp[gx,hi,ae]);all_goals first|(refine⟨by unfold lim;omega,?_⟩)|skip
   (with_reducible repeat' first|refine aj ?_|simp);refine bO.rng (out++[b]) hi (by rw[qx,qK aJ,gz,List.filter_append,af];simp[gz,qp.1 ae]) ?_;simp;exact⟨by simp[fresh,aG,aB,cg,inObs,Pv.look,jG],ec (by simp[fresh,aG,aB,cg,inObs,Pv.look,jG]),ed (by simp[fresh,aG,aB,dR,inObs,Pv.look,jG]),by simp⟩
  ·(with_reducible repeat' first|refine aj ?_|refine aE (tf s b.v ag.len) ?_|refine aF (tf s b.v ag.len) ?_|simp[gx,hi,ae]);refine bO.rng out hi (by
    have:df s b.v≠none:=fun e=>ae (qp.2 e);rw[qx,qK aJ,gz,List.filter_append,af];cases e:df s b.v with
    |none=>exact absurd e this
    |some x=>simp[gz,e]) ?_
   exact bV
def Fi(t:List au)(i:Nat)(out:List au):Prop:=out=t.take i
theorem W4(t:List au)(aL:t.length≤1000000):bK al 119 [.slice 5 .no (t.map au.e)] (.slice 5 .no (t.map au.e)):=by
 refine bm qM aa5 ahI fun aQ=>?_;unfold Oq;simp;refine gP (α:=List au) (fun i out=>⟨[(7,.slice 5 .no (t.map au.e)),(8,.int .i64 t.length),(3,.slice 5 (.own (.loc 0)) (out.map au.e)),(9,.int .i64 i)],[],[(.loc 0,⟨out.length,61,5,none⟩)],1,[]⟩) t.length (Fi t) [] bV (by simp[Fi]) (fun out af _=>?_) (fun i out hi af _=>?_)
 ·rw[Fi,hB (eV _)]at af;subst af;exact b6
 ·obtain⟨b,aJ,gx⟩:=dV hi;have tZ:out.length≤1000000:=by rw[af];simp;omega
  simp[hi,gx];(with_reducible repeat' first|refine aj ?_|refine aE (te _) ?_|refine aF (te _) ?_|simp[gx,hi]);all_goals first|(refine⟨by unfold lim;omega,?_⟩)|skip
  (with_reducible repeat' first|refine aj ?_|simp);refine bO.rng (out++[b]) hi (by rw[Fi,qK aJ,af]) ?_;simp;exact⟨by simp[fresh,aG,aB,cg,inObs,Pv.look,jG],ec (by simp[fresh,aG,aB,cg,inObs,Pv.look,jG]),ed (by simp[fresh,aG,aB,dR,inObs,Pv.look,jG]),by simp⟩
def rF(t:List au)(b:au):Bool:=decide (cz t b.v=b.t.ap (cz t))
def mX(s t:List au):Bool:=s.all (rF t)
theorem Dc{t:List au}(aL:eP t)(v:Int):(cz t v).size≤5000:=by
 unfold cz;cases e:df t v with
 |none=>simp[T.size]
 |some x=>exact aL.fits.2 _ (jS e)
theorem Xj(s:List au){t:List au}(ag:s.length≤1000000)(aL:eP t):bK al 205 [.slice 5 .no (s.map au.e),.slice 5 .no (t.map au.e)] (.bool (mX s t)):=by
 refine bm qM aba ahN fun aQ=>?_;unfold Ox;simp;refine dW [1,11,12] (fun i (_:Unit)=>[(13,.int .i64 i)]) s.length (oo (rF t) s) () bV (fun k b ab=>by omega) (fun _ af _=>?_) (fun i _ hi af _=>?_)
 ·have:mX s t=true:=by rw[mX,ir];intro b ae;obtain⟨k,ab,e⟩:=nj ae;exact af k b ab (by rw[cf ab,e])
  rw[this];exact b6
 ·obtain⟨b,aJ,gx⟩:=dV hi;have gv:rF t b=false→mX s t=false:=fun h=>by rw[Bool.eq_false_iff];intro cr;rw[mX,ir]at cr;rw[cr b (eo aJ)]at h;cases h
  have aZ:=Hb t (.var b.v) aL.len aL.sol.asc aL.fit;have bI:=Hb t b.t aL.len aL.sol.asc aL.fit;have xB:=Dc aL b.v;have Fa:((T.var b.v).ap (cz t)).size≤5000:=xB;rw[if_pos Fa,kN Fa]at aZ;rw[show(T.var b.v).ap (cz t)=cz t b.v from rfl]at aZ;simp[hi,gx];by_cases bE:(b.t.ap (cz t)).size≤5000
  ·rw[if_pos bE,kN bE]at bI;by_cases he:cz t b.v=b.t.ap (cz t)
   ·rw[he]at aZ;(with_reducible repeat' first|refine aj ?_|refine aE (kr _) ?_|refine aF (kr _) ?_|refine aE aZ ?_|refine aF aZ ?_|refine aE bI ?_|refine aF bI ?_|refine aE (rV _ _) ?_|refine aF (rV _ _) ?_|simp[gx,hi,he]);exact bO.rng () hi (af.step aJ (by simp[rF,he])) bV
   ·rw[gv (by simp[rF,he])];(with_reducible repeat' first|refine aj ?_|refine aE (kr _) ?_|refine aF (kr _) ?_|refine aE aZ ?_|refine aF aZ ?_|refine aE bI ?_|refine aF bI ?_|refine aE (rV _ _) ?_|refine aF (rV _ _) ?_|simp[gx,hi,he]);simp[bu,Lr,aV,aW,aU]
  ·rw[if_neg bE,k8 bE]at bI;rw[gv (by simp only[rF,gr];intro e;rw[←e]at bE;exact bE xB)];(with_reducible repeat' first|refine aj ?_|refine aE (kr _) ?_|refine aF (kr _) ?_|refine aE aZ ?_|refine aF aZ ?_|refine aE bI ?_|refine aF bI ?_|refine aE (rV _ _) ?_|refine aF (rV _ _) ?_|simp[gx,hi]);simp[bu,Lr,aV,aW,aU]
theorem Cs(c:au→au→Int):∀a b:List au,a=[]∨b=[]→jI c a b=ey a.length b.length
 |[],[],_=>by simp[jI,ey]
 |[],_::_,_=>by simp[jI,ey]<;>omega
 |_::_,[],_=>by simp[jI,ey]<;>omega
 |_::_,_::_,h=>by simp at h
theorem UR(x y:au)(xs ys:List au):ev (x::xs) (y::ys)=if ey x.v y.v=0 then(if er x.t y.t=0 then ev xs ys else er x.t y.t)else ey x.v y.v:=by
 by_cases a6:ey x.v y.v=0
 ·by_cases bB:er x.t y.t=0<;>simp[ev,jI,x1,a6,bB]
 ·simp[ev,jI,x1,a6]
theorem US(a b k:Int):ey (a-k) (b-k)=ey a b:=by unfold ey;(repeat' split)<;>omega
def J8(d e:List au)(i:Nat):Prop:=i≤d.length∧i≤e.length∧ev (d.drop i) (e.drop i)=ev d e
theorem G9(d e:List au):bK al 204 [.slice 5 .no (d.map au.e),.slice 5 .no (e.map au.e)] (.int .i64 (ev d e)):=by
 generalize a1:ev d e=R;refine bm qM abd ahQ fun aQ=>?_;unfold OA;have aR:d.length≤68719476736:=by simp[eD,ef,et,lim]at aQ;omega
 have he:e.length≤68719476736:=by simp[eD,ef,et,lim]at aQ;omega
 simp;refine u7 [0,1] (fun(i:Nat)=>[(5,.int .i64 i)]) (fun i=>d.length-i) (J8 d e) 0 bV ⟨by omega,by omega,by simp⟩ (fun i af _=>?_);obtain⟨J,U,ao⟩:=af;rw[a1]at ao;by_cases hi:i<d.length
 ·by_cases hl:i<e.length
  ·obtain⟨x,ad⟩:∃x,d[i]? =some x:=⟨_,cf hi⟩;obtain⟨y,aM⟩:∃y,e[i]? =some y:=⟨_,cf hl⟩;have cC:∀h,(d[i]'h)=x:=fun h=>by rw[cf hi]at ad;exact fl ad
   have eJ:∀h,(e[i]'h)=y:=fun h=>by rw[cf hl]at aM;exact fl aM
   have zd:d.drop i=x::d.drop (i+1):=by rw[k5 hi,cC]
   have ze:e.drop i=y::e.drop (i+1):=by rw[k5 hl,eJ]
   rw[zd,ze]at ao;rw[UR]at ao;simp[hi,hl,cC,eJ];by_cases a6:ey x.v y.v=0
   ·rw[if_pos a6]at ao;by_cases bB:er x.t y.t=0
    ·rw[if_pos bB]at ao;(with_reducible repeat' first|refine aj ?_|refine aE (nN _ _) ?_|refine aF (nN _ _) ?_|refine aE (AP _ _) ?_|refine aF (AP _ _) ?_|simp[cC,eJ,hi,hl,a6,bB]);refine bO.whl (i+1) (by omega) ⟨by omega,by omega,by rw[a1];exact ao⟩ ?_;exact bV
    ·rw[if_neg bB]at ao;((with_reducible repeat' first|refine aj ?_|refine aE (nN _ _) ?_|refine aF (nN _ _) ?_|refine aE (AP _ _) ?_|refine aF (AP _ _) ?_|simp[cC,eJ,hi,hl,a6,bB]|((first|apply bR|apply bU|apply bT)<;>intro h<;>try simp at h))<;>(try exact cv));simp[bu,CX,aV,aW,aU];exact ao
   ·rw[if_neg a6]at ao;((with_reducible repeat' first|refine aj ?_|refine aE (nN _ _) ?_|refine aF (nN _ _) ?_|simp[cC,eJ,hi,hl,a6]|((first|apply bR|apply bU|apply bT)<;>intro h<;>try simp at h))<;>(try exact cv));simp[bu,CX,aV,aW,aU];exact ao
  ·have:ey d.length e.length=R:=by rw[←ao,ev,Cs _ _ _ (.inr (List.drop_eq_nil_of_le (by omega)))];rw[←US d.length e.length i];simp only[r4];congr 1<;>omega
   simp[hi,hl];(with_reducible repeat' first|refine aj ?_|refine aE (nN _ _) ?_|refine aF (nN _ _) ?_|simp[hi,hl]);simp[bu,CX,aV,aW,aU];exact this
 ·have:ey d.length e.length=R:=by rw[←ao,ev,Cs _ _ _ (.inl (List.drop_eq_nil_of_le (by omega)))];rw[←US d.length e.length i];simp only[r4];congr 1<;>omega
  simp[hi];(with_reducible repeat' first|refine aj ?_|refine aE (nN _ _) ?_|refine aF (nN _ _) ?_|simp[hi]);simp[bu,CX,aV,aW,aU];exact this
theorem W8(a b:List au)(bD:a.length≤1000000):bK al 135 [.slice 5 .no (a.map au.e),.slice 5 .no (b.map au.e)] (.bool (decide (a=b))):=by
 by_cases ar:a.length=b.length;rotate_left
 ·have bq:decide (a=b)=false:=by simp only[gr];rintro rfl;exact ar rfl
  have sB:((a.length:Int) !=(b.length:Int))=true:=by simp;omega
  have oc:¬(a.length:Int)=b.length:=by omega
  rw[bq];refine bm qM QK UC fun aQ=>?_;unfold HQ;exact b6
 ·generalize a1:decide (a=b)=R;refine bm qM QK UC fun aQ=>?_;unfold HQ;simp;(with_reducible repeat' first|refine aj ?_|simp[ar]);refine dW [0,1,12] (fun i (_:Unit)=>[(13,.int .i64 i)]) b.length (fun i (_:Unit)=> ∀k,k<i→a[k]? =b[k]?) () bV (fun k ab=>by omega) (fun _ af _=>?_) (fun i _ hi af _=>?_)
  ·have:R=true:=by
    rw[←a1,fm];apply List.ext_getElem?;intro k;by_cases ab:k<b.length
    ·exact af k ab
    ·rw[p5 (by omega),p5 (by omega)]
   rw[this];exact b6
  ·obtain⟨x,ad⟩:∃x,a[i]? =some x:=⟨_,cf (by omega)⟩;obtain⟨y,aM⟩:∃y,b[i]? =some y:=⟨_,cf hi⟩;have gd:i<a.length:=by omega
   have cC:∀h,(a[i]'h)=x:=fun h=>by rw[cf gd]at ad;exact fl ad
   have eJ:∀h,(b[i]'h)=y:=fun h=>by rw[cf hi]at aM;exact fl aM
   have gv:x≠y→R=false:=fun h=>by rw[←a1,gr];rintro rfl;rw[ad]at aM;cases aM;exact h rfl
   simp[hi,gd,cC,eJ];by_cases a6:x.v=y.v
   ·have sU:(x.v !=y.v)=false:=by simp[a6]
    by_cases bB:x.t=y.t
    ·(with_reducible repeat' first|refine aj ?_|refine aE (rV _ _) ?_|refine aF (rV _ _) ?_|simp[cC,eJ,hi,gd,a6,sU,bB]);refine bO.rng () hi (fun k ab=>?_) ?_
     ·rcases(by omega:k<i∨k=i)with h|rfl
      ·exact af k h
      ·rw[ad,aM];cases x;cases y;simp_all
     ·exact bV
    ·rw[gv (fun e=>bB (by rw[e]))];(with_reducible repeat' first|refine aj ?_|refine aE (rV _ _) ?_|refine aF (rV _ _) ?_|simp[cC,eJ,hi,gd,a6,sU,bB]);simp[bu,Vn,aV,aW,aU]
   ·have sU:(x.v !=y.v)=true:=by simp[a6]
    rw[gv (fun e=>a6 (by rw[e]))];exact b6
def iG(l:List (List au))(e:List au):Bool:=l.all fun d=>decide (d=e)|| !mX d e
theorem af2{l aX:List (List au)}(h:∀x,x∈l↔x∈aX)(e:List au):iG l e=iG aX e:=by rw[p4,iG,iG,ir,ir];exact⟨fun J x ad=>J x ((h x).2 ad),fun J x ad=>J x ((h x).1 ad)⟩
def kF(l:List (List au)):List (List au):=(asc ev l).filter (iG l)
theorem zP{l:List (List au)}{x:List au}:x∈kF l↔x∈l∧iG l x=true:=by rw[kF,nk,Ua]
theorem Uh(l:List (List au)):hH ev (kF l):=(HC lz l).filter _
theorem Ui{l aX:List (List au)}(bD:hH ev aX)(hm:∀x,x∈aX↔x∈l∧iG l x=true):kF l=aX:=(Uh l).ext lz bD fun x=>by rw[hm,zP]
structure dU where
 n:Int
 b:List au
 d:List (List au)
 k:List bL
 m:List bg
 deriving DecidableEq,Inhabited
noncomputable def gI(b:List au)(k:List bL)(m:List bg):List (List au)→aY (List (List au))
 |[]=>some []
 |d::r=>match mgu b (hE d)with
  |none=>gI b k m r
  |some x=>if fZ x k []=none∨ga x m []=none then gI b k m r else if gz b x=[]then none else(gI b k m r).map (gz b x:: ·)
def ko(k:List bL)(x:bg):Bool:=kX k x.v !=some 3
noncomputable def nc(s:dU):aY dU:=match fZ s.b s.k []with
 |none=>none
 |some k=>match ga s.b s.m []with
  |none=>none
  |some m=>match gI s.b k (m.filter (ko k)) s.d with
   |none=>none
   |some L=>if(kF L).length≤30 then some ⟨s.n,s.b,kF L,k,m.filter (ko k)⟩else none
def wP(t:T)(n:Int):Prop:= ∀v,t.occ v=true→v<n
def pB(l:List au)(n:Int):Prop:= ∀b∈l,b.v<n∧wP b.t n
structure yk (s:dU):Prop where
 n:0≤s.n∧s.n≤100000
 b:eP s.b
 d:∀x∈s.d,eP x
 k:iU s.k
 m:h8 s.m
 bb:pB s.b s.n
 db:∀x∈s.d,pB x s.n
 kb:∀x∈s.k,x.v<s.n
 mb:∀x∈s.m,x.v<s.n
def Mh(s:dU):Prop:=yk s∧nc s=some s
theorem Az{s:List au}(ag:eP s){v:Int}(aJ:0≤v∧v≤100000):(cz s v).ok=true:=by have:=GJ ag.ok (t:= .var v) (by simpa[T.ok]using aJ);exact this
theorem Gs{s:List au}(ag:eP s):∀{l acc a:List bL},(∀x∈l,(0≤x.v∧x.v≤100000)∧(x.k=2∨x.k=3))→iU acc→fZ s l acc=some a→iU a
 |[],acc,a,_,h,he=>by simp only[fZ,dE]at he;rw[←he];exact h
 |x::r,acc,a,ar,h,he=>by
  simp only[fZ]at he;split at he
  ·rename_i bC ak;have ad:=ar x (by simp);exact Gs ag (fun y aM=>ar y (by simp[aM])) (Hw h (Az ag ad.1) ad.2 ak) he
  ·cases he
theorem Gt{s:List au}(ag:eP s):∀{l acc a:List bg},(∀x∈l,(0≤x.v∧x.v≤100000)∧jv x.s=true)→h8 acc→ga s l acc=some a→h8 a
 |[],acc,a,_,h,he=>by simp only[ga,dE]at he;rw[←he];exact h
 |x::r,acc,a,ar,h,he=>by
  simp only[ga]at he;split at he
  ·rename_i bC ak;have ad:=ar x (by simp);exact Gt ag (fun y aM=>ar y (by simp[aM])) (Hy h (Az ag ad.1) ad.2 ak) he
  ·cases he
def nf(G:List (List dz))(l:List bg):Prop:= ∀x∈l,x.s∈G
theorem Hz{G:List (List dz)}{l aX:List bg}{t:T}{s:List dz}(h:nf G l)(ag:s∈G)(he:lH l t s=some aX):nf G aX:=fun x ad=>by
 rcases(Cz he x).1 ad with J|⟨J,_⟩
 ·exact h x J
 ·rw[J];exact ag
theorem LP{G:List (List dz)}{s:List au}:∀{l acc a:List bg},nf G l→nf G acc→ga s l acc=some a→nf G a
 |[],acc,a,_,h,he=>by simp only[ga,dE]at he;rw[←he];exact h
 |x::r,acc,a,ar,h,he=>by
  simp only[ga]at he;split at he
  ·rename_i bC ak;exact LP (fun y aM=>ar y (by simp[aM])) (Hz h (ar x (by simp)) ak) he
  ·cases he
theorem ajo{α:Type}[DecidableEq α]:∀{G:List α} {l:List (Nat×α)},l.Nodup→(∀x∈l,x.1<100001∧x.2∈G)→l.length≤100001*G.length:=by
 intro G l aA h;have:=M6 aA (l₂:=(List.range 100001).flatMap fun i=>G.map fun g=>(i,g)) (fun x ad=>by obtain⟨J,U⟩:=h x ad;rw[List.mem_flatMap];exact⟨x.1,List.mem_range.2 J,iO.2 ⟨x.2,U,rfl⟩⟩)
 have e:((List.range 100001).flatMap fun i=>G.map fun g=>(i,g)).length=100001*G.length:=by
  generalize 100001=n;induction n with
  |zero=>simp
  |succ n bN=>rw[List.range_succ,List.flatMap_append,oI,bN];simp[Nat.succ_mul]
 omega
theorem Cx{G:List (List dz)}{l:List bg}(h:h8 l)(a8:nf G l):l.length≤100001*G.length:=by
 have J:(l.map fun x=>(x.v.toNat,x.s)).Nodup:=by rw[List.nodup_iff_pairwise_ne,List.pairwise_map];refine anz (fun{a b} bD ae cF e=>cF ?_) (h.asc.nodup lA);have:=(h.at' a bD).1;have:=(h.at' b ae).1;simp only[jj]at e;cases a;cases b;simp only[bg.mk.injEq];simp only at*;exact⟨by omega,e.2⟩
 have:=ajo (G:=G) J fun x ad=>by obtain⟨y,aM,rfl⟩:=iO.1 ad;have:=(h.at' y aM).1;exact⟨by simp;omega,a8 y aM⟩
 simpa using this
def Dk(m:List bg):Prop:= ∃G:List (List dz),G.length≤687000∧nf G m
theorem Dk.len{m:List bg}(h:Dk m)(hm:h8 m):m.length≤68719470000:=by obtain⟨G,J,U⟩:=h;have:=Cx hm U;omega
theorem akQ{s:List au}(h:eP s)(p:au→Bool):eP (s.filter p):=by
 have mT:∀b∈s.filter p,b∈s:=fun b ae=>(nk.1 ae).1;have aA:∀w,df s w=none→df (s.filter p) w=none:=fun w hw=>by rw[uY]at hw⊢;exact fun b ae=>hw b (mT b ae)
 exact⟨fun b ae=>h.ok b (mT b ae),⟨XI p h.sol.asc,fun b ae w hw=>aA w (h.sol.free b (mT b ae) w hw),fun b ae=>h.sol.ori b (mT b ae)⟩,
  j4 (List.length_filter_le _ _) h.fits.1,fun b ae=>h.fits.2 b (mT b ae)⟩
theorem FQ{b x:List au}(h:eP x):eP (gz b x):=akQ h _
theorem ahd{b x:List au}(ae:fD b)(ad:fD x)(aH:hs x)(h:∀aP,gO x aP→gO b aP):iy b (hE (gz b x)) (some x):=by
 refine⟨⟨ad,aH⟩,fun aP=>⟨fun hp=>⟨h aP hp,fun e he=>?_⟩,fun⟨J,U⟩ c aw=>?_⟩⟩
 ·obtain⟨c,aw,rfl⟩:=iO.1 he;exact hp c (nk.1 aw).1
 ·have kg:∀c∈x,df b c.v=none→aP c.v=c.t.ap aP:=fun c aw aA=>by have:=U (.var c.v,c.t) (iO.2 ⟨c,nk.2 ⟨aw,by simp[aA]⟩,rfl⟩);exact this
  have xg:∀w,df b w=none→(cz x w).ap aP=aP w:=fun w hw=>by
   unfold cz;cases e:df x w with
   |none=>rfl
   |some t=>have hm:=jS e;exact(kg _ hm hw).symm
  cases e:df b c.v with
  |none=>exact kg c aw e
  |some t=>
   have ak:aP c.v=t.ap aP:=J _ (jS e);have aC:=h (cz x) (yi ad) _ (jS e);simp only at aC;have bj:cz x c.v=c.t:=by unfold cz;rw[uX ad.asc aw];rfl
   rw[bj]at aC;rw[ak,aC,A4];exact tv fun w hw=>(xg w (ae.free _ (jS e) w hw)).symm
theorem agS{s:List au}(ag:fD s)(aH:hs s){E:List (T×T)}{x:List au}(h:mgu s E=some x):∀aP,gO x aP↔gO s aP∧jn E aP:=by have:=FN ag aH E;rw[h]at this;exact this.2
theorem agP{s:List au}(ag:fD s)(aH:hs s){E:List (T×T)}{x:List au}(h:mgu s E=some x):mgu s (hE (gz s x))=some x:=rG (ahd ag (zO ag aH h).1 (zO ag aH h).2 fun aP hp=>((agS ag aH h aP).1 hp).1)
theorem agR(p:Int→Prop){E:List (T×T)}:∀{s ai:List au},fD s→hs s→(∀b∈s,p b.v∧∀w,b.t.occ w=true→p w)→(∀e∈E,(∀w,e.1.occ w=true→p w)∧∀w,e.2.occ w=true→p w)→mgu s E=some ai→∀b∈ai,p b.v∧∀w,b.t.occ w=true→p w:=by
 induction E with
 |nil=>intro s ai ag aH J _ h;rw[KL ag aH]at h;cases h;exact J
 |cons e E bN=>
  intro s ai ag aH J U h;rw[KK ag aH]at h;split at h
  ·rename_i s1 ak;obtain⟨V,jW⟩:∃V,V=s.flatMap (fun b=>b.v::ni b.t)++ni e.1++ni e.2:=⟨_,rfl⟩;have RF:∀w∈V,p w:=by
    intro w hw;rw[jW]at hw;simp only[jP,List.mem_flatMap,fK]at hw;rcases hw with(⟨b,ae,rfl|hw⟩|hw)|hw
    ·exact(J b ae).1
    ·exact(J b ae).2 w (Dt.1 hw)
    ·exact(U e (by simp)).1 w (Dt.1 hw)
    ·exact(U e (by simp)).2 w (Dt.1 hw)
   obtain⟨n,o,iM,ji,pZ⟩:=WT V _ _ s e.1 e.2 ag aH (fun c aw=>⟨by rw[jW];simp only[jP,List.mem_flatMap];exact .inl (.inl ⟨c,aw,by simp⟩),fun w hw=>by rw[jW];simp only[jP,List.mem_flatMap];exact .inl (.inl ⟨c,aw,by simp[xR hw]⟩)⟩)
    (fun w hw=>by rw[jW];simp only[jP];exact .inl (.inr (xR hw))) (fun w hw=>by rw[jW];simp only[jP];exact .inr (xR hw)) rfl rfl
   have yo:=rG ji;rw[ak]at yo;subst yo;obtain⟨WS,_⟩:=pZ s1 rfl;have o9:=zO ag aH ak;exact bN o9.1 o9.2 (fun b ae=>⟨RF _ (WS b ae).1,fun w hw=>RF w ((WS b ae).2 w hw)⟩) (fun fE he=>U fE (by simp[he])) h
  ·cases h
theorem akX{s:List au}(ag:fD s){v n:Int}(h:cz s v= .var n):df s n=none:=by have:=Mc ag (t:= .var v) (w:=n) (by show(cz s v).occ n=true;rw[h];simp[T.occ]);exact this
theorem Nk{l aX:List bL}{t:T}{k:Int}(h:j5 l t k=some aX):∀x∈aX,x∈l∨t= .var x.v:=by
 unfold j5 at h;split at h
 ·rename_i n;split at h
  ·split at h
   ·cases h;exact fun x ad=>.inl ad
   ·cases h
  ·cases h;intro x ad;rcases FL.1 ad with rfl|ad
   ·exact .inr rfl
   ·exact .inl ad
 ·split at h
  ·cases h;exact fun x ad=>.inl ad
  ·cases h
theorem VR{s:List au}(ag:fD s):∀{l acc a:List bL},(∀x∈acc,df s x.v=none)→fZ s l acc=some a→∀x∈a,df s x.v=none
 |[],acc,a,h,he=>by simp only[fZ,dE]at he;rw[←he];exact h
 |y::r,acc,a,h,he=>by
  simp only[fZ]at he;split at he
  ·rename_i bC ak;refine VR ag (fun x ad=>?_) he;rcases Nk ak x ad with J|J
   ·exact h x J
   ·exact akX ag J
  ·cases he
theorem S3{x:bL}:∀{l:List bL},(∀y∈l,y.v<x.v)→lu x l=l++[x]
 |[],_=>rfl
 |y::l,h=>by simp only[lu,if_pos (h y (by simp)),S3 (l:=l) fun z bE=>h z (by simp[bE]),bP]
theorem VS{s:List au}:∀{l acc:List bL},(acc++l).Pairwise (fun x y=>x.v<y.v)→(∀x∈l,df s x.v=none)→fZ s l acc=some (acc++l)
 |[],acc,_,_=>by simp[fZ]
 |x::r,acc,bD,aH=>by
  have J:∀y∈acc,y.v<x.v:=fun y aM=>(List.pairwise_append.1 bD).2.2 y aM x (by simp);have U:kX acc x.v=none:=xI.2 fun y aM=>by have:=J y aM;omega
  have ao:j5 acc (cz s x.v) x.k=some (acc++[x]):=by rw[Ay (aH x (by simp))];simp only[j5,U];rw[S3 J]
  simp only[fZ,ao];rw[VS (by simpa using bD) fun y aM=>aH y (by simp[aM])];simp
theorem VU{s:List au}(ag:fD s):∀{l acc a:List bg},(∀x∈acc,df s x.v=none)→ga s l acc=some a→∀x∈a,df s x.v=none
 |[],acc,a,h,he=>by simp only[ga,dE]at he;rw[←he];exact h
 |y::r,acc,a,h,he=>by
  simp only[ga]at he;split at he
  ·rename_i bC ak;refine VU ag (fun x ad=>?_) he;rcases(Cz ak x).1 ad with J|⟨_,J⟩
   ·exact h x J
   ·exact Mc ag (t:= .var y.v) J
  ·cases he
theorem VV{s:List au}:∀{l acc:List bg},hH fa (acc++l)→(∀x∈l,df s x.v=none)→ga s l acc=some (acc++l)
 |[],acc,_,_=>by simp[ga]
 |x::r,acc,bD,aH=>by
  have ao:lH acc (cz s x.v) x.s=some (acc++[x]):=by
   rw[Ay (aH x (by simp))];refine Hx rfl (as6 ?_ bD) fun z=>?_
   ·simp
   ·simp only[jP,List.mem_singleton,T.occ,dL];refine or_congr_right ⟨fun h=>by rw[h];exact⟨rfl,rfl⟩,fun⟨J,U⟩=>?_⟩;cases z;cases x;simp_all
  simp only[ga,ao];rw[VV (by simpa using bD) fun y aM=>aH y (by simp[aM])];simp
def Dj(b:List au)(k:List bL)(m:List bg)(d:List au):Prop:= ∃x,mgu b (hE d)=some x∧¬(fZ x k []=none∨ga x m []=none)∧gz b x=d∧d≠[]
theorem FC{b:List au}(ae:eP b){k:List bL}{m:List bg}:∀{l L:List (List au)},gI b k m l=some L→∀d∈L,Dj b k m d
 |[],L,h=>by simp only[gI,dE]at h;rw[←h];simp
 |d0::r,L,h=>by
  simp only[gI]at h;split at h
  ·exact FC ae h
  ·rename_i x ad;split at h
   ·exact FC ae h
   ·rename_i ab;split at h
    ·cases h
    ·rename_i aA;rw[gN]at h;obtain⟨Nd,J,rfl⟩:=h;intro d aR;rcases fK.1 aR with rfl|aR
     ·exact⟨x,agP ae.sol ae.fits ad,ab,rfl,aA⟩
     ·exact FC ae J d aR
theorem TP{b:List au}{k:List bL}{m:List bg}:∀{L:List (List au)},(∀d∈L,Dj b k m d)→gI b k m L=some L
 |[],_=>rfl
 |d::L,h=>by obtain⟨x,J,U,ao,a7⟩:=h d (by simp);simp only[gI,J,if_neg U,ao,if_neg a7,TP (L:=L) fun e he=>h e (by simp[he]),nS]
theorem FB{b:List au}(ae:eP b){k:List bL}{m:List bg}:∀{l L:List (List au)},(∀d∈l,eP d)→gI b k m l=some L→∀d∈L,eP d
 |[],L,_,h=>by simp only[gI,dE]at h;rw[←h];simp
 |d0::r,L,ar,h=>by
  simp only[gI]at h;split at h
  ·exact FB ae (fun d aR=>ar d (by simp[aR])) h
  ·rename_i x ad;split at h
   ·exact FB ae (fun d aR=>ar d (by simp[aR])) h
   ·split at h
    ·cases h
    ·rw[gN]at h;obtain⟨Nd,J,rfl⟩:=h;intro d aR;rcases fK.1 aR with rfl|aR
     ·exact FQ (ae.mgu (fun e he=>by obtain⟨c,aw,rfl⟩:=iO.1 he;have:=(ar d0 (by simp)).ok c aw;exact⟨by simpa[T.ok]using this.1,this.2⟩) ad)
     ·exact FB ae (fun d aR=>ar d (by simp[aR])) J d aR
theorem FA{b:List au}(ae:eP b){n:Int}(aA:pB b n){k:List bL}{m:List bg}:∀{l L:List (List au)},(∀d∈l,pB d n)→gI b k m l=some L→∀d∈L,pB d n
 |[],L,_,h=>by simp only[gI,dE]at h;rw[←h];simp
 |d0::r,L,ar,h=>by
  simp only[gI]at h;split at h
  ·exact FA ae aA (fun d aR=>ar d (by simp[aR])) h
  ·rename_i x ad;split at h
   ·exact FA ae aA (fun d aR=>ar d (by simp[aR])) h
   ·split at h
    ·cases h
    ·rw[gN]at h;obtain⟨Nd,J,rfl⟩:=h;intro d aR;rcases fK.1 aR with rfl|aR
     ·have:=agR (fun v=>v<n) ae.sol ae.fits aA (fun e he=>by obtain⟨c,aw,rfl⟩:=iO.1 he;have:=ar d0 (by simp) c aw;exact⟨fun w hw=>by simp[T.occ]at hw;subst hw;exact this.1,this.2⟩) ad
      exact fun c aw=>this c (nk.1 aw).1
     ·exact FA ae aA (fun d aR=>ar d (by simp[aR])) J d aR
theorem agV{L:List (List au)}:kF (kF L)=kF L:=Ui (Uh L) fun x=>by rw[zP,and_assoc];refine⟨fun⟨J,U⟩=>⟨J,U,?_⟩,fun⟨J,U,_⟩=>⟨J,U⟩⟩;rw[iG,ir]at U⊢;exact fun d aR=>U d (zP.1 aR).1
theorem Tj{b:List au}(ae:eP b){n:Int}(aA:pB b n){v w:Int}(aJ:v<n)(h:(cz b v).occ w=true):w<n:=by
 unfold cz at h;cases e:df b v with
 |none=>rw[e]at h;simp[T.occ]at h;omega
 |some t=>rw[e]at h;exact(aA _ (jS e)).2 w h
theorem VQ{b:List au}(ae:eP b){n:Int}(aA:pB b n):∀{l acc a:List bL},(∀x∈l,x.v<n)→(∀x∈acc,x.v<n)→fZ b l acc=some a→∀x∈a,x.v<n
 |[],acc,a,_,h,he=>by simp only[fZ,dE]at he;rw[←he];exact h
 |y::r,acc,a,ar,h,he=>by
  simp only[fZ]at he;split at he
  ·rename_i bC ak;refine VQ ae aA (fun x ad=>ar x (by simp[ad])) (fun x ad=>?_) he;rcases Nk ak x ad with J|J
   ·exact h x J
   ·exact Tj ae aA (ar y (by simp)) (by rw[J];simp[T.occ])
  ·cases he
theorem VT{b:List au}(ae:eP b){n:Int}(aA:pB b n):∀{l acc a:List bg},(∀x∈l,x.v<n)→(∀x∈acc,x.v<n)→ga b l acc=some a→∀x∈a,x.v<n
 |[],acc,a,_,h,he=>by simp only[ga,dE]at he;rw[←he];exact h
 |y::r,acc,a,ar,h,he=>by
  simp only[ga]at he;split at he
  ·rename_i bC ak;refine VT ae aA (fun x ad=>ar x (by simp[ad])) (fun x ad=>?_) he;rcases(Cz ak x).1 ad with J|⟨_,J⟩
   ·exact h x J
   ·exact Tj ae aA (ar y (by simp)) J
  ·cases he
theorem akU{s ai:dU}(h:yk s)(he:nc s=some ai):Mh ai∧ai.n=s.n∧ai.b=s.b:=by
 unfold nc at he;split at he
 ·cases he
 rename_i k ab;split at he
 ·cases he
 rename_i m hm;split at he
 ·cases he
 rename_i L jo;split at he;rotate_left
 ·cases he
 rename_i lf;cases he;have aZ:=Gs h.b h.k.at' ⟨by simp,by simp⟩ ab;have m1:=Gt h.b h.m.at' ⟨by simp,by simp[hH]⟩ hm;have m2:h8 (m.filter (ko k)):=⟨fun x ad=>m1.at' x (nk.1 ad).1,XI _ m1.asc⟩;have cO:=FC h.b jo;have xx:=FB h.b h.d jo;refine⟨⟨⟨h.n,h.b,fun x ad=>xx x (zP.1 ad).1,aZ,m2,h.bb,fun x ad=>FA h.b h.bb h.db jo x (zP.1 ad).1,VQ h.b h.bb h.kb (by simp) ab,fun x ad=>VT h.b h.bb h.mb (by simp) hm x (nk.1 ad).1⟩,?_⟩,rfl,rfl⟩;unfold nc;have ak:fZ s.b k []=some k:=VS (acc:=[]) aZ.asc (VR h.b.sol (by simp) ab);have aC:ga s.b (m.filter (ko k)) []=some (m.filter (ko k)):=VV (acc:=[]) m2.asc fun x ad=>VU h.b.sol (by simp) hm x (nk.1 ad).1;have bj:(m.filter (ko k)).filter (ko k)=m.filter (ko k):=by rw[List.filter_filter];simp
 have dd:gI s.b k (m.filter (ko k)) (kF L)=some (kF L):=TP fun d aR=>cO d (zP.1 aR).1;simp only[ak,aC,bj,dd,agV,if_pos lf]
theorem sM{α:Type}{s:List α}{i:Nat}{t:α}(h:s[i]? =some t):s.drop i=t::s.drop (i+1):=by obtain⟨hi,e⟩:=fw.1 h;rw[k5 hi,e]
def pU(L:List (List au))(a:List (List au))(e:List au):List (List au):=if iG L e=true then jY ev e a else a
theorem KM{L:List (List au)}:∀(xs:List (List au)) {a:List (List au)},hH ev a→hH ev (xs.foldl (pU L) a)
 |[],_,h=>h
 |x::xs,a,h=>KM xs (a:=pU L a x) (by unfold pU;split<;>first|exact J2 lz h|exact h)
theorem Uk{L:List (List au)}{x:List au}:∀(xs:List (List au)) {a:List (List au)},x∈xs.foldl (pU L) a↔x∈a∨(x∈xs∧iG L x=true)
 |[],a=>by simp
 |y::xs,a=>by
  rw[List.foldl_cons,Uk xs,fK];unfold pU;by_cases ab:iG L y=true
  ·rw[if_pos ab,FK lz];constructor
   ·rintro((rfl|h)|h)
    ·exact .inr ⟨.inl rfl,ab⟩
    ·exact .inl h
    ·exact .inr ⟨.inr h.1,h.2⟩
   ·rintro(h|⟨rfl|J,U⟩)
    ·exact .inl (.inr h)
    ·exact .inl (.inl rfl)
    ·exact .inr ⟨J,U⟩
  ·rw[if_neg ab];constructor
   ·rintro(h|h)
    ·exact .inl h
    ·exact .inr ⟨.inr h.1,h.2⟩
   ·rintro(h|⟨rfl|J,U⟩)
    ·exact .inl h
    ·exact absurd U ab
    ·exact .inr ⟨J,U⟩
theorem Uj{L:List (List au)}:∀(xs a:List (List au)),(xs.foldl (pU L) a).length≤a.length+xs.length
 |[],a=>by simp
 |y::xs,a=>by
  have J:=Uj (L:=L) xs (pU L a y);have U:(pU L a y).length≤a.length+1:=by
   unfold pU;split
   ·exact J4 _ _
   ·omega
  simp only[List.foldl_cons,oJ];omega
theorem agX(L:List (List au)):kF L=L.foldl (pU L) []:=Ui (KM L (by simp[hH])) fun x=>by rw[Uk];simp
def xG(L:List (List au))(i:Nat)(a:List (List au)):Prop:=a=(L.take i).foldl (pU L) []
theorem xG.step{L:List (List au)}{i:Nat}{a:List (List au)}(h:xG L i a){e:List au}(he:L[i]? =some e):xG L (i+1) (pU L a e):=by rw[xG,qK he,List.foldl_append,h];rfl
def vK(e d:List au):Bool:=decide (d=e)|| !mX d e
def pO(L:List (List au))(e:List au)(j:Nat)(k:Bool):Prop:=k=(L.take j).all (vK e)
theorem pO.step{L:List (List au)}{e:List au}{j:Nat}{k:Bool}(h:pO L e j k){d:List au}(aR:L[j]? =some d):pO L e (j+1) (k&&vK e d):=by rw[pO,qK aR,List.all_append,h];simp
def Fj(a:List (List au))(e:List au)(k:Nat):Prop:=k≤a.length∧∀c,a[k]? =some c→0≤ev c e
theorem Fj.fin{a:List (List au)}{e:List au}{k:Nat}(h:Fj a e k)(bD:hH ev a)(aw:∀d,0<k→a[k-1]? =some d→ev d e<0):jY ev e a=if(match a[k]? with|some y=>decide (ev y e=0)|none=>false)=true then a else a.take k++e::a.drop k:=
 (J3 lz e a k (fun i c hi jE=>by
  have ab:=h.1;obtain⟨d,aR⟩:∃d,a[k-1]? =some d:=⟨_,cf (by omega)⟩;have J:=aw d (by omega) aR;rcases Nat.lt_or_ge i (k-1)with U|U
  ·have sx:=(fw.1 jE);have l9:=(fw.1 aR);have:=pt.1 bD i (k-1) sx.1 l9.1 U;rw[sx.2,l9.2]at this;exact lz.ltr this (by omega)
  ·have:i=k-1:=by omega
   subst this;rw[aR]at jE;cases jE;exact J) h.2 h.1).trans (by cases a[k]?<;>rfl)
theorem Tm(L:List (List au))(e:List au):iG L e=L.all (vK e):=rfl
theorem Wp{l:List (List au)}{x:List au}:x∈oz ev l↔x∈l:=(yj ev l).mem_iff
theorem agW(l:List (List au)):kF l=(cG none (oz ev l)).filter (iG (oz ev l)):=by have h:iG l=iG (oz ev l):=funext fun e=>af2 (fun x=>Wp.symm) e;rw[kF,h];rfl
def mj(s:List (List au))(i:Nat)(acc:List (List au)):Prop:=acc++(cG (if i=0 then none else s[i-1]?) (s.drop i)).filter (iG s)=(cG none s).filter (iG s)
def qO:dU:=⟨0,[],[],[],[]⟩
noncomputable def Ax(s:dU):dU:=match fZ s.b s.k []with
 |none=>qO
 |some k=>match ga s.b s.m []with
  |none=>qO
  |some m=>match gI s.b k (m.filter (ko k)) s.d with
   |none=>qO
   |some L=>⟨s.n,s.b,kF L,k,m.filter (ko k)⟩
theorem akV{s ai:dU}(h:nc s=some ai):Ax s=ai:=by
 unfold nc at h;unfold Ax;cases J:fZ s.b s.k []with
 |none=>rw[J]at h;cases h
 |some k=>
  rw[J]at h;simp only at h⊢;cases U:ga s.b s.m []with
  |none=>rw[U]at h;cases h
  |some m=>
   rw[U]at h;simp only at h⊢;cases ao:gI s.b k (m.filter (ko k)) s.d with
   |none=>rw[ao]at h;cases h
   |some L=>
    rw[ao]at h;simp only at h⊢;split at h
    ·cases h;rfl
    ·cases h
theorem Yc{k:List bL}(ab:iU k)(v:Int):(j5 k (.var v) 2).isSome=(kX k v !=some 3):=by
 unfold j5;simp only;cases h:kX k v with
 |none=>simp
 |some x=>have:=(ab.at' _ (Tt h)).2;simp only at this;rcases this with rfl|rfl<;>simp
theorem Yi{k:List bL}(bD:k.Pairwise fun x y=>x.v<y.v)(v:Int):(k.any fun x=>x.v==v&&x.k==3)=(kX k v==some 3):=by
 rw[p4,List.any_eq_true,dL];constructor
 ·rintro⟨x,ad,h⟩;simp only[cA,dL]at h;have:=Ft bD ad;rw[h.1,h.2]at this;exact this
 ·intro h;exact⟨_,Tt h,by simp⟩
theorem Kp{b:List au}{k:List bL}{m:List bg}{d:List au}{r:List (List au)}(h:mgu b (hE d)=none):gI b k m (d::r)=gI b k m r:=by rw[gI,h]
theorem Ko{b:List au}{k:List bL}{m:List bg}{d x:List au}{r:List (List au)}(h:mgu b (hE d)=some x)(ab:fZ x k []=none∨ga x m []=none):gI b k m (d::r)=gI b k m r:=by rw[gI,h];simp only[if_pos ab]
theorem Kn{b:List au}{k:List bL}{m:List bg}{d x:List au}{r:List (List au)}(h:mgu b (hE d)=some x)(ab:¬(fZ x k []=none∨ga x m []=none))(aA:gz b x=[]):gI b k m (d::r)=none:=by rw[gI,h];simp only[if_neg ab,if_pos aA]
theorem Kq{b:List au}{k:List bL}{m:List bg}{d x:List au}{r:List (List au)}(h:mgu b (hE d)=some x)(ab:¬(fZ x k []=none∨ga x m []=none))(aA:gz b x≠[]):gI b k m (d::r)=(gI b k m r).map (gz b x:: ·):=by rw[gI,h];simp only[if_neg ab,if_neg aA]
def pP(b:List au)(k:List bL)(m:List bg)(D:List (List au))(i:Nat)(a:List (List au)):Prop:=a.length≤i∧(∀x∈a,eP x)∧(gI b k m (D.drop i)).map (a++ ·)=gI b k m D
def iA(n:Int):T→Bool
 | .var v=>decide (v<n)
 | .pair a b=>iA n a&&iA n b
 |_=>true
theorem HI{n:Int}:∀{t:T},iA n t=true↔wP t n
 | .var v=>by simp[iA,wP,T.occ]
 | .pair a b=>by simp only[iA,cA,HI (t:=a),HI (t:=b),wP,T.occ,lF];exact⟨fun h v aJ=>aJ.elim (h.1 v) (h.2 v),fun h=>⟨fun v aJ=>h v (.inl aJ),fun v aJ=>h v (.inr aJ)⟩⟩
 | .nil=>by simp[iA,wP,T.occ]
 | .sym _=>by simp[iA,wP,T.occ]
 | .num _=>by simp[iA,wP,T.occ]
def kA(n:Int)(b:au):Bool:=decide (b.v<n)&&iA n b.t
theorem uZ{n:Int}{s:List au}:s.all (kA n)=true↔pB s n:=by simp[ir,kA,pB,HI]
def rW(v m:Int):Int:=if m<v+1 then v+1 else m
theorem MU{n:Int}:∀(t:T) (m:Int),t.fold rW m≤n↔m≤n∧iA n t=true
 | .var v,m=>by simp only[T.fold,rW,iA,fm];split<;>omega
 | .pair a b,m=>by simp only[T.fold,MU b,MU a,iA,cA,and_assoc]
 | .nil,m=>by simp[T.fold,iA]
 | .sym _,m=>by simp[T.fold,iA]
 | .num _,m=>by simp[T.fold,iA]
def Dv(v m:Int):aY Int:=if 0≤v∧v≤100000 then some (rW v m)else none
theorem MT:∀(t:T) (m:Int),t.ok=true→t.foldO Dv m=some (t.fold rW m)
 | .var v,m,h=>by
  have:0≤v∧v≤100000:=by simpa[T.ok]using h
  simp[T.foldO,T.fold,Dv,this]
 | .pair a b,m,h=>by
  have J:a.ok=true∧b.ok=true:=by simpa[T.ok]using h
  simp[T.foldO,T.fold,MT a m J.1,MT b _ J.2]
 | .nil,m,_=>rfl
 | .sym _,m,_=>rfl
 | .num _,m,_=>rfl
structure hV where
 n:Int
 b:List cX
 d:List (List cX)
 k:List bL
 m:List bg
def dU.r(s:dU):hV:=⟨s.n,s.b.map au.b,s.d.map fun x=>x.map au.b,s.k,s.m⟩
def rQ(r:hV):Prop:= ∃s:dU,r=s.r∧Mh s
def jU(n:Int)(x:List cX):Prop:= ∃s:List au,x=s.map au.b∧eP s∧pB s n
structure LN (r:hV):Prop where
 n:0≤r.n∧r.n≤100000
 b:jU r.n r.b
 d:∀x∈r.d,jU r.n x
 k:iU r.k
 m:h8 r.m
 kb:∀x∈r.k,x.v<r.n
 mb:∀x∈r.m,x.v<r.n
theorem rQ.raw{r:hV}(h:rQ r):LN r:=by obtain⟨s,rfl,J,_⟩:=h;exact⟨J.n,⟨s.b,rfl,J.b,J.bb⟩,fun x ad=>by obtain⟨y,aM,rfl⟩:=iO.1 ad;exact⟨y,rfl,J.d y aM,J.db y aM⟩,J.k,J.m,J.kb,J.mb⟩
theorem uW:∀{a b:List au},a.map au.b=b.map au.b→a=b
 |[],b,h=>by cases b<;>simp at h⊢
 |x::a,[],h=>by simp at h
 |x::a,y::b,h=>by simp only[gM,nQ,au.b,cX.mk.injEq]at h;rw[uW h.2];have:=MA h.1.2;obtain⟨⟨J,_⟩,_⟩:=h;cases x;cases y;simp_all
theorem NH:∀{a b:List (List au)},(a.map fun x=>x.map au.b)=(b.map fun x=>x.map au.b)→a=b
 |[],b,h=>by cases b<;>simp at h⊢
 |x::a,[],h=>by simp at h
 |x::a,y::b,h=>by rw[gM,gM,nQ]at h;rw[NH h.2,uW h.1]
theorem dU.r_inj{s t:dU}(h:s.r=t.r):s=t:=by obtain⟨n,b,d,k,m⟩:=s;obtain⟨n',b2,b9,bM,hq⟩:=t;simp only[dU.r,hV.mk.injEq]at h;obtain⟨J,U,ao,a7,bZ⟩:=h;rw[J,uW U,NH ao,a7,bZ]
theorem Qm{n:Int}:∀{d:List (List cX)},(∀x∈d,jU n x)→∃D:List (List au),d=(D.map fun x=>x.map au.b)∧(∀x∈D,eP x)∧∀x∈D,pB x n
 |[],_=>⟨[],rfl,by simp,by simp⟩
 |x::d,h=>by
  obtain⟨D,J,U,ao⟩:=Qm (d:=d) fun y aM=>h y (by simp[aM]);obtain⟨s,ak,aC,bj⟩:=h x (by simp);refine⟨s::D,by rw[J,ak];rfl,fun y aM=>?_,fun y aM=>?_⟩
  ·rcases fK.1 aM with rfl|aM
   ·exact aC
   ·exact U y aM
  ·rcases fK.1 aM with rfl|aM
   ·exact bj
   ·exact ao y aM
theorem Wr{s:dU}(h:yk s):rQ s.r↔nc s=some s:=by
 constructor
 ·rintro⟨t,e,_,U⟩;rw[dU.r_inj e];exact U
 ·intro U;exact⟨s,rfl,h,U⟩
theorem wj{l:List cX}:Hs l↔∃s:List au,l=s.map au.b∧eP s:=⟨fun⟨s,J,U,ao,a7⟩=>⟨s,J,U,ao,a7⟩,fun⟨s,J,U⟩=>⟨s,J,U.ok,U.sol,U.fits⟩⟩
def qX{α:Type}(a b:List α)(i:Nat)(_:Unit):Prop:= ∀k,k<i→a[k]? =b[k]?
theorem qX.fin{α:Type}{a b:List α}(h:qX a b b.length ())(ar:a.length=b.length):a=b:=by
 apply List.ext_getElem?;intro k;by_cases ab:k<b.length
 ·exact h k ab
 ·rw[p5 (by omega),p5 (by omega)]
theorem qX.step{α:Type}{a b:List α}{i:Nat}(h:qX a b i ()){x:α}(bD:a[i]? =some x)(ae:b[i]? =some x):qX a b (i+1) ():=fun k ab=>by
 rcases(by omega:k<i∨k=i)with J|rfl
 ·exact h k J
 ·rw[bD,ae]
def rA{α:Type}(p:α→Prop)(s:List α)(i:Nat)(_:Unit):Prop:= ∀k b,k<i→s[k]? =some b→p b
theorem rA.step{α:Type}{p:α→Prop}{s:List α}{i:Nat}(h:rA p s i ()){b:α}(ae:s[i]? =some b)(bH:p b):rA p s (i+1) ():=fun k c ab aw=>by
 rcases(by omega:k<i∨k=i)with J|rfl
 ·exact h k c J aw
 ·rw[ae]at aw;cases aw;exact bH
theorem rA.fin{α:Type}{p:α→Prop}{s:List α}(h:rA p s s.length ()):∀b∈s,p b:=fun b ae=>by obtain⟨k,ab,e⟩:=nj ae;exact h k b ab (by rw[cf ab,e])
def qf:C:=(aa [cM 6 2,ez 8 2,bf 9 false] (.seq (aa [I 15 0,cQ 16 55 15,cx 17 16,I 18 17,aq 18 false (be 19 4 6),aq 18 false (cQ 20 117 19),aq 18 false (cx 21 20),dc 22 18 21,I 23 22,b4 23 false 24 1,aq 23 false (cQ 25 56 24),aq 23 false (cx 26 25),dc 27 23 26,I 28 27,b4 28 false 29 3,aq 28 false (aS 30 .neq 29 2),b4 28 false 31 30,b4 31 true 32 3,aq 31 true (aS 33 .neq 32 3),aq 28 false (dK 34 31 33),dc 35 28 34] (aT 35 (aa [ez 8 2,bf 9 false] .ret) .skip)) (aa [I 37 0,be 38 4 6,cd 39 95 37 38,I 36 39,c2 40 0 36,c2 41 1 36,dH 10 dS,bW 4 10 40,I 11 41] (.seq (aa [I 42 11,cx 43 42] (aT 43 (aa [ez 8 2,bf 9 false] .ret) .skip)) (aa [cK (.bslm 44 (some 803) 2 104 []),I 45 1,cK (.appm 46 none 2 104 (.t 44) (.t 45)),cK (.alloc 12 (some 804) (.slice 2 .nil [])),bW 1 12 46] (.seq (aa [aI 47 0 1 10,ax 48 1 47,aS 49 .neq 48 1] (aT 49 (.seq (aa [aI 50 0 1 10,ax 51 1 50,I 52 3,bk 53 .neq 51 52] (aT 53 (aa [ez 8 2,bf 9 false] .ret) .skip)) (.seq (.pubB 12 (.region [ax 54 1 12,I 8 54,bf 9 true])) .ret)) .skip)) (.seq (aa [I 55 1,cb 56 55,bQ 57 0] (e4 58 57 56 (.seq (.block 1 (aa [cp 59 2 55 57,be 60 2 59,cK (.alloc 14 none (.agg [.int .i64 0,.int .i64 0])),bW 2 14 60] (aa [aI 61 0 1 14,ax 62 1 61,aI 63 1 1 10,ax 64 1 63,bk 65 .eql 62 64] (aT 65 (.seq (aa [aI 66 1 1 14,ax 67 1 66,I 68 3,bk 69 .neq 67 68] (aT 69 (aa [ez 8 2,bf 9 false] .ret) .skip)) (.seq (.pubB 12 (.region [ax 70 1 12,I 8 70,bf 9 true])) .ret)) .skip)))) (.region [aS 71 .add 57 1,I 57 71])))) (aa [ax 72 1 12,aI 73 1 1 10,ax 74 1 73,I 75 3,b1 76 (.build [.int .i64 0,.int .i64 0] [(0,1,(.t 74)),(1,1,(.t 75))]),fk 77 2 104 [.t 76],cK (.appm 78 none 2 104 (.t 72) (.t 77)),bW 1 12 78] (aa [ax 79 1 12,b1 80 (.mkif 25 (.t 79)),b1 81 (.mkf 127 [.t 12]),cd 82 126 80 81] (.seq (.pubB 12 (.region [ax 83 1 12,I 8 83,bf 9 true])) .ret))))))))))
@[simp] def jK:List bt:=[.tmp 8,.tmp 9]
def DW:C:=(aa [cM 6 2,cK (.box 7 (some 811) (.t 3)),ez 8 2,bf 9 false] (.seq (aa [I 17 0,cQ 18 55 17,cx 19 18,I 20 19,aq 20 false (be 21 4 6),aq 20 false (cQ 22 117 21),aq 20 false (cx 23 22),dc 24 20 23,I 25 24,b4 25 false 26 1,aq 25 false (cQ 27 57 26),aq 25 false (cx 28 27),dc 29 25 28,I 30 29,aq 30 false (ax 31 1 7),aq 30 false (cQ 32 128 31),aq 30 false (cx 33 32),dc 34 30 33] (aT 34 (aa [ez 8 2,bf 9 false] .ret) .skip)) (aa [I 36 0,be 37 4 6,cd 38 95 36 37,I 35 38,c2 39 0 35,c2 40 1 35,dH 10 dS,bW 4 10 39,I 11 40] (.seq (aa [I 41 11,cx 42 41,I 43 42,aq 43 false (be 44 4 10),aq 43 false (ax 45 1 7),aq 43 false (cd 46 109 44 45),dc 47 43 46] (aT 47 (aa [ez 8 2,bf 9 false] .ret) .skip)) (aa [cK (.mkmap 48 (some 812)),cK (.alloc 12 (some 813) (.junk)),bW 1 12 48] (.seq (aa [I 49 1,cb 50 49,bQ 51 0] (e4 52 51 50 (.seq (.block 1 (aa [cp 53 2 49 51,be 54 2 53,cK (.alloc 14 none (.agg [.int .i64 0,.str []])),bW 2 14 54] (.region [ax 55 1 12,be 56 2 14,cK (.mput (.a [false,true]) (.t 55) (.t 56) (.c (.bool true)))]))) (.region [aS 57 .add 51 1,I 51 57])))) (aa [be 58 4 10,b1 59 (.mkf 130 [.t 12,.t 7]),cd 60 129 58 59] (aa [cK (.bslm 61 (some 814) 2 106 []),cK (.alloc 15 (some 815) (.slice 2 .nil [])),bW 1 15 61] (.seq (aa [ax 62 1 12,cK (.range 63 none (.t 62))] (.block 2 (.loop (aa [⟨none,.next 64 (.t 63)⟩,c2 65 0 64] (.seq (aT 65 .skip (.exit 2)) (.block 3 (aa [b1 66 (.ment (.t 63)),c2 67 0 66,cK (.alloc 16 none (.agg [.int .i64 0,.str []])),bW 2 16 67] (.region [ax 68 1 15,be 69 2 16,fk 70 2 106 [.t 69],cK (.appm 71 none 2 106 (.t 68) (.t 70)),bW 1 15 71])))))))) (aa [ax 72 1 15,b1 73 (.mkif 26 (.t 72)),b1 74 (.mkf 131 [.t 15]),cd 75 126 73 74] (.seq (.pubB 15 (.region [ax 76 1 15,I 8 76,bf 9 true])) .ret)))))))))))
@[simp] def Ga:List bt:=[.tmp 8,.tmp 9]
def N3:C:=(aa [bf 2 false] (.seq (aa [I 5 0,cb 6 5,bQ 7 0] (e4 8 7 6 (.seq (.block 1 (aa [I 9 7,cp 10 2 5 7,be 11 2 10,cK (.alloc 4 none (.agg [.int .i64 0,.int .i64 0])),I 3 9,bW 2 4 11] (.seq (.drawn true 46 [aI 12 0 1 4,ax 13 1 12,aS 14 .lss 13 0,I 15 14,aq 15 false (aI 16 0 1 4),aq 15 false (ax 17 1 16),aq 15 false (aS 18 .gtr 17 100000),dc 19 15 18,I 20 19,aq 20 false (aI 21 1 1 4),aq 20 false (ax 22 1 21),aq 20 false (aS 23 .neq 22 2),b4 20 false 24 23,aq 24 true (aI 25 1 1 4),aq 24 true (ax 26 1 25),aq 24 true (aS 27 .neq 26 3),aq 20 false (dK 28 24 27),dc 29 20 28,I 30 29,b4 30 false 31 3,aq 30 false (aS 32 .gtr 31 0),b4 30 false 33 32,b4 33 true 34 0,b4 33 true 35 3,aq 33 true (aS 36 .sub 35 1),aq 33 true (cp 37 2 34 36),aq 33 true (aI 38 0 1 37),aq 33 true (ax 39 1 38),aq 33 true (aI 40 0 1 4),aq 33 true (ax 41 1 40),aq 33 true (bk 42 .geq 39 41),aq 30 false (dK 43 33 42),dc 44 30 43]) (aT 44 (aa [bf 2 false] .ret) .skip)))) (.region [aS 45 .add 7 1,I 7 45])))) (aa [bf 2 true] .ret)))
@[simp] def Vd:List bt:=[.tmp 2]
def N4:C:=(aa [bf 2 false] (.seq (aa [I 5 0,cb 6 5,bQ 7 0] (e4 8 7 6 (.seq (.block 1 (aa [I 9 7,cp 10 2 5 7,be 11 2 10,cK (.alloc 4 none (.agg [.int .i64 0,.str []])),I 3 9,bW 2 4 11] (.seq (.drawn true 41 [aI 12 0 1 4,ax 13 1 12,aS 14 .lss 13 0,I 15 14,aq 15 false (aI 16 0 1 4),aq 15 false (ax 17 1 16),aq 15 false (aS 18 .gtr 17 100000),dc 19 15 18,I 20 19,aq 20 false (aI 21 1 1 4),aq 20 false (ax 22 1 21),aq 20 false (cQ 23 128 22),aq 20 false (cx 24 23),dc 25 20 24,I 26 25,b4 26 false 27 3,aq 26 false (aS 28 .gtr 27 0),b4 26 false 29 28,b4 29 true 30 0,b4 29 true 31 3,aq 29 true (aS 32 .sub 31 1),aq 29 true (cp 33 2 30 32),aq 29 true (be 34 2 33),aq 29 true (be 35 2 4),aq 29 true (cd 36 132 34 35),aq 29 true (cx 37 36),aq 26 false (dK 38 29 37),dc 39 26 38]) (aT 39 (aa [bf 2 false] .ret) .skip)))) (.region [aS 40 .add 7 1,I 7 40])))) (aa [bf 2 true] .ret)))
@[simp] def Lm:List bt:=[.tmp 2]
def DZ:C:=(aa [cM 2 0,bf 4 false] (.seq (aa [aI 5 0 1 2,ax 6 1 5,aS 7 .eql 6 4] (aT 7 (aa [aI 8 3 1 2,ax 9 1 8,jC 10 4 9 0,be 11 4 10,I 12 1,cd 13 109 11 12,I 14 13,aq 14 false (aI 15 3 1 2),aq 14 false (ax 16 1 15),aq 14 false (jC 17 4 16 1),aq 14 false (be 18 4 17),b4 14 false 19 1,aq 14 false (cd 20 109 18 19),dc 21 14 20,I 4 21] .ret) .skip)) (aa [aI 22 0 1 2,ax 23 1 22,aS 24 .eql 23 2,I 25 24,aq 25 true (aI 26 2 1 2),aq 25 true (ax 27 1 26),b4 25 true 28 1,aq 25 true (bk 29 .eql 27 28),dK 30 25 29,I 4 30] .ret)))
@[simp] def Gg:List bt:=[.tmp 4]
def NY:C:=(aa [bf 5 false] (.seq (.drawn true 17 [ax 6 1 2,I 7 0,cp 8 2 6 7,aI 9 0 1 8,ax 10 1 9,ax 11 1 2,I 12 1,cp 13 2 11 12,aI 14 0 1 13,ax 15 1 14,bk 16 .lss 10 15,I 5 16]) .ret))
@[simp] def Va:List bt:=[.tmp 5]
def NW:C:=(.region [ax 4 1 1,I 5 0,ax 6 1 2,b1 7 (.build [.int .i64 0,.str []] [(0,1,(.t 5)),(1,1,(.t 6))]),cK (.mput (.a [false,true]) (.t 4) (.t 7) (.c (.bool true)))])
@[simp] def U8:List bt:=[]
def NX:C:=(aa [bf 5 false] (.seq (.drawn true 15 [ax 6 1 2,I 7 0,cp 8 2 6 7,be 9 2 8,ax 10 1 2,I 11 1,cp 12 2 10 11,be 13 2 12,cd 14 132 9 13,I 5 14]) .ret))
@[simp] def U9:List bt:=[.tmp 5]
def DX:C:=(aa [cM 2 0,cM 3 1,bf 4 false] (aa [aI 5 0 1 2,ax 6 1 5,aI 7 0 1 3,ax 8 1 7,bk 9 .lss 6 8,I 10 9,aq 10 false (aI 11 0 1 2),aq 10 false (ax 12 1 11),aq 10 false (aI 13 0 1 3),aq 10 false (ax 14 1 13),aq 10 false (bk 15 .eql 12 14),b4 10 false 16 15,aq 16 true (aI 17 1 1 2),aq 16 true (ax 18 1 17),aq 16 true (aI 19 1 1 3),aq 16 true (ax 20 1 19),aq 16 true (bk 21 .lss 18 20),aq 10 false (dK 22 16 21),dc 23 10 22,I 4 23] .ret))
@[simp] def ajF:List bt:=[.tmp 4]
def tc:List (Nat×dA):=[
 (3,⟨1,8,.int .i64,.int .i64 0⟩),
 (9,⟨1,16,.str,.str []⟩),
 (25,⟨1,24,.slice 104,.slice 2 .nil []⟩),
 (26,⟨1,24,.slice 106,.slice 2 .nil []⟩),
 (30,⟨1,24,.slice 32,.slice 4 .nil []⟩),
 (32,⟨4,56,.struct [(0,3),(1,3),(2,9),(3,30)],.agg [.int .i64 0,.int .i64 0,.str [],.slice 4 .nil []]⟩),
 (104,⟨2,16,.struct [(0,3),(1,3)],.agg [.int .i64 0,.int .i64 0]⟩),
 (106,⟨2,24,.struct [(0,3),(1,9)],.agg [.int .i64 0,.str []]⟩),
 (165,⟨1,8,.map 106 4,.junk⟩)]
theorem jN:fN al tc=true:=by kernel_rfl
theorem rI:bY tc qf jK 4 Tryz.f52=true:=by kernel_rfl
theorem q1:al.funcs[(52:Nat)]? =some Tryz.f52:=Tryz.func52
theorem KW:bY tc DW Ga 4 Tryz.f54=true:=by kernel_rfl
theorem Iw:al.funcs[(54:Nat)]? =some Tryz.f54:=Tryz.func54
theorem aho:bY tc N3 Vd 1 Tryz.f56=true:=by kernel_rfl
theorem aaL:al.funcs[(56:Nat)]? =some Tryz.f56:=Tryz.func56
theorem ahp:bY tc N4 Lm 1 Tryz.f57=true:=by kernel_rfl
theorem aaM:al.funcs[(57:Nat)]? =some Tryz.f57:=Tryz.func57
theorem KZ:bY tc DZ Gg 2 Tryz.f109=true:=by kernel_rfl
theorem Iz:al.funcs[(109:Nat)]? =some Tryz.f109:=Tryz.func109
theorem ahj:bY tc NY Va 3 Tryz.f127=true:=by kernel_rfl
theorem aaG:al.funcs[(127:Nat)]? =some Tryz.f127:=Tryz.func127
theorem ahh:bY tc NW U8 3 Tryz.f130=true:=by kernel_rfl
theorem aaE:al.funcs[(130:Nat)]? =some Tryz.f130:=Tryz.func130
theorem ahi:bY tc NX U9 3 Tryz.f131=true:=by kernel_rfl
theorem aaF:al.funcs[(131:Nat)]? =some Tryz.f131:=Tryz.func131
theorem KX:bY tc DX ajF 2 Tryz.f132=true:=by kernel_rfl
theorem Ix:al.funcs[(132:Nat)]? =some Tryz.f132:=Tryz.func132
def lT(x:bL):Prop:=(0≤x.v∧x.v≤100000)∧(x.k=2∨x.k=3)
def mW(x y:bL):Prop:=x.v<y.v
theorem Fs{l:List bL}:iU l↔∀i,i<l.length→h4 lT mW l i:=by rw[Nl (p:=lT) (r:=mW) (fun a b c J U=>by unfold mW at*;omega)];exact⟨fun h=>⟨h.at',h.asc⟩,fun h=>⟨h.1,h.2⟩⟩
def j0(x:bg):Prop:=(0≤x.v∧x.v≤100000)∧jv x.s=true
def kn(x y:bg):Prop:=fa x y<0
theorem FH{l:List bg}:h8 l↔∀i,i<l.length→h4 j0 kn l i:=by rw[Nl (p:=j0) (r:=kn) (fun a b c J U=>by unfold kn at*;exact lA.ltr J (Int.le_of_lt U))];exact⟨fun h=>⟨h.at',h.asc⟩,fun h=>⟨h.1,h.2⟩⟩
open Classical in
theorem WX(l:List bL):bK al 56 [.slice 2 .no (l.map bL.e)] (.bool (decide (iU l))):=by
 generalize a1:decide (iU l)=R;refine bm jN aaL aho fun aQ=>?_;unfold N3;have eI:l.length≤68719476736:=by simp[eD,ef,et,lim]at aQ;omega
 simp;refine dW [0,5,6] (fun i (_:Unit)=>[(7,.int .i64 i)]) l.length (fun i _=> ∀j,j<i→h4 lT mW l j) () bV (fun k ab=>by omega) (fun _ af _=>?_) (fun i _ hi af _=>?_)
 ·have:R=true:=by rw[←a1,fm,Fs];exact af
  rw[this];exact b6
 ·obtain⟨b,ae⟩:∃b,l[i]? =some b:=⟨_,cf hi⟩;obtain⟨c,aw⟩:∃c,l[i-1]? =some c:=⟨_,cf (by omega)⟩;have cy:∀h,(l[i]'h)=b:=fun h=>by rw[cf hi]at ae;exact fl ae
  have dg:¬h4 lT mW l i→R=false:=fun h=>by rw[←a1,gr];exact fun cr=>h (Fs.1 cr i hi)
  have cO:h4 lT mW l i→∀j,j<i+1→h4 lT mW l j:=fun h j jd=>by
   by_cases e:j=i
   ·rw[e];exact h
   ·exact af j (by omega)
  simp[hi,cy,aw];((with_reducible repeat' first|refine aj ?_|simp[cy,aw,hi]|((first|apply bR|apply bU|apply bT)<;>intro h<;>try simp at h))<;>(try exact cv));all_goals first
   |(have aA:¬h4 lT mW l i:=by(intro cr;have J:=cr b ae;have U:=J.2 c;have ao:=J.1;unfold lT mW at*;first|omega|(have a7:=U (by omega) aw;omega)|(simp_all;done)|(simp_all;omega))
     rw[dg aA]
     simp[bu,Vd,aV,aW,aU]
     done)
   |(refine bO.rng () hi (cO fun b2 fI=>?_) ?_
     ·rw[ae]at fI;cases fI
      refine⟨?_,fun cq bq hv=>?_⟩
      ·unfold lT;first|(simp_all;done)|(simp_all;omega)
      ·rw[aw]at hv;cases hv;unfold mW;simp_all
     ·exact bV)
theorem AN(a b:bg):bK al 132 [a.e,b.e] (.bool (hG fa a b)):=by
 rw[←Uo];have a1:sQ a b=(decide (a.v<b.v)||(a.v==b.v&&hr a.s b.s)):=rfl;rcases Int.lt_trichotomy a.v b.v with h|h|h
 ·have:sQ a b=true:=by rw[a1];simp[h]
  rw[this];refine bm jN Ix KX fun aQ=>?_;unfold DX;exact b6
 ·have J:¬a.v<b.v:=by omega
  have U:(a.v==b.v)=true:=by simp[h]
  have:sQ a b=hr a.s b.s:=by rw[a1];simp[h]
  rw[this];refine bm jN Ix KX fun aQ=>?_;unfold DX;exact b6
 ·have J:¬a.v<b.v:=by omega
  have U:¬a.v=b.v:=by omega
  have ao:(a.v==b.v)=false:=by simp[U]
  have:sQ a b=false:=by rw[a1];simp[J,U]
  rw[this];refine bm jN Ix KX fun aQ=>?_;unfold DX;exact b6
open Classical in
theorem WZ(l:List bg):bK al 57 [.slice 2 .no (l.map bg.e)] (.bool (decide (h8 l))):=by
 generalize a1:decide (h8 l)=R;refine bm jN aaM ahp fun aQ=>?_;unfold N4;have eI:l.length≤68719476736:=by simp[eD,ef,et,lim]at aQ;omega
 simp;refine dW [0,5,6] (fun i (_:Unit)=>[(7,.int .i64 i)]) l.length (fun i _=> ∀j,j<i→h4 j0 kn l j) () bV (fun k ab=>by omega) (fun _ af _=>?_) (fun i _ hi af _=>?_)
 ·have:R=true:=by rw[←a1,fm,FH];exact af
  rw[this];exact b6
 ·obtain⟨b,ae⟩:∃b,l[i]? =some b:=⟨_,cf hi⟩;obtain⟨c,aw⟩:∃c,l[i-1]? =some c:=⟨_,cf (by omega)⟩;have cy:∀h,(l[i]'h)=b:=fun h=>by rw[cf hi]at ae;exact fl ae
  have dg:¬h4 j0 kn l i→R=false:=fun h=>by rw[←a1,gr];exact fun cr=>h (FH.1 cr i hi)
  have cO:h4 j0 kn l i→∀j,j<i+1→h4 j0 kn l j:=fun h j jd=>by
   by_cases e:j=i
   ·rw[e];exact h
   ·exact af j (by omega)
  have gv:∀p:Prop,(p→eR)→(h4 j0 kn l i→p)→R=false:=fun p J U=>dg fun h=>J (U h);have o5:h4 j0 kn l i→j0 b:=fun h=>(h b ae).1;have bA:h4 j0 kn l i→0<i→hG fa c b=true:=fun h bq=>by simpa[hG,kn]using(h b ae).2 c bq aw
  have eX:j0 b→(0<i→hG fa c b=true)→h4 j0 kn l i:=fun J U b2 fI=>by rw[ae]at fI;cases fI;exact⟨J,fun cq bq hv=>by rw[aw]at hv;cases hv;simpa[hG,kn]using U bq⟩
  unfold j0 at o5 eX;by_cases g1:b.v<0
  ·rw[gv _ (fun h=>by omega) (fun h=>(o5 h).1.1)];exact b6
  by_cases g2:100000<b.v
  ·rw[gv _ (fun h=>by omega) (fun h=>(o5 h).1.2)];exact b6
  cases g3:jv b.s
  ·rw[gv _ (fun h=>by rw[h]at g3;cases g3) (fun h=>(o5 h).2)];simp[hi,cy,aw];(with_reducible repeat' first|refine aj ?_|refine aE (td _) ?_|refine aF (td _) ?_|simp[cy,aw,hi,g1,g2,g3]);simp[bu,Lm,aV,aW,aU]
  by_cases g4:0<i
  ·cases g5:hG fa c b
   ·rw[gv _ (fun h=>by rw[h]at g5;cases g5) (fun h=>bA h g4)];simp[hi,cy,aw];(with_reducible repeat' first|refine aj ?_|refine aE (td _) ?_|refine aF (td _) ?_|refine aE (AN _ _) ?_|refine aF (AN _ _) ?_|simp[cy,aw,hi,g1,g2,g3,g4,g5]);simp[bu,Lm,aV,aW,aU]
   ·simp[hi,cy,aw];(with_reducible repeat' first|refine aj ?_|refine aE (td _) ?_|refine aF (td _) ?_|refine aE (AN _ _) ?_|refine aF (AN _ _) ?_|simp[cy,aw,hi,g1,g2,g3,g4,g5]);exact bO.rng () hi (cO (eX ⟨⟨by omega,by omega⟩,g3⟩ fun _=>g5)) bV
  ·obtain rfl:i=0:=by omega
   simp[hi,cy,aw];(with_reducible repeat' first|refine aj ?_|refine aE (td _) ?_|refine aF (td _) ?_|simp[cy,aw,hi,g1,g2,g3,g4]);exact bO.rng () hi (cO (eX ⟨⟨by omega,by omega⟩,g3⟩ fun h=>by omega)) bV
theorem amu(s:List dz):∀t:T,bK al 109 [t.e,.str s] (.bool (t.has s)):=by
 intro t;induction t with
 |pair a b dM dN=>
  refine bm jN Iz KZ fun aQ=>?_;unfold DZ;simp;cases bD:a.has s<;>cases ae:b.has s<;>rw[bD]at dM<;>rw[ae]at dN;all_goals(with_reducible repeat' first|refine aj ?_|refine aE dM ?_|refine aF dM ?_|refine aE dN ?_|refine aF dN ?_|simp)
  all_goals simp[bu,Gg,aV,aW,aU]
  all_goals simp[T.has,bD,ae]
 |sym n=>
  refine bm jN Iz KZ fun aQ=>?_;unfold DZ;simp;(with_reducible repeat' first|refine aj ?_|simp);all_goals simp[bu,Gg,aV,aW,aU]
  all_goals simp[T.has]
 |_=>
  refine bm jN Iz KZ fun aQ=>?_;unfold DZ;simp;(with_reducible repeat' first|refine aj ?_|simp);all_goals simp[bu,Gg,aV,aW,aU]
  all_goals simp[T.has]
def Pp:C:=(aa [cM 2 0] (aa [bQ 4 20] (aa [I 8 4,bQ 5 0,I 6 8] (.seq (.block 0 (.loop (.seq (aa [I 9 6,I 10 1,bk 11 .leq 9 10] (aT 11 .skip (.exit 0))) (.block 1 (aa [be 12 2 2,I 13 5,I 14 6,dI 15 260 [.t 12,.t 13,.t 14]] (aa [I 16 6,I 5 16] (.region [I 17 6,I 18 4,bk 19 .add 17 18,I 6 19]))))))) (aa [be 20 2 2,I 21 5,I 22 1,dI 23 260 [.t 20,.t 21,.t 22]] (.block 2 (.loop (.seq (aa [I 24 4,I 25 1,bk 26 .lss 24 25] (aT 26 .skip (.exit 2))) (.block 3 (aa [I 27 4,b1 28 (.bin .mul false (gp 2) (.t 27)),bQ 5 0,I 6 28] (.seq (.block 4 (.loop (.seq (aa [I 29 6,I 30 1,bk 31 .leq 29 30] (aT 31 .skip (.exit 4))) (.block 5 (aa [be 32 2 2,I 33 5,I 34 5,I 35 4,bk 36 .add 34 35,I 37 6,dI 38 277 [.t 32,.t 33,.t 36,.t 37]] (aa [I 39 6,I 5 39] (.region [I 40 6,I 41 4,b1 42 (.bin .mul false (gp 2) (.t 41)),bk 43 .add 40 42,I 6 43]))))))) (.seq (aa [I 44 5,I 45 4,bk 46 .add 44 45,I 7 46] (aa [I 47 7,I 48 1,bk 49 .lss 47 48] (aT 49 (.region [be 50 2 2,I 51 5,I 52 7,I 53 1,dI 54 277 [.t 50,.t 51,.t 52,.t 53]]) .skip))) (.region [I 55 4,aS 56 .mul 55 2,I 4 56])))))))))))))
@[simp] def akn:List bt:=[]
def H0:C:=(aa [cM 3 0] (aa [I 8 1,aS 9 .add 8 1,I 6 9] (.block 0 (.loop (.seq (aa [I 10 6,I 11 2,bk 12 .lss 10 11] (aT 12 .skip (.exit 0))) (.seq (.block 1 (aa [I 15 6,I 7 15] (.block 2 (.loop (.seq (aa [I 16 7,I 17 1,bk 18 .gtr 16 17,I 19 18,aq 19 true (aI 20 0 1 3),aq 19 true (ax 21 1 20),b4 19 true 22 7,b4 19 true 23 7,aq 19 true (aS 24 .sub 23 1),aq 19 true (gF 25 21 [.t 22,.t 24]),dK 26 19 25] (aT 26 .skip (.exit 2))) (.seq (.block 3 (.region [aI 29 1 1 3,ax 30 1 29,I 31 7,I 32 7,aS 33 .sub 32 1,gF 34 30 [.t 31,.t 33]])) (.region [I 27 7,aS 28 .sub 27 1,I 7 28]))))))) (.region [I 13 6,aS 14 .add 13 1,I 6 14])))))))
@[simp] def akj:List bt:=[]
def D5:C:=(aa [I 164 16,I 165 22,bk 166 .lss 164 165,I 167 166,b4 167 true 168 22,b4 167 true 169 3,aq 167 true (bk 170 .lss 168 169),dK 171 167 170] (aT 171 (.region [be 172 2 4,I 173 16,I 174 22,I 175 3,dI 176 277 [.t 172,.t 173,.t 174,.t 175]]) .skip))
def D6:C:=(.seq (aa [I 151 1,I 152 18,bk 153 .lss 151 152,I 154 153,b4 154 true 155 18,b4 154 true 156 16,aq 154 true (bk 157 .lss 155 156),dK 158 154 157] (aT 158 (.region [be 159 2 4,I 160 1,I 161 18,I 162 16,dI 163 277 [.t 159,.t 160,.t 161,.t 162]]) .skip)) D5)
def H5:C:=(.seq (aa [I 138 18,I 139 2,bk 140 .lss 138 139,I 141 140,b4 141 true 142 2,b4 141 true 143 22,aq 141 true (bk 144 .lss 142 143),dK 145 141 144] (aT 145 (.region [be 146 2 4,I 147 18,I 148 2,I 149 22,dI 150 284 [.t 146,.t 147,.t 148,.t 149]]) .skip)) D6)
def H6:C:=(aa [I 113 17,aS 114 .sub 113 1,I 20 114] (.seq (.block 8 (.loop (.seq (aa [I 115 18,I 116 19,bk 117 .lss 115 116] (aT 117 .skip (.exit 8))) (.block 9 (aa [I 118 18,I 119 19,bk 120 .add 118 119,b1 121 (.conv .u64 (.t 120)),b1 122 (.bin .shr false (.t 121) (.c (.int .u64 1))),b1 123 (.conv .i64 (.t 122)),I 21 123] (aa [aI 124 0 1 4,ax 125 1 124,I 126 20,I 127 21,bk 128 .sub 126 127,I 129 21,gF 130 125 [.t 128,.t 129],cx 131 130] (aT 131 (.region [I 132 21,aS 133 .add 132 1,I 18 133]) (.region [I 134 21,I 19 134])))))))) (aa [I 135 17,I 136 18,bk 137 .sub 135 136,I 22 137] H5)))
def Pr:C:=(aa [cM 4 0] (.seq (aa [I 23 2,I 24 1,bk 25 .sub 23 24,aS 26 .eql 25 1] (aT 26 (aa [I 27 2,I 8 27] (aa [I 28 3,I 9 28] (.seq (.block 0 (.loop (.seq (aa [I 29 8,I 30 9,bk 31 .lss 29 30] (aT 31 .skip (.exit 0))) (.block 1 (aa [I 32 8,I 33 9,bk 34 .add 32 33,b1 35 (.conv .u64 (.t 34)),b1 36 (.bin .shr false (.t 35) (.c (.int .u64 1))),b1 37 (.conv .i64 (.t 36)),I 10 37] (aa [aI 38 0 1 4,ax 39 1 38,I 40 10,I 41 1,gF 42 39 [.t 40,.t 41]] (aT 42 (.region [I 43 10,aS 44 .add 43 1,I 8 44]) (.region [I 45 10,I 9 45])))))))) (.seq (aa [I 46 1,I 11 46] (.block 2 (.loop (.seq (aa [I 47 11,I 48 8,aS 49 .sub 48 1,bk 50 .lss 47 49] (aT 50 .skip (.exit 2))) (.seq (.block 3 (.region [aI 53 1 1 4,ax 54 1 53,I 55 11,I 56 11,aS 57 .add 56 1,gF 58 54 [.t 55,.t 57]])) (.region [I 51 11,aS 52 .add 51 1,I 11 52])))))) .ret)))) .skip)) (.seq (aa [I 59 3,I 60 2,bk 61 .sub 59 60,aS 62 .eql 61 1] (aT 62 (aa [I 63 1,I 12 63] (aa [I 64 2,I 13 64] (.seq (.block 4 (.loop (.seq (aa [I 65 12,I 66 13,bk 67 .lss 65 66] (aT 67 .skip (.exit 4))) (.block 5 (aa [I 68 12,I 69 13,bk 70 .add 68 69,b1 71 (.conv .u64 (.t 70)),b1 72 (.bin .shr false (.t 71) (.c (.int .u64 1))),b1 73 (.conv .i64 (.t 72)),I 14 73] (aa [aI 74 0 1 4,ax 75 1 74,I 76 2,I 77 14,gF 78 75 [.t 76,.t 77],cx 79 78] (aT 79 (.region [I 80 14,aS 81 .add 80 1,I 12 81]) (.region [I 82 14,I 13 82])))))))) (.seq (aa [I 83 2,I 15 83] (.block 6 (.loop (.seq (aa [I 84 15,I 85 12,bk 86 .gtr 84 85] (aT 86 .skip (.exit 6))) (.seq (.block 7 (.region [aI 89 1 1 4,ax 90 1 89,I 91 15,I 92 15,aS 93 .sub 92 1,gF 94 90 [.t 91,.t 93]])) (.region [I 87 15,aS 88 .sub 87 1,I 15 88])))))) .ret)))) .skip)) (aa [I 95 1,I 96 3,bk 97 .add 95 96,b1 98 (.conv .u64 (.t 97)),b1 99 (.bin .shr false (.t 98) (.c (.int .u64 1))),b1 100 (.conv .i64 (.t 99)),I 16 100] (aa [I 101 16,I 102 2,bk 103 .add 101 102,I 17 103] (aa [bQ 18 0,bQ 19 0] (.seq (aa [I 104 2,I 105 16,bk 106 .gtr 104 105] (aT 106 (aa [I 107 17,I 108 3,bk 109 .sub 107 108,I 18 109] (.region [I 110 16,I 19 110])) (aa [I 111 1,I 18 111] (.region [I 112 2,I 19 112])))) H6)))))))
@[simp] def ako:List bt:=[]
def Pn:C:=(aa [cM 4 0] (aa [I 10 2,I 11 1,bk 12 .sub 10 11,I 8 12] (aa [I 13 3,I 14 2,bk 15 .sub 13 14,I 9 15] (.seq (.block 0 (.loop (.seq (aa [I 16 8,I 17 9,bk 18 .neq 16 17] (aT 18 .skip (.exit 0))) (.block 1 (aa [I 19 8,I 20 9,bk 21 .gtr 19 20] (aT 21 (aa [be 22 2 4,I 23 2,I 24 8,bk 25 .sub 23 24,I 26 2,I 27 9,dI 28 295 [.t 22,.t 25,.t 26,.t 27]] (.region [I 29 8,I 30 9,bk 31 .sub 29 30,I 8 31])) (aa [be 32 2 4,I 33 2,I 34 8,bk 35 .sub 33 34,I 36 2,I 37 9,bk 38 .add 36 37,I 39 8,bk 40 .sub 38 39,I 41 8,dI 42 295 [.t 32,.t 35,.t 40,.t 41]] (.region [I 43 9,I 44 8,bk 45 .sub 43 44,I 9 45])))))))) (.region [be 46 2 4,I 47 2,I 48 8,bk 49 .sub 47 48,I 50 2,I 51 8,dI 52 295 [.t 46,.t 49,.t 50,.t 51]])))))
@[simp] def akl:List bt:=[]
def Pq:C:=(aa [cM 4 0] (aa [bQ 8 0] (.block 0 (.loop (.seq (aa [I 9 8,I 10 3,bk 11 .lss 9 10] (aT 11 .skip (.exit 0))) (.seq (.block 1 (.region [aI 14 1 1 4,ax 15 1 14,I 16 1,I 17 8,bk 18 .add 16 17,I 19 2,I 20 8,bk 21 .add 19 20,gF 22 15 [.t 18,.t 21]])) (.region [I 12 8,aS 13 .add 12 1,I 8 13])))))))
@[simp] def VF:List bt:=[]
def AI:List (Nat×dA):=[
 (3,⟨1,8,.int .i64,.int .i64 0⟩),
 (160,⟨1,8,.other,.junk⟩),
 (163,⟨1,8,.int .u64,.int .u64 0⟩),
 (216,⟨1,8,.other,.junk⟩),
 (222,⟨2,16,.struct [(0,160),(1,216)],.agg [.junk,.junk]⟩)]
theorem AK:fN al AI=true:=by kernel_rfl
theorem aiF:bY AI Pp akn 2 Tryz.f248=true:=by kernel_rfl
theorem ab2:al.funcs[(248:Nat)]? =some Tryz.f248:=Tryz.func248
theorem UM:bY AI H0 akj 3 Tryz.f260=true:=by kernel_rfl
theorem QU:al.funcs[(260:Nat)]? =some Tryz.f260:=Tryz.func260
theorem aiH:bY AI Pr ako 4 Tryz.f277=true:=by kernel_rfl
theorem ab4:al.funcs[(277:Nat)]? =some Tryz.f277:=Tryz.func277
theorem aiD:bY AI Pn akl 4 Tryz.f284=true:=by kernel_rfl
theorem ab0:al.funcs[(284:Nat)]? =some Tryz.f284:=Tryz.func284
theorem aiG:bY AI Pq VF 4 Tryz.f295=true:=by kernel_rfl
theorem ab3:al.funcs[(295:Nat)]? =some Tryz.f295:=Tryz.func295
end Go.Proofs.YtohaalphocaebaaGreat
namespace Go.Proofs.YtohaalphocaebaaGreat
open Go Go.Pv
structure e1 {α:Type} (S:List α→cE) (n:Nat) (g b5:Nat) (lc b0:List ah) (lt:α→α→Bool):Prop where
 ok:∀l,dT (S l)
 same:∀l aX,l.length=n→aX.length=n→Same (S l) (S aX)
 klc:∀l,l.length=n→aG (inObs (S l)) lc
 ksc:∀l,l.length=n→aG (inObs (S l)) b0
 slc:cY lc=lc
 ssc:cY b0=b0
 le:n≤68719476736
 less:∀l,l.length=n→∀(i j:Nat) x y,l[i]? =some x→l[j]? =some y→bF al g (.int .i64 i:: .int .i64 j::lc) (S l) fun r ai=>r= .bool (lt x y)∧ai=S l
 swap:∀l,l.length=n→2≤n→∀i j:Nat,i<n→j<n→bF al b5 (.int .i64 i:: .int .i64 j::b0) (S l) fun r ai=>r= .tuple []∧ai=S (hb l i j)
variable {α:Type} {S:List α→cE} {n g b5:Nat} {lc b0:List ah} {lt:α→α→Bool}
def eS(g b5:Nat)(lc b0:List ah):ah:= .agg [.func g lc,.func b5 b0]
theorem I2(H:e1 S n g b5 lc b0 lt)(l:List α)(ar:l.length=n)(a b c:Nat)(aoX:a+c≤b)(RJ:b+c≤n):
  bF al 295 [eS g b5 lc b0,.int .i64 a,.int .i64 b,.int .i64 c] (S l) fun r ai=>r= .tuple []∧∃aX,ai=S aX∧gk a (b+c) l aX∧∀k,aX[k]? =l[rR a b c k]?:=by
 have ag:=H.ok l;have aA:∀l m,Pv.look (.loc m) (S l).b=none:=fun l=>(H.ok l).obj.1;have hu:∀l m cs,cw (.loc m) cs (S l).b=(S l).b++[(.loc m,cs)]:=fun l m cs=>jB (aA l m);have av:∀m,aD.loc m∉cW (S l):=jx ag.obj;have hle:=H.le;refine bF.mk mixed AK ab3 aiG (by simp) ag.obj fun aQ cN=>?_;unfold Pq;simp[eS,hu,av,cD,aA,H.slc,H.ssc];refine gP (fun i (lk:List α)=>⟨[(1,.int .i64 a),(2,.int .i64 b),(3,.int .i64 c),(4,.ptr (.loc 0) 0),(8,.int .i64 i)],[(.loc 0,[.func g lc,.func b5 b0])]++(S lk).b,(S lk).e,1,cW (S l)⟩) c (fun i lk=>lk.length=n∧gk a (b+c) l lk∧∀k,lk[k]? =l[rR a b i k]?) l
  (iz.obL ag (Same.refl _) (by simp[aB]) (by simp[cD,aA,aB,aG,zV (H.klc l ar),zV (H.ksc l ar)]) aO aO) ⟨ar,.refl _,fun k=>by simp[rR];split<;>(try split)<;>(try rfl)<;>(exfalso;omega)⟩ ?_ ?_
 ·rintro lk ⟨J,U,ao⟩ _;simp;refine cH.at (S lk) (.inr rfl) (H.ok lk) (H.same _ _ ar J) aO aO ?_;simp[cI,VF,aV,aW,aU];exact⟨lk,rfl,U,ao⟩
 ·rintro i lk hi ⟨J,U,ao⟩ _;have ak:((a:Int)+i)=(a+i:Nat):=by omega
  have aC:((b:Int)+i)=(b+i:Nat):=by omega
  simp[hi,cD,aA,H.ssc];(with_reducible repeat' first|refine aj ?_|simp);rw[ak,aC];refine cV.ob (H.swap lk J (by omega) (a+i) (b+i) (by omega) (by omega)) (H.ok lk) aO aO (by simp[H.ksc lk J]) ?_;rintro r ai ⟨rfl,rfl⟩;refine⟨H.same _ _ J (by simp[J]),?_⟩;simp[gA,hT,cn,aA];(with_reducible repeat' first|refine aj ?_|simp);refine bO.rng (hb lk (a+i) (b+i)) hi ⟨by simp[J],.step U (by omega) (by omega) (by omega) (by omega) (by omega) (by omega),fun k=>?_⟩ (iz.obL (L:=[(.loc 0,[.func g lc,.func b5 b0])]) (H.ok _) (H.same _ _ ar (by simp[J])) (by simp[aB]) (by simp[cD,aA,aB,aG,zV (H.klc (hb lk (a+i) (b+i)) (by simp[J])),zV (H.ksc (hb lk (a+i) (b+i)) (by simp[J]))]) aO aO);rw[zM _ _ _ _ (by omega) (by omega),ao,ao,ao];have:rR a b (i+1) k=if k=a+i then rR a b i (b+i)else if k=b+i then rR a b i (a+i)else rR a b i k:=by
   simp only[rR];repeat' split
   all_goals omega
  rw[this];split
  ·rfl
  ·split<;>rfl
section
variable (H:e1 S n g b5 lc b0 lt)
include H
theorem e1.loc{l:List α}(m:Nat):Pv.look (.loc m) (S l).b=none:=(H.ok l).obj.1 m
theorem e1.weak{l lk:List α}(ar:l.length=n)(ab:lk.length=n){st:bp}{dG:List (Nat×ah)}(aL:∀x∈dG,Pv.get x.1 st.t=x.2∧aB (lV (S lk) 1) x.2)(bq:Pv.look (.loc 0) st.b=some [.func g lc,.func b5 b0])
  (ae:∀k cs,Pv.look k (S lk).b=some cs→Pv.look k st.b=some cs) (he:∀k o,Pv.look k (S lk).e=some o→Pv.look k st.e=some o):
  iz (cW (S l)) st ⟨dG,(.loc 0,[.func g lc,.func b5 b0])::(S lk).b,(S lk).e,1,cW (S l)⟩:=
 iz.obL (L:=[(.loc 0,[.func g lc,.func b5 b0])]) (H.ok _) (H.same _ _ ar ab) aL (by simp[bq,aB,aG,zV (H.klc lk ab),zV (H.ksc lk ab)]) ae he
theorem e1.weakC{l lk:List α}(ar:l.length=n)(ab:lk.length=n){t dG:List (Nat×ah)}{q:Nat}{o:List aD}(aL:∀x∈dG,Pv.get x.1 t=x.2∧aB (lV (S lk) 1) x.2):
  iz (cW (S l)) ⟨t,(.loc 0,[.func g lc,.func b5 b0])::(S lk).b,(S lk).e,q,o⟩ ⟨dG,(.loc 0,[.func g lc,.func b5 b0])::(S lk).b,(S lk).e,1,cW (S l)⟩:=
 H.weak ar ab aL (by simp[Pv.look]) (fun k cs ad=>by
  cases k with
  |loc m=>rw[H.loc m]at ad;cases ad
  |obj m=>simpa[Pv.look]using ad) (fun _ _ ad=>ad)
theorem e1.call{lk:List α}(J:lk.length=n){f:Nat}{args:List ah}{R:ah→List α→Prop}(aH:bF al f args (S lk) fun r ai=> ∃aX,ai=S aX∧R r aX)(a1:∀r aX,R r aX→aX.length=n)(ab:aG (inObs (S lk)) args){t:List (Nat×ah)}{D:List ah}{o:List aD}{d:aY Nat}{K:bp→Prop}
  (h:∀r aX,R r aX→K ⟨eM d r t,(.loc 0,D)::(S aX).b,(S aX).e,1,o++cW (S aX)⟩):cV al f args ⟨t,(.loc 0,D)::(S lk).b,(S lk).e,1,o⟩ d K:=by
 refine cV.ob aH (H.ok lk) (fun k cs ad=>?_) (fun _ _ ad=>ad) ab ?_
 ·cases k with
  |loc m=>rw[H.loc m]at ad;cases ad
  |obj m=>simpa[Pv.look]using ad
 ·rintro r ai ⟨aX,rfl,aK⟩;refine⟨H.same _ _ J (a1 _ _ aK),?_⟩;have ak:cn (S lk).b ((.loc 0,D)::(S lk).b)=[(.loc 0,D)]:=by have:=hT (S lk).b [(aD.loc 0,D)] (S lk).b;rw[gA]at this;simpa[cn,H.loc]using this
  have aC:cn (S lk).e (S lk).e=[]:=gA _;have:=h _ _ aK;simp only[ak,aC];exact this
theorem e1.doSwap{lk:List α}(J:lk.length=n)(i j:Nat)(hi:i<n)(af:j<n)(U:2≤n){t:List (Nat×ah)}{D:List ah}{o:List aD}{d:aY Nat}{K:bp→Prop}
  (h:K ⟨eM d (.tuple []) t,(.loc 0,D)::(S (hb lk i j)).b,(S (hb lk i j)).e,1,o++cW (S (hb lk i j))⟩):cV al b5 (.int .i64 i:: .int .i64 j::b0) ⟨t,(.loc 0,D)::(S lk).b,(S lk).e,1,o⟩ d K:=
 H.call J (R:=fun r aX=>r= .tuple []∧aX=hb lk i j) ((H.swap lk J U i j hi af).mono fun r ai ⟨ak,aC⟩=>⟨_,aC,ak,rfl⟩) (fun r aX ⟨_,e⟩=>by rw[e];simp[J]) (by simp[aB,aG,H.ksc lk J]) (by rintro r aX ⟨rfl,rfl⟩;exact h)
theorem e1.doLess{lk:List α}(J:lk.length=n)(i j:Nat){x y:α}(hi:lk[i]? =some x)(af:lk[j]? =some y){t:List (Nat×ah)}{D:List ah}{o:List aD}{d:aY Nat}{K:bp→Prop}
  (h:K ⟨eM d (.bool (lt x y)) t,(.loc 0,D)::(S lk).b,(S lk).e,1,o++cW (S lk)⟩):cV al g (.int .i64 i:: .int .i64 j::lc) ⟨t,(.loc 0,D)::(S lk).b,(S lk).e,1,o⟩ d K:=
 H.call J (R:=fun r aX=>r= .bool (lt x y)∧aX=lk) ((H.less lk J i j x y hi af).mono fun r ai ⟨ak,aC⟩=>⟨_,aC,ak,rfl⟩) (fun r aX ⟨_,e⟩=>by rw[e];exact J) (by simp[aB,aG,H.klc lk J]) (by rintro r aX ⟨rfl,rfl⟩;exact h)
theorem e1.doFn{lk:List α}(J:lk.length=n){f:Nat}{args:List ah}{R:List α→Prop}(aH:bF al f args (S lk) fun r ai=>r= .tuple []∧∃aX,ai=S aX∧R aX)(a1:∀aX,R aX→aX.length=n)(ab:aG (inObs (S lk)) args){t:List (Nat×ah)}{D:List ah}{o:List aD}{d:aY Nat}{K:bp→Prop}
  (h:∀aX,R aX→K ⟨eM d (.tuple []) t,(.loc 0,D)::(S aX).b,(S aX).e,1,o++cW (S aX)⟩):cV al f args ⟨t,(.loc 0,D)::(S lk).b,(S lk).e,1,o⟩ d K:=
 H.call J (R:=fun r aX=>r= .tuple []∧R aX) (aH.mono fun r ai ⟨ak,aX,aC,bj⟩=>⟨aX,aC,ak,bj⟩) (fun r aX h=>a1 aX h.2) ab (by rintro r aX ⟨rfl,aK⟩;exact h aX aK)
theorem e1.kdata{lk:List α}(J:lk.length=n):aB (inObs (S lk)) (eS g b5 lc b0):=by simp[eS,aB,aG,H.klc lk J,H.ksc lk J]
theorem e1.ret{l lk:List α}(ar:l.length=n)(J:lk.length=n){Q:ah→cE→Prop}{e:Exit}(he:e= .ret∨e= .normal){t:List (Nat×ah)}{D:List ah}{q:Nat}{o:List aD}(br:Q (.tuple []) (S lk)):cH [] (S l) Q e ⟨t,(.loc 0,D)::(S lk).b,(S lk).e,q,o⟩:=by
 refine cH.at (S lk) he (H.ok lk) (H.same _ _ ar J) (fun k cs ad=>?_) (fun _ _ ad=>ad) ?_
 ·cases k with
  |loc m=>rw[H.loc m]at ad;cases ad
  |obj m=>simpa[Pv.look]using ad
 ·simp[cI,aV,aU,aB,aG,br]
end
theorem ib(H:e1 S n g b5 lc b0 lt):dm (eS g b5 lc b0)=eS g b5 lc b0:=by simp[eS,dm,cY,H.slc,H.ssc]
theorem h5:ah.agg [.func g lc,.func b5 b0]=eS g b5 lc b0:=rfl
theorem ads(H:e1 S n g b5 lc b0 lt)(l:List α)(ar:l.length=n)(a m b:Nat)(BE:a<m)(vq:m<b)(ae:b≤n):
  bF al 284 [eS g b5 lc b0,.int .i64 a,.int .i64 m,.int .i64 b] (S l) fun r ai=>r= .tuple []∧∃aX,ai=S aX∧gk a b l aX∧∀k,aX[k]? =l[hO a m b k]?:=by
 have ag:=H.ok l;have aA:∀l m,Pv.look (.loc m) (S l).b=none:=fun l=>(H.ok l).obj.1;have hu:∀l m cs,cw (.loc m) cs (S l).b=(S l).b++[(.loc m,cs)]:=fun l m cs=>jB (aA l m);have av:∀m,aD.loc m∉cW (S l):=jx ag.obj;have hle:=H.le;refine bF.mk mixed AK ab0 aiD (by simp) ag.obj fun aQ cN=>?_;unfold Pn;simp[eS,hu,av,cD,aA];(with_reducible repeat' first|refine aj ?_|simp[hu,av,cD,aA]);refine n3 (fun(x:(Nat×Nat)×List α)=>⟨[(2,.int .i64 m),(4,.ptr (.loc 0) 0),(8,.int .i64 x.1.1),(9,.int .i64 x.1.2)],(.loc 0,[.func g lc,.func b5 b0])::(S x.2).b,(S x.2).e,1,cW (S l)⟩) (fun x=>x.1.1+x.1.2)
  (fun x=>x.2.length=n∧0<x.1.1∧0<x.1.2∧a+x.1.1≤m∧m+x.1.2≤b∧gk a b l x.2∧∀k,l[hO a m b k]? =x.2[hO (m-x.1.1) m (m+x.1.2) k]?) ((m-a,b-m),l)
  (H.weak ar ar (by simp[aB];omega) (by simp[cD,aA]) aO aO) ⟨ar,by simp;omega,by simp;omega,by simp;omega,by simp;omega,.refl _,fun k=>by simp[show m-(m-a)=a by omega,show m+(b-m)=b by omega]⟩ ?_
 rintro⟨⟨i,j⟩,lk⟩ ⟨J,hi,af,gd,ES,U,ao⟩ _;simp only at J hi af gd ES U ao;simp[Pv.look];((with_reducible repeat' first|refine aj ?_|simp[Pv.look]|((first|apply bR|apply bU|apply bT)<;>intro h<;>try simp at h))<;>(try exact cv))
 ·have ak:((m:Int)-i)=(m-i:Nat):=by omega
  simp only[ib H,H.slc,H.ssc,ak,h5];refine H.doFn J (I2 H lk J (m-i) m j (by omega) (by omega)) (fun aX h=>by rw[h.1.length];exact J) (by simp[aG,aB,H.kdata J]) ?_;rintro aX ⟨a6,bB⟩;have bS:aX.length=n:=by rw[a6.length];exact J
  simp;((with_reducible repeat' first|refine aj ?_|simp|((first|apply bR|apply bU|apply bT)<;>intro h<;>try simp at h))<;>(try exact cv));refine bO.whl ((i-j,j),aX) (by simp;omega) ⟨bS,by simp;omega,af,by simp;omega,ES,U.trans (a6.mono (by omega) (by omega)),fun k=>?_⟩ (H.weakC ar bS (by simp[aB];omega));rw[ao,bB];congr 1;simp only[hO,rR];repeat' split
  all_goals omega
 ·have ak:((m:Int)-i)=(m-i:Nat):=by omega
  have aC:((m:Int)+j-i)=(m+j-i:Nat):=by omega
  simp only[ib H,H.slc,H.ssc,ak,aC,h5];refine H.doFn J (I2 H lk J (m-i) (m+j-i) i (by omega) (by omega)) (fun aX h=>by rw[h.1.length];exact J) (by simp[aG,aB,H.kdata J]) ?_;rintro aX ⟨a6,bB⟩;have bS:aX.length=n:=by rw[a6.length];exact J
  simp;(with_reducible repeat' first|refine aj ?_|simp);refine bO.whl ((i,j-i),aX) (by simp;omega) ⟨bS,hi,by simp;omega,gd,by simp;omega,U.trans (a6.mono (by omega) (by omega)),fun k=>?_⟩ (H.weakC ar bS (by simp[aB];omega));rw[ao,bB];congr 1;simp only[hO,rR];repeat' split
  all_goals omega
 ·have ak:((m:Int)-i)=(m-i:Nat):=by omega
  simp only[ib H,H.slc,H.ssc,ak,h5];refine H.doFn J (I2 H lk J (m-i) m i (by omega) (by omega)) (fun aX h=>by rw[h.1.length];exact J) (by simp[aG,aB,H.kdata J]) ?_;rintro aX ⟨a6,bB⟩;have bS:aX.length=n:=by rw[a6.length];exact J
  simp;refine H.ret ar bS (.inr rfl) ⟨rfl,aX,rfl,U.trans (a6.mono (by omega) (by omega)),fun k=>?_⟩;rw[ao,bB];congr 1;simp only[hO,rR];repeat' split
  all_goals omega
end Go.Proofs.YtohaalphocaebaaGreat
namespace Go.Proofs.YtohaalphocaebaaGreat
open Go Go.Pv
variable {α:Type} {S:List α→cE} {n g b5:Nat} {lc b0:List ah} {lt:α→α→Bool}
def ts(lt:α→α→Bool)(a b j:Nat)(l:List α):Prop:= ∀p q x y,a≤p→p<q→q<b→q≠j→l[p]? =some x→l[q]? =some y→lt y x=false
theorem ts.swap(bA:p9 lt){a b j:Nat}{l:List α}(h:ts lt a b (j+1) l)(RI:a≤j)(ES:j+1<b)(af:j+1<l.length){x y:α}(ad:l[j+1]? =some x)(aM:l[j]? =some y)(hL:lt x y=true):ts lt a b j (hb l (j+1) j):=by
 intro p q u v bH kh br apd hu aJ;rw[zM _ _ _ _ af (by omega)]at hu aJ;rw[if_neg (by omega:¬(q=j))]at aJ;split at aJ
 ·rename_i e;subst e;rw[aM]at aJ;cases aJ;split at hu
  ·omega
  ·split at hu
   ·rw[ad]at hu;cases hu;exact bA.asym _ _ hL
   ·exact h p j u y bH (by omega) (by omega) (by omega) hu aM
 ·split at hu
  ·rename_i e;subst e;rw[aM]at hu;cases hu;exact h j q y v RI (by omega) br (by omega) aM aJ
  ·split at hu
   ·rename_i e;subst e;rw[ad]at hu;cases hu;exact h (p+1) q x v (by omega) (by omega) br (by omega) ad aJ
   ·exact h p q u v bH kh br (by omega) hu aJ
theorem ts.done(bA:p9 lt){a b j:Nat}{l:List α}(h:ts lt a b (j+1) l)(RI:a≤j)(ES:j+1<b){x y:α}(ad:l[j+1]? =some x)(aM:l[j]? =some y)(hL:lt x y=false):e7 lt a b l:=by
 intro p q u v bH kh br hu aJ;by_cases e:q=j+1
 ·subst e;rw[ad]at aJ;cases aJ;by_cases aC:p=j
  ·subst aC;rw[aM]at hu;cases hu;exact hL
  ·exact bA.ntr _ _ _ (h p j u y bH (by omega) (by omega) (by omega) hu aM) hL
 ·exact h p q u v bH kh br e hu aJ
theorem ts.first{a b:Nat}{l:List α}(h:ts lt a b a l):e7 lt a b l:=fun p q u v bH kh br hu aJ=>h p q u v bH kh br (by omega) hu aJ
theorem e7.but{a b:Nat}{l:List α}(h:e7 lt a b l):ts lt a (b+1) b l:=fun p q u v bH kh br JG hu aJ=>h p q u v bH kh (by omega) hu aJ
theorem Rj(H:e1 S n g b5 lc b0 lt)(bA:p9 lt)(l:List α)(ar:l.length=n)(a b:Nat)(mN:a≤b)(ae:b≤n):
  bF al 260 [eS g b5 lc b0,.int .i64 a,.int .i64 b] (S l) fun r ai=>r= .tuple []∧∃aX,ai=S aX∧gk a b l aX∧e7 lt a b aX:=by
 have ag:=H.ok l;have aA:∀l m,Pv.look (.loc m) (S l).b=none:=fun l=>(H.ok l).obj.1;have hu:∀l m cs,cw (.loc m) cs (S l).b=(S l).b++[(.loc m,cs)]:=fun l m cs=>jB (aA l m);have av:∀m,aD.loc m∉cW (S l):=jx ag.obj;have hle:=H.le;refine bF.mk mixed AK QU UM (by simp) ag.obj fun aQ cN=>?_;unfold H0;simp[eS,hu,av,cD,aA];(with_reducible repeat' first|refine aj ?_|simp[hu,av,cD,aA]);refine n3 (fun(x:Nat×List α)=>⟨[(1,.int .i64 a),(2,.int .i64 b),(3,.ptr (.loc 0) 0),(6,.int .i64 x.1)],(.loc 0,[.func g lc,.func b5 b0])::(S x.2).b,(S x.2).e,1,cW (S l)⟩) (fun x=>b+1-x.1)
  (fun x=>x.2.length=n∧a<x.1∧x.1≤b+1∧(x.1≤b∨x.1=a+1)∧gk a b l x.2∧e7 lt a x.1 x.2) (a+1,l)
  (H.weak ar ar (by simp[aB]) (by simp[cD,aA]) aO aO) ⟨ar,by simp,by simp;omega,.inr rfl,.refl _,fun i j x y J U ao=>by simp at ao;omega⟩ ?_
 rintro⟨i,lk⟩ ⟨J,mO,zh,sD,U,ao⟩ _;simp only at J mO zh sD U ao;simp;((with_reducible repeat' first|refine aj ?_|simp|((first|apply bR|apply bU|apply bT)<;>intro h<;>try simp at h))<;>(try exact cv))
 ·refine n3 (fun(x:Nat×List α)=>⟨[(1,.int .i64 a),(2,.int .i64 b),(3,.ptr (.loc 0) 0),(6,.int .i64 i),(7,.int .i64 x.1)],(.loc 0,[.func g lc,.func b5 b0])::(S x.2).b,(S x.2).e,1,cW (S l)⟩) (fun x=>x.1)
   (fun x=>x.2.length=n∧a≤x.1∧x.1≤i∧gk a b l x.2∧ts lt a (i+1) x.1 x.2) (i,lk)
   (H.weakC ar J (by simp[aB])) ⟨J,by simp;omega,by simp,U,e7.but ao⟩ ?_
  rintro⟨j,Ct⟩ ⟨aZ,af1,agi,bI,ck⟩ _;simp only at aZ af1 agi bI ck;simp[Pv.look];((with_reducible repeat' first|refine aj ?_|simp[Pv.look]|((first|apply bR|apply bU|apply bT)<;>intro h<;>try simp at h))<;>(try exact cv))
  ·obtain⟨dy,rfl⟩:∃dy,j=dy+1:=⟨j-1,by omega⟩;obtain⟨x,ad⟩:∃x,Ct[dy+1]? =some x:=⟨_,cf (by omega)⟩;obtain⟨y,aM⟩:∃y,Ct[dy]? =some y:=⟨_,cf (by omega)⟩;have ak:(((dy+1:Nat):Int)-1)=(dy:Nat):=by omega
   rw[H.slc,ak];refine H.doLess aZ (dy+1) dy ad aM ?_;simp;cases hL:lt x y with
   |true=>
    simp[Pv.look];(with_reducible repeat' first|refine aj ?_|simp[Pv.look]);have bj:((dy:Int)+1)=(dy+1:Nat):=by omega
    rw[H.ssc,bj];refine H.doSwap aZ (dy+1) dy (by omega) (by omega) (by omega) ?_;simp;(with_reducible repeat' first|refine aj ?_|simp);refine bO.whl (dy,hb Ct (dy+1) dy) (by simp) ⟨by simp[aZ],by simp;omega,by simp;omega,.step bI (by omega) (by omega) (by omega) (by omega) (by omega) (by omega),ck.swap bA (by omega) (by omega) (by omega) ad aM hL⟩ (H.weakC ar (by simp[aZ]) (by simp[aB]))
   |false=>simp;((with_reducible repeat' first|refine aj ?_|simp|((first|apply bR|apply bU|apply bT)<;>intro h<;>try simp at h))<;>(try exact cv));refine bO.whl (i+1,Ct) (by simp;omega) ⟨aZ,by simp;omega,by simp;omega,by simp;omega,bI,ck.done bA (by omega) (by omega) ad aM hL⟩ (H.weakC ar aZ (by simp[aB]))
  ·obtain rfl:j=a:=by omega
   refine bO.whl (i+1,Ct) (by simp;omega) ⟨aZ,by simp;omega,by simp;omega,by simp;omega,bI,ck.first⟩ (H.weakC ar aZ (by simp[aB]))
 ·refine H.ret ar J (.inr rfl) ⟨rfl,lk,rfl,U,fun p q x y bH kh br=>ao p q x y bH kh (by omega)⟩
end Go.Proofs.YtohaalphocaebaaGreat
namespace Go.Proofs.YtohaalphocaebaaGreat
open Go Go.Pv
variable {α:Type} [Inhabited α] {S:List α→cE} {n g b5:Nat} {lc b0:List ah} {lt:α→α→Bool}
theorem yD{d:Array α}{i:Nat}(h:i<d.size):d.toList[i]? =some d[i]!:=by simp[getElem!_pos,h]
theorem FG(d:Array α){i j:Nat}(hi:i<d.size)(af:j<d.size):hb d.toList i j=(Sort.swp d i j).toList:=by simp[hb,Sort.swp,yD hi,yD af]
section
variable (H:e1 S n g b5 lc b0 lt)
include H
theorem e1.swapA{d:Array α}(J:d.size=n)(U:2≤n)(i j:Nat)(hi:i<n)(af:j<n){t:List (Nat×ah)}{D:List ah}{o:List aD}{b9:aY Nat}{K:bp→Prop}
  (h:∀o,K ⟨eM b9 (.tuple []) t,(.loc 0,D)::(S (Sort.swp d i j).toList).b,(S (Sort.swp d i j).toList).e,1,o⟩):cV al b5 (.int .i64 i:: .int .i64 j::b0) ⟨t,(.loc 0,D)::(S d.toList).b,(S d.toList).e,1,o⟩ b9 K:=by
 refine H.doSwap (by simpa using J) i j hi af U ?_;rw[FG d (by omega) (by omega)];exact h _
theorem e1.lessA{d:Array α}(J:d.size=n)(i j:Nat)(hi:i<n)(af:j<n){t:List (Nat×ah)}{D:List ah}{o:List aD}{b9:aY Nat}{K:bp→Prop}
  (h:∀o,K ⟨eM b9 (.bool (lt d[i]! d[j]!)) t,(.loc 0,D)::(S d.toList).b,(S d.toList).e,1,o⟩):cV al g (.int .i64 i:: .int .i64 j::lc) ⟨t,(.loc 0,D)::(S d.toList).b,(S d.toList).e,1,o⟩ b9 K:=
 H.doLess (by simpa using J) i j (yD (by omega)) (yD (by omega)) (h _)
theorem e1.fnA{d d2:Array α}(J:d.size=n)(U:d2.size=n){f:Nat}{args:List ah}{r:ah}(aH:bF al f args (S d.toList) fun eF ai=>eF=r∧ai=S d2.toList)(ab:aG (inObs (S d.toList)) args){t:List (Nat×ah)}{D:List ah}{o:List aD}{b9:aY Nat}{K:bp→Prop}
  (h:∀o,K ⟨eM b9 r t,(.loc 0,D)::(S d2.toList).b,(S d2.toList).e,1,o⟩):cV al f args ⟨t,(.loc 0,D)::(S d.toList).b,(S d.toList).e,1,o⟩ b9 K:=
 H.call (by simpa using J) (R:=fun eF aX=>eF=r∧aX=d2.toList) (aH.mono fun r ai ⟨ak,aC⟩=>⟨_,aC,ak,rfl⟩) (fun r aX ⟨_,e⟩=>by rw[e];simpa using U) ab (by rintro eF aX ⟨rfl,rfl⟩;exact h _)
end
section
variable (H:e1 S n g b5 lc b0 lt)
include H
theorem e1.loopA{β:Type}{xM:List α}(ar:xM.length=n){t:List (Nat×ah)}{b:List (aD×List ah)}{e:List (aD×fM)}{q:Nat}{o:List aD}(ca:List Nat)(cs:β→List (Nat×ah))(A:β→Array α)(mx:β→Nat)(e5:β→Prop)(a0:β)(bh:(A a0).size=n)(bq:e5 a0)
  (vg:Pv.look (.loc 0) b=some [.func g lc,.func b5 b0]) (ae:∀k cs,Pv.look k (S (A a0).toList).b=some cs→Pv.look k b=some cs) (he:∀k o,Pv.look k (S (A a0).toList).e=some o→Pv.look k e=some o)
  (aL:∀x∈ud t ca++cs a0,Pv.get x.1 t=x.2∧aB (lV (S (A a0).toList) 1) x.2) {c:C} {Q:Exit→bp→Prop}
  (ag:∀a,e5 a→c0 al (cW (S xM)) c (bO (cW (S xM)) (AT (fun a=>⟨ud t ca++cs a,(.loc 0,[.func g lc,.func b5 b0])::(S (A a).toList).b,(S (A a).toList).e,1,cW (S xM)⟩) mx e5) (mx a) Q) ⟨ud t ca++cs a,(.loc 0,[.func g lc,.func b5 b0])::(S (A a).toList).b,(S (A a).toList).e,1,cW (S xM)⟩):
  c0 al (cW (S xM)) (.loop c) Q ⟨t,b,e,q,o⟩:=
 n3 (fun a=>⟨ud t ca++cs a,(.loc 0,[.func g lc,.func b5 b0])::(S (A a).toList).b,(S (A a).toList).e,1,cW (S xM)⟩) mx e5 a0 (H.weak ar (by simpa using bh) aL vg ae he) bq fun a af _=>ag a af
theorem e1.callA0{lk:List α}(J:lk.length=n){f:Nat}{args:List ah}{R:ah→List α→Prop}(aH:bF al f args (S lk) fun r ai=> ∃aX,ai=S aX∧R r aX)(a1:∀r aX,R r aX→aX.length=n)(ab:aG (inObs (S lk)) args){t:List (Nat×ah)}{D:List ah}{o:List aD}{d:aY Nat}{K:bp→Prop}
  (h:∀r aX,R r aX→∀o,K ⟨eM d r t,(.loc 0,D)::(S aX).b,(S aX).e,1,o⟩):cV al f args ⟨t,(S lk).b++[(.loc 0,D)],(S lk).e,1,o⟩ d K:=by
 refine cV.ob aH (H.ok lk) (fun k cs ad=>by rw[cD,ad]) (fun _ _ ad=>ad) ab ?_;rintro r ai ⟨aX,rfl,aK⟩;refine⟨H.same _ _ J (a1 _ _ aK),?_⟩;have ak:cn (S lk).b ((S lk).b++[(.loc 0,D)])=[(.loc 0,D)]:=by rw[hT,gA];simp[cn,H.loc]
 have aC:cn (S lk).e (S lk).e=[]:=gA _;have:=h _ _ aK (o++cW (S aX));simp only[ak,aC];exact this
theorem e1.swapA0{d:Array α}(J:d.size=n)(U:2≤n)(i j:Nat)(hi:i<n)(af:j<n){t:List (Nat×ah)}{D:List ah}{o:List aD}{b9:aY Nat}{K:bp→Prop}
  (h:∀o,K ⟨eM b9 (.tuple []) t,(.loc 0,D)::(S (Sort.swp d i j).toList).b,(S (Sort.swp d i j).toList).e,1,o⟩):cV al b5 (.int .i64 i:: .int .i64 j::b0) ⟨t,(S d.toList).b++[(.loc 0,D)],(S d.toList).e,1,o⟩ b9 K:=by
 refine H.callA0 (by simpa using J) (R:=fun r aX=>r= .tuple []∧aX=(Sort.swp d i j).toList) ((H.swap d.toList (by simpa using J) U i j hi af).mono fun r ai ⟨ak,aC⟩=>⟨_,aC,ak,FG d (by omega) (by omega)⟩) (fun r aX ⟨_,e⟩=>by rw[e];simp[Sort.swp,J]) (by simp[aB,aG,H.ksc d.toList (by simpa using J)]) ?_;rintro r aX ⟨rfl,rfl⟩ o;exact h o
theorem e1.retA{l:List α}{d:Array α}(ar:l.length=n)(J:d.size=n){Q:ah→cE→Prop}{e:Exit}(he:e= .ret∨e= .normal){t:List (Nat×ah)}{D:List ah}{q:Nat}{o:List aD}(br:Q (.tuple []) (S d.toList)):cH [] (S l) Q e ⟨t,(.loc 0,D)::(S d.toList).b,(S d.toList).e,q,o⟩:=H.ret ar (by simpa using J) he br
theorem e1.retR{fh:List bt}{l:List α}{d:Array α}(ar:l.length=n)(J:d.size=n){Q:ah→cE→Prop}{e:Exit}(he:e= .ret∨e= .normal){t:List (Nat×ah)}{D:List ah}{q:Nat}{o:List aD}(h:cI ⟨t,(.loc 0,D)::(S d.toList).b,(S d.toList).e,q,o⟩ fh fun r=>aB (inObs (S d.toList)) r∧Q r (S d.toList)):cH fh (S l) Q e ⟨t,(.loc 0,D)::(S d.toList).b,(S d.toList).e,q,o⟩:=by
 refine cH.at (S d.toList) he (H.ok _) (H.same _ _ ar (by simpa using J)) (fun k cs ad=>?_) (fun _ _ ad=>ad) h;cases k with
 |loc m=>rw[H.loc m]at ad;cases ad
 |obj m=>simpa[Pv.look]using ad
end
theorem gK(d:Array α)(i j:Nat):(Sort.swp d i j).size=d.size:=by simp[Sort.swp]
end Go.Proofs.YtohaalphocaebaaGreat
namespace Go.Proofs.YtohaalphocaebaaGreat
open Go Go.Pv
def O7:C:=(aa [bQ 2 0] (.seq (.cond (.c (.bool false)) (aa [I 3 0,b1 4 (.conv .u32 (.t 3)),cQ 5 258 4,I 2 5] .ret) .skip) (aa [I 6 0,cQ 7 259 6,I 2 7] .ret)))
@[simp] def akh:List bt:=[.tmp 2]
def H2:C:=(aa [be 91 2 4,I 92 1,I 93 2,I 94 11,dI 95 267 [.t 91,.t 92,.t 93,.t 94],I 90 95,c2 96 0 90,c2 97 1 90,I 14 96,I 15 97] (aa [I 98 15,I 9 98] (aa [I 99 14,I 100 1,bk 101 .sub 99 100,I 102 2,I 103 14,bk 104 .sub 102 103,I 16 101,I 17 104] (aa [I 105 10,aS 106 .quo 105 8,I 18 106] (aa [I 107 16,I 108 17,bk 109 .lss 107 108] (aT 109 (aa [I 110 16,I 111 18,bk 112 .geq 110 111,I 8 112] (aa [be 113 2 4,I 114 1,I 115 14,I 116 3,dI 117 210 [.t 113,.t 114,.t 115,.t 116]] (.region [I 118 14,aS 119 .add 118 1,I 1 119]))) (aa [I 120 17,I 121 18,bk 122 .geq 120 121,I 8 122] (aa [be 123 2 4,I 124 14,aS 125 .add 124 1,I 126 2,I 127 3,dI 128 210 [.t 123,.t 125,.t 126,.t 127]] (.region [I 129 14,I 2 129])))))))))
def Ba:C:=(.seq (aa [I 73 1,aS 74 .gtr 73 0,I 75 74,aq 75 true (aI 76 0 1 4),aq 75 true (ax 77 1 76),b4 75 true 78 1,aq 75 true (aS 79 .sub 78 1),b4 75 true 80 11,aq 75 true (gF 81 77 [.t 79,.t 80]),aq 75 true (cx 82 81),dK 83 75 82] (aT 83 (aa [be 84 2 4,I 85 1,I 86 2,I 87 11,dI 88 266 [.t 84,.t 85,.t 86,.t 87],I 13 88] (aa [I 89 13,I 1 89] (.exit 1))) .skip)) H2)
def H3:C:=(.seq (aa [I 61 8,I 62 61,b4 62 true 63 9,dK 64 62 63,I 65 64,b4 65 true 66 12,aq 65 true (aS 67 .eql 66 1),dK 68 65 67] (aT 68 (aa [be 69 2 4,I 70 1,I 71 2,dI 72 265 [.t 69,.t 70,.t 71]] (aT 72 .ret .skip)) .skip)) Ba)
def H4:C:=(aa [be 43 2 4,I 44 1,I 45 2,dI 46 263 [.t 43,.t 44,.t 45],I 42 46,c2 47 0 42,c2 48 1 42,I 11 47,I 12 48] (.seq (aa [I 49 12,aS 50 .eql 49 2] (aT 50 (aa [be 51 2 4,I 52 1,I 53 2,dI 54 264 [.t 51,.t 52,.t 53]] (aa [I 55 2,aS 56 .sub 55 1,I 57 11,I 58 1,bk 59 .sub 57 58,bk 60 .sub 56 59,I 11 60] (.region [bQ 12 1]))) .skip)) H3))
def Pl:C:=(aa [cM 4 0] (aa [bf 8 true] (aa [bf 9 true] (.block 0 (.loop (.block 1 (aa [I 19 2,I 20 1,bk 21 .sub 19 20,I 10 21] (.seq (aa [I 22 10,aS 23 .leq 22 12] (aT 23 (aa [be 24 2 4,I 25 1,I 26 2,dI 27 260 [.t 24,.t 25,.t 26]] .ret) .skip)) (.seq (aa [I 28 3,aS 29 .eql 28 0] (aT 29 (aa [be 30 2 4,I 31 1,I 32 2,dI 33 261 [.t 30,.t 31,.t 32]] .ret) .skip)) (.seq (aa [I 34 8,cx 35 34] (aT 35 (aa [be 36 2 4,I 37 1,I 38 2,dI 39 262 [.t 36,.t 37,.t 38]] (.region [I 40 3,aS 41 .sub 40 1,I 3 41])) .skip)) H4))))))))))
@[simp] def VE:List bt:=[]
@[simp] def arx:List bt:=[.tmp 2]
def O8:C:=(aa [bQ 2 0] (.seq (aa [I 3 0,b1 4 (.bin .geq false (.t 3) (.c (.int .u64 4294967296)))] (aT 4 (aa [I 5 0,b1 6 (.bin .shr false (.t 5) (.c (.int .u64 32))),I 0 6] (.region [bQ 2 32])) .skip)) (.seq (aa [I 7 0,b1 8 (.bin .geq false (.t 7) (.c (.int .u64 65536)))] (aT 8 (aa [I 9 0,b1 10 (.bin .shr false (.t 9) (.c (.int .u64 16))),I 0 10] (.region [I 11 2,aS 12 .add 11 16,I 2 12])) .skip)) (.seq (aa [I 13 0,b1 14 (.bin .geq false (.t 13) (.c (.int .u64 256)))] (aT 14 (aa [I 15 0,b1 16 (.bin .shr false (.t 15) (.c (.int .u64 8))),I 0 16] (.region [I 17 2,aS 18 .add 17 8,I 2 18])) .skip)) (aa [I 19 2,I 20 0,b1 21 (.conv .u8 (.t 20)),b1 22 (.sidx (.c (.str [0,1,2,2,3,3,3,3,4,4,4,4,4,4,4,4,5,5,5,5,5,5,5,5,5,5,5,5,5,5,5,5,6,6,6,6,6,6,6,6,6,6,6,6,6,6,6,6,6,6,6,6,6,6,6,6,6,6,6,6,6,6,6,6,7,7,7,7,7,7,7,7,7,7,7,7,7,7,7,7,7,7,7,7,7,7,7,7,7,7,7,7,7,7,7,7,7,7,7,7,7,7,7,7,7,7,7,7,7,7,7,7,7,7,7,7,7,7,7,7,7,7,7,7,7,7,7,7,8,8,8,8,8,8,8,8,8,8,8,8,8,8,8,8,8,8,8,8,8,8,8,8,8,8,8,8,8,8,8,8,8,8,8,8,8,8,8,8,8,8,8,8,8,8,8,8,8,8,8,8,8,8,8,8,8,8,8,8,8,8,8,8,8,8,8,8,8,8,8,8,8,8,8,8,8,8,8,8,8,8,8,8,8,8,8,8,8,8,8,8,8,8,8,8,8,8,8,8,8,8,8,8,8,8,8,8,8,8,8,8,8,8,8,8,8,8,8,8,8,8,8,8,8,8,8,8])) (.t 21)),b1 23 (.conv .i64 (.t 22)),bk 24 .add 19 23,I 2 24] .ret)))))
@[simp] def Ai:List bt:=[.tmp 2]
def Pc:C:=(aa [cM 3 0] (aa [I 11 1,I 6 11] (aa [bQ 7 0] (aa [I 12 2,I 13 1,bk 14 .sub 12 13,I 8 14] (.seq (aa [I 15 8,aS 16 .sub 15 1,aS 17 .quo 16 2,I 9 17] (.block 0 (.loop (.seq (aa [I 18 9,aS 19 .geq 18 0] (aT 19 .skip (.exit 0))) (.seq (.block 1 (.region [be 22 2 3,I 23 9,I 24 8,I 25 6,dI 26 278 [.t 22,.t 23,.t 24,.t 25]])) (.region [I 20 9,aS 21 .sub 20 1,I 9 21])))))) (aa [I 27 8,aS 28 .sub 27 1,I 10 28] (.block 2 (.loop (.seq (aa [I 29 10,aS 30 .geq 29 0] (aT 30 .skip (.exit 2))) (.seq (.block 3 (aa [aI 33 1 1 3,ax 34 1 33,I 35 6,I 36 6,I 37 10,bk 38 .add 36 37,gF 39 34 [.t 35,.t 38]] (.region [be 40 2 3,I 41 7,I 42 10,I 43 6,dI 44 278 [.t 40,.t 41,.t 42,.t 43]]))) (.region [I 31 10,aS 32 .sub 31 1,I 10 32])))))))))))
@[simp] def aki:List bt:=[]
def Pa:C:=(aa [cM 3 0] (aa [I 11 2,I 12 1,bk 13 .sub 11 12,I 6 13] (aa [I 14 6,aS 15 .geq 14 8] (aT 15 (aa [I 16 6,b1 17 (.conv .u64 (.t 16)),cK (.alloc 7 (some 902) (.int .u64 0)),bW 1 7 17] (aa [I 18 6,cQ 19 279 18,I 8 19] (aa [I 20 1,I 21 6,aS 22 .quo 21 4,aS 23 .mul 22 2,bk 24 .add 20 23,aS 25 .sub 24 1,I 9 25] (.block 0 (.loop (.seq (aa [I 26 9,I 27 1,I 28 6,aS 29 .quo 28 4,aS 30 .mul 29 2,bk 31 .add 27 30,aS 32 .add 31 1,bk 33 .leq 26 32] (aT 33 .skip (.exit 0))) (.seq (.block 1 (aa [cQ 36 280 7,I 37 8,b1 38 (.bin .sub true (.t 37) (.c (.int .u64 1))),bk 39 .and 36 38,b1 40 (.conv .i64 (.t 39)),I 10 40] (.seq (aa [I 41 10,I 42 6,bk 43 .geq 41 42] (aT 43 (.region [I 44 10,I 45 6,bk 46 .sub 44 45,I 10 46]) .skip)) (.region [aI 47 1 1 3,ax 48 1 47,I 49 9,I 50 1,I 51 10,bk 52 .add 50 51,gF 53 48 [.t 49,.t 52]])))) (.region [I 34 9,aS 35 .add 34 1,I 9 35])))))))) .skip))))
@[simp] def VA:List bt:=[]
def Pb:C:=(aa [cM 3 0,bQ 6 0,bQ 7 0] (aa [I 13 2,I 14 1,bk 15 .sub 13 14,I 8 15] (aa [cK (.alloc 9 (some 901) (.int .i64 0))] (aa [I 16 1,I 17 8,aS 18 .quo 17 4,aS 19 .mul 18 1,bk 20 .add 16 19,I 10 20] (aa [I 21 1,I 22 8,aS 23 .quo 22 4,aS 24 .mul 23 2,bk 25 .add 21 24,I 11 25] (aa [I 26 1,I 27 8,aS 28 .quo 27 4,aS 29 .mul 28 3,bk 30 .add 26 29,I 12 30] (.seq (aa [I 31 8,aS 32 .geq 31 8] (aT 32 (.seq (aa [I 33 8,aS 34 .geq 33 50] (aT 34 (aa [be 35 2 3,I 36 10,dI 37 281 [.t 35,.t 36,.t 9],I 10 37] (aa [be 38 2 3,I 39 11,dI 40 281 [.t 38,.t 39,.t 9],I 11 40] (.region [be 41 2 3,I 42 12,dI 43 281 [.t 41,.t 42,.t 9],I 12 43]))) .skip)) (.region [be 44 2 3,I 45 10,I 46 11,I 47 12,dI 48 282 [.t 44,.t 45,.t 46,.t 47,.t 9],I 11 48])) .skip)) (aa [ax 49 1 9] (.block 0 (aa [aS 52 .eql 49 0,I 51 52] (aT 51 (aa [I 53 11,I 6 53,bQ 7 1] .ret) (aa [aS 55 .eql 49 12,I 54 55] (aT 54 (aa [I 56 11,I 6 56,bQ 7 2] .ret) (aa [I 50 11,I 6 50,bQ 7 0] .ret))))))))))))))
@[simp] def Lx:List bt:=[.tmp 6,.tmp 7]
def Pm:C:=(aa [cM 3 0] (aa [I 8 1,I 6 8] (aa [I 9 2,aS 10 .sub 9 1,I 7 10] (.block 0 (.loop (.seq (aa [I 11 6,I 12 7,bk 13 .lss 11 12] (aT 13 .skip (.exit 0))) (.block 1 (aa [aI 14 1 1 3,ax 15 1 14,I 16 6,I 17 7,gF 18 15 [.t 16,.t 17]] (aa [I 19 6,aS 20 .add 19 1,I 6 20] (.region [I 21 7,aS 22 .sub 21 1,I 7 22]))))))))))
@[simp] def akk:List bt:=[]
def Ph:C:=(aa [cM 3 0,bf 6 false] (aa [I 11 1,aS 12 .add 11 1,I 7 12] (.seq (aa [bQ 8 0] (.block 0 (.loop (.seq (aa [I 13 8,aS 14 .lss 13 5] (aT 14 .skip (.exit 0))) (.seq (.block 1 (.seq (.block 2 (.loop (.seq (aa [I 17 7,I 18 2,bk 19 .lss 17 18,I 20 19,aq 20 true (aI 21 0 1 3),aq 20 true (ax 22 1 21),b4 20 true 23 7,b4 20 true 24 7,aq 20 true (aS 25 .sub 24 1),aq 20 true (gF 26 22 [.t 23,.t 25]),aq 20 true (cx 27 26),dK 28 20 27] (aT 28 .skip (.exit 2))) (.block 3 (.region [I 29 7,aS 30 .add 29 1,I 7 30]))))) (.seq (aa [I 31 7,I 32 2,bk 33 .eql 31 32] (aT 33 (aa [bf 6 true] .ret) .skip)) (.seq (aa [I 34 2,I 35 1,bk 36 .sub 34 35,aS 37 .lss 36 50] (aT 37 (aa [bf 6 false] .ret) .skip)) (aa [aI 38 1 1 3,ax 39 1 38,I 40 7,I 41 7,aS 42 .sub 41 1,gF 43 39 [.t 40,.t 42]] (.seq (aa [I 44 7,I 45 1,bk 46 .sub 44 45,aS 47 .geq 46 2] (aT 47 (aa [I 48 7,aS 49 .sub 48 1,I 9 49] (.block 4 (.loop (.seq (aa [I 50 9,aS 51 .geq 50 1] (aT 51 .skip (.exit 4))) (.seq (.block 5 (.seq (aa [aI 54 0 1 3,ax 55 1 54,I 56 9,I 57 9,aS 58 .sub 57 1,gF 59 55 [.t 56,.t 58],cx 60 59] (aT 60 (.exit 4) .skip)) (.region [aI 61 1 1 3,ax 62 1 61,I 63 9,I 64 9,aS 65 .sub 64 1,gF 66 62 [.t 63,.t 65]]))) (.region [I 52 9,aS 53 .sub 52 1,I 9 53])))))) .skip)) (aa [I 67 2,I 68 7,bk 69 .sub 67 68,aS 70 .geq 69 2] (aT 70 (aa [I 71 7,aS 72 .add 71 1,I 10 72] (.block 6 (.loop (.seq (aa [I 73 10,I 74 2,bk 75 .lss 73 74] (aT 75 .skip (.exit 6))) (.seq (.block 7 (.seq (aa [aI 78 0 1 3,ax 79 1 78,I 80 10,I 81 10,aS 82 .sub 81 1,gF 83 79 [.t 80,.t 82],cx 84 83] (aT 84 (.exit 6) .skip)) (.region [aI 85 1 1 3,ax 86 1 85,I 87 10,I 88 10,aS 89 .sub 88 1,gF 90 86 [.t 87,.t 89]]))) (.region [I 76 10,aS 77 .add 76 1,I 10 77])))))) .skip)))))))) (.region [I 15 8,aS 16 .add 15 1,I 8 16])))))) (aa [bf 6 false] .ret))))
@[simp] def Gl:List bt:=[.tmp 6]
def Pj:C:=(aa [cM 4 0,bQ 8 0] (aa [aI 11 1 1 4,ax 12 1 11,I 13 1,I 14 3,gF 15 12 [.t 13,.t 14]] (aa [I 16 1,aS 17 .add 16 1,I 18 2,aS 19 .sub 18 1,I 9 17,I 10 19] (.seq (.block 0 (.loop (.block 1 (.seq (.block 2 (.loop (.seq (aa [I 20 9,I 21 10,bk 22 .leq 20 21,I 23 22,aq 23 true (aI 24 0 1 4),aq 23 true (ax 25 1 24),b4 23 true 26 1,b4 23 true 27 9,aq 23 true (gF 28 25 [.t 26,.t 27]),aq 23 true (cx 29 28),dK 30 23 29] (aT 30 .skip (.exit 2))) (.block 3 (.region [I 31 9,aS 32 .add 31 1,I 9 32]))))) (.seq (.block 4 (.loop (.seq (aa [I 33 9,I 34 10,bk 35 .leq 33 34,I 36 35,aq 36 true (aI 37 0 1 4),aq 36 true (ax 38 1 37),b4 36 true 39 1,b4 36 true 40 10,aq 36 true (gF 41 38 [.t 39,.t 40]),dK 42 36 41] (aT 42 .skip (.exit 4))) (.block 5 (.region [I 43 10,aS 44 .sub 43 1,I 10 44]))))) (.seq (aa [I 45 9,I 46 10,bk 47 .gtr 45 46] (aT 47 (.exit 0) .skip)) (aa [aI 48 1 1 4,ax 49 1 48,I 50 9,I 51 10,gF 52 49 [.t 50,.t 51]] (aa [I 53 9,aS 54 .add 53 1,I 9 54] (.region [I 55 10,aS 56 .sub 55 1,I 10 56]))))))))) (aa [I 57 9,I 8 57] .ret)))))
@[simp] def Lz:List bt:=[.tmp 8]
def Pk:C:=(aa [cM 4 0,bQ 8 0,bf 9 false] (aa [aI 12 1 1 4,ax 13 1 12,I 14 1,I 15 3,gF 16 13 [.t 14,.t 15]] (aa [I 17 1,aS 18 .add 17 1,I 19 2,aS 20 .sub 19 1,I 10 18,I 11 20] (.seq (.block 0 (.loop (.seq (aa [I 21 10,I 22 11,bk 23 .leq 21 22,I 24 23,aq 24 true (aI 25 0 1 4),aq 24 true (ax 26 1 25),b4 24 true 27 10,b4 24 true 28 1,aq 24 true (gF 29 26 [.t 27,.t 28]),dK 30 24 29] (aT 30 .skip (.exit 0))) (.block 1 (.region [I 31 10,aS 32 .add 31 1,I 10 32]))))) (.seq (.block 2 (.loop (.seq (aa [I 33 10,I 34 11,bk 35 .leq 33 34,I 36 35,aq 36 true (aI 37 0 1 4),aq 36 true (ax 38 1 37),b4 36 true 39 11,b4 36 true 40 1,aq 36 true (gF 41 38 [.t 39,.t 40]),aq 36 true (cx 42 41),dK 43 36 42] (aT 43 .skip (.exit 2))) (.block 3 (.region [I 44 11,aS 45 .sub 44 1,I 11 45]))))) (.seq (aa [I 46 10,I 47 11,bk 48 .gtr 46 47] (aT 48 (aa [aI 49 1 1 4,ax 50 1 49,I 51 11,I 52 1,gF 53 50 [.t 51,.t 52]] (aa [I 54 11,I 8 54,bf 9 true] .ret)) .skip)) (aa [aI 55 1 1 4,ax 56 1 55,I 57 10,I 58 11,gF 59 56 [.t 57,.t 58]] (aa [I 60 10,aS 61 .add 60 1,I 10 61] (aa [I 62 11,aS 63 .sub 62 1,I 11 63] (.seq (.block 4 (.loop (.block 5 (.seq (.block 6 (.loop (.seq (aa [I 64 10,I 65 11,bk 66 .leq 64 65,I 67 66,aq 67 true (aI 68 0 1 4),aq 67 true (ax 69 1 68),b4 67 true 70 10,b4 67 true 71 1,aq 67 true (gF 72 69 [.t 70,.t 71]),dK 73 67 72] (aT 73 .skip (.exit 6))) (.block 7 (.region [I 74 10,aS 75 .add 74 1,I 10 75]))))) (.seq (.block 8 (.loop (.seq (aa [I 76 10,I 77 11,bk 78 .leq 76 77,I 79 78,aq 79 true (aI 80 0 1 4),aq 79 true (ax 81 1 80),b4 79 true 82 11,b4 79 true 83 1,aq 79 true (gF 84 81 [.t 82,.t 83]),aq 79 true (cx 85 84),dK 86 79 85] (aT 86 .skip (.exit 8))) (.block 9 (.region [I 87 11,aS 88 .sub 87 1,I 11 88]))))) (.seq (aa [I 89 10,I 90 11,bk 91 .gtr 89 90] (aT 91 (.exit 4) .skip)) (aa [aI 92 1 1 4,ax 93 1 92,I 94 10,I 95 11,gF 96 93 [.t 94,.t 95]] (aa [I 97 10,aS 98 .add 97 1,I 10 98] (.region [I 99 11,aS 100 .sub 99 1,I 11 100]))))))))) (aa [aI 101 1 1 4,ax 102 1 101,I 103 11,I 104 1,gF 105 102 [.t 103,.t 104]] (aa [I 106 11,I 8 106,bf 9 false] .ret))))))))))))
@[simp] def CY:List bt:=[.tmp 8,.tmp 9]
def Po:C:=(aa [cM 4 0] (aa [I 10 1,I 8 10] (.block 0 (.loop (.block 1 (aa [I 11 8,b1 12 (.bin .mul false (gp 2) (.t 11)),aS 13 .add 12 1,I 9 13] (.seq (aa [I 14 9,I 15 2,bk 16 .geq 14 15] (aT 16 (.exit 0) .skip)) (.seq (aa [I 17 9,aS 18 .add 17 1,I 19 2,bk 20 .lss 18 19,I 21 20,aq 21 true (aI 22 0 1 4),aq 21 true (ax 23 1 22),b4 21 true 24 3,b4 21 true 25 9,aq 21 true (bk 26 .add 24 25),b4 21 true 27 3,b4 21 true 28 9,aq 21 true (bk 29 .add 27 28),aq 21 true (aS 30 .add 29 1),aq 21 true (gF 31 23 [.t 26,.t 30]),dK 32 21 31] (aT 32 (.region [I 33 9,aS 34 .add 33 1,I 9 34]) .skip)) (.seq (aa [aI 35 0 1 4,ax 36 1 35,I 37 3,I 38 8,bk 39 .add 37 38,I 40 3,I 41 9,bk 42 .add 40 41,gF 43 36 [.t 39,.t 42],cx 44 43] (aT 44 .ret .skip)) (aa [aI 45 1 1 4,ax 46 1 45,I 47 3,I 48 8,bk 49 .add 47 48,I 50 3,I 51 9,bk 52 .add 50 51,gF 53 46 [.t 49,.t 52]] (.region [I 54 9,I 8 54])))))))))))
@[simp] def akm:List bt:=[]
def Pf:C:=(aa [b1 2 (.mov (.c (.int .u64 0)))] (aa [I 4 0,b1 5 (.conv .u64 (.t 4)),cQ 6 209 5,b1 7 (.conv .u64 (.t 6)),I 3 7] (aa [I 8 3,b1 9 (.bin .shl false (.c (.int .u64 1)) (.t 8)),I 2 9] .ret)))
@[simp] def VD:List bt:=[.tmp 2]
def Ps:C:=(aa [b1 2 (.mov (.c (.int .u64 0)))] (.seq (.drawn true 33 [I 3 0,fv 4 3,ax 5 1 4,I 6 0,fv 7 6,ax 8 1 7,b1 9 (.bin .shl false (.t 8) (.c (.int .u64 13))),bk 10 .xor 5 9,fv 11 3,bW 1 11 10]) (.seq (.drawn true 33 [I 12 0,fv 13 12,ax 14 1 13,I 15 0,fv 16 15,ax 17 1 16,b1 18 (.bin .shr false (.t 17) (.c (.int .u64 7))),bk 19 .xor 14 18,fv 20 12,bW 1 20 19]) (.seq (.drawn true 33 [I 21 0,fv 22 21,ax 23 1 22,I 24 0,fv 25 24,ax 26 1 25,b1 27 (.bin .shl false (.t 26) (.c (.int .u64 17))),bk 28 .xor 23 27,fv 29 21,bW 1 29 28]) (aa [I 30 0,fv 31 30,ax 32 1 31,I 2 32] .ret)))))
@[simp] def VG:List bt:=[.tmp 2]
def Pd:C:=(aa [cM 3 0,bQ 6 0] (aa [be 7 2 3,I 8 1,aS 9 .sub 8 1,I 10 1,I 11 1,aS 12 .add 11 1,I 13 2,dI 14 282 [.t 7,.t 9,.t 10,.t 12,.t 13],I 6 14] .ret))
@[simp] def VB:List bt:=[.tmp 6]
def Pe:C:=(aa [cM 5 0,bQ 10 0] (aa [be 12 2 5,I 13 1,I 14 2,I 15 4,dI 16 285 [.t 12,.t 13,.t 14,.t 15],I 11 16,c2 17 0 11,c2 18 1 11,I 1 17,I 2 18] (aa [be 20 2 5,I 21 2,I 22 3,I 23 4,dI 24 285 [.t 20,.t 21,.t 22,.t 23],I 19 24,c2 25 0 19,c2 26 1 19,I 2 25,I 3 26] (aa [be 28 2 5,I 29 1,I 30 2,I 31 4,dI 32 285 [.t 28,.t 29,.t 30,.t 31],I 27 32,c2 33 0 27,c2 34 1 27,I 1 33,I 2 34] (aa [I 35 2,I 10 35] .ret)))))
@[simp] def VC:List bt:=[.tmp 10]
def Pg:C:=(aa [cM 4 0,bQ 8 0,bQ 9 0] (.seq (aa [aI 10 0 1 4,ax 11 1 10,I 12 2,I 13 1,gF 14 11 [.t 12,.t 13]] (aT 14 (aa [I 15 3,fv 16 15,ax 17 1 16,aS 18 .add 17 1,fv 19 15,bW 1 19 18] (aa [I 20 2,I 21 1,I 8 20,I 9 21] .ret)) .skip)) (aa [I 22 1,I 23 2,I 8 22,I 9 23] .ret)))
@[simp] def Ly:List bt:=[.tmp 8,.tmp 9]
def nh:List (Nat×dA):=[
 (3,⟨1,8,.int .i64,.int .i64 0⟩),
 (5,⟨1,1,.int .u8,.int .u8 0⟩),
 (9,⟨1,16,.str,.str []⟩),
 (160,⟨1,8,.other,.junk⟩),
 (163,⟨1,8,.int .u64,.int .u64 0⟩),
 (216,⟨1,8,.other,.junk⟩),
 (222,⟨2,16,.struct [(0,160),(1,216)],.agg [.junk,.junk]⟩),
 (254,⟨1,4,.int .u32,.int .u32 0⟩),
 (256,⟨1,8,.int .u64,.int .u64 0⟩),
 (265,⟨1,8,.int .u64,.int .u64 0⟩)]
theorem nK:fN al nh=true:=by kernel_rfl
theorem aio:bY nh O7 akh 1 Tryz.f209=true:=by kernel_rfl
theorem abL:al.funcs[(209:Nat)]? =some Tryz.f209:=Tryz.func209
theorem aiB:bY nh Pl VE 4 Tryz.f210=true:=by kernel_rfl
theorem abY:al.funcs[(210:Nat)]? =some Tryz.f210:=Tryz.func210
theorem aip:bY nh O8 Ai 1 Tryz.f259=true:=by kernel_rfl
theorem abM:al.funcs[(259:Nat)]? =some Tryz.f259:=Tryz.func259
theorem ait:bY nh Pc aki 3 Tryz.f261=true:=by kernel_rfl
theorem abQ:al.funcs[(261:Nat)]? =some Tryz.f261:=Tryz.func261
theorem air:bY nh Pa VA 3 Tryz.f262=true:=by kernel_rfl
theorem abO:al.funcs[(262:Nat)]? =some Tryz.f262:=Tryz.func262
theorem ais:bY nh Pb Lx 3 Tryz.f263=true:=by kernel_rfl
theorem abP:al.funcs[(263:Nat)]? =some Tryz.f263:=Tryz.func263
theorem aiC:bY nh Pm akk 3 Tryz.f264=true:=by kernel_rfl
theorem abZ:al.funcs[(264:Nat)]? =some Tryz.f264:=Tryz.func264
theorem aiy:bY nh Ph Gl 3 Tryz.f265=true:=by kernel_rfl
theorem abV:al.funcs[(265:Nat)]? =some Tryz.f265:=Tryz.func265
theorem aiz:bY nh Pj Lz 4 Tryz.f266=true:=by kernel_rfl
theorem abW:al.funcs[(266:Nat)]? =some Tryz.f266:=Tryz.func266
theorem aiA:bY nh Pk CY 4 Tryz.f267=true:=by kernel_rfl
theorem abX:al.funcs[(267:Nat)]? =some Tryz.f267:=Tryz.func267
theorem aiE:bY nh Po akm 4 Tryz.f278=true:=by kernel_rfl
theorem ab1:al.funcs[(278:Nat)]? =some Tryz.f278:=Tryz.func278
theorem aiw:bY nh Pf VD 1 Tryz.f279=true:=by kernel_rfl
theorem abT:al.funcs[(279:Nat)]? =some Tryz.f279:=Tryz.func279
theorem aiI:bY nh Ps VG 1 Tryz.f280=true:=by kernel_rfl
theorem ab5:al.funcs[(280:Nat)]? =some Tryz.f280:=Tryz.func280
theorem aiu:bY nh Pd VB 3 Tryz.f281=true:=by kernel_rfl
theorem abR:al.funcs[(281:Nat)]? =some Tryz.f281:=Tryz.func281
theorem aiv:bY nh Pe VC 5 Tryz.f282=true:=by kernel_rfl
theorem abS:al.funcs[(282:Nat)]? =some Tryz.f282:=Tryz.func282
theorem aix:bY nh Pg Ly 4 Tryz.f285=true:=by kernel_rfl
theorem abU:al.funcs[(285:Nat)]? =some Tryz.f285:=Tryz.func285
end Go.Proofs.YtohaalphocaebaaGreat
