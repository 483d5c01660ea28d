/- made by mk2.py: the code of the functions, and the checks against the program's own form. -/
import Derived.Test.YtahlgcidhnjlbaaGreatProg
import Derived.Shelf.Sort.Plain
import Derived.Ground.NamesProg
import Derived.Sort.OwnSortedInts
import Derived.Lib.OwnBridge
import Derived.Sort.AssemblyPlain
import Derived.Sort.LotD5
import Derived.Test.YtahlgcidhnjlbaaGreatX2
set_option linter.all false
set_option maxHeartbeats 4000000
open Bool renaming and_eq_true→cC,eq_iff_iff→p3,false_eq_true→gS,or_eq_true→mA
open Go renaming Program→cD
open Go.IntKind renaming bits→nO,signed→r4,u64→hd,wrap→r5
open Go.IntWalk renaming i64_in→oF
open Go.Op renaming bytesLess→ho
open Go.Proofs.Tryz renaming prog→al
open Go.Value renaming cells→pe
open List renaming all_eq_true→gh,cons_append→bV,drop→nj,drop_eq_getElem_cons→k6,getElem?_eq_getElem→cf,getElem?_eq_none→p5,getElem?_eq_some_iff→fi,getElem_of_mem→nk,length_append→pf,length_cons→p6,length_drop→r7,map_cons→hf,mem_append→ky,mem_cons→fY,mem_filter→nl,mem_map→iP,mem_of_getElem?→dL,nil_append→bY,pairwise_cons→mB,pairwise_iff_getElem→pj,take_of_length_le→hz
open List.Nodup renaming length_le_of_subset→MK
open List.Pairwise renaming filter→W0,imp_of_mem→amq,sublist→arN
open List.Perm renaming eq_of_pairwise→ML,swap→arO
open List.cons renaming injEq→p4
open Nat renaming le_refl→eR,le_trans→j8
open Ne renaming symm→kN
open Option renaming bind_eq_some_iff→mC,getD_none→nm,getD_some→j9,map_eq_some_iff→gJ,map_some→nQ
open Option.some renaming inj→fj,injEq→dG
open Prod.mk renaming injEq→jm
open _root_ renaming False→eK,Option→aY,UInt8→dz,beq_iff_eq→dO,congrArg→e2,decide_eq_false→iq,decide_eq_false_iff_not→gz,decide_eq_true→hA,decide_eq_true_eq→fk
namespace Go.Pv
open Go
structure bJ where
 v:Int
 k:Int
 deriving DecidableEq,Inhabited
def bJ.e(b:bJ):ah:= .agg [.int .i64 b.v,.int .i64 b.k]
@[simp] theorem bJ.eta(b:bJ):bJ.mk b.v b.k=b:=rfl
@[simp] theorem M2(v k:Int):ah.agg [.int .i64 v,.int .i64 k]=(bJ.mk v k).e:=rfl
@[simp] theorem aoS(S:aH→Prop)(b:bJ):aB S b.e=True:=by simp[bJ.e,-M2]
@[simp] theorem aru(b:bJ):dq b.e=b.e:=by simp[bJ.e,-M2]
theorem SY(S:aH→Prop):∀l:List bJ,aI S (l.map bJ.e)
 |[]=>by simp[aI]
 |x::xs=>by simp[aI,SY S xs]
@[simp] theorem aoB(S:aH→Prop)(l:List bJ):aI S (l.map bJ.e)=True:=eq_true (SY S l)
@[simp] theorem LY:∀l:List bJ,cZ (l.map bJ.e)=l.map bJ.e
 |[]=>rfl
 |x::xs=>by simp[cZ,LY xs]
@[simp] theorem aq1(b:bJ):eb b.e=true:=rfl
@[simp] theorem am3(b:bJ):cells b.e=[.int .i64 b.v,.int .i64 b.k]:=rfl
@[simp] theorem aoj(b:bJ):Pv.isAgg 2 b.e:=⟨_,rfl,rfl⟩
@[simp] theorem anE(off:Nat)(eX:Bool)(sz:Nat)(b:bJ):q2 off eX sz b.e=if eX then some (off+sz≤2,.agg (([.int .i64 b.v,.int .i64 b.k].drop off).take sz))else(([.int .i64 b.v,.int .i64 b.k]:List ah)[off]?).map fun p=>(True,p):=rfl
@[simp] theorem ant(off:Nat)(eX:Bool)(sz:Nat)(b:bJ):pC off eX sz (.eptr b.e)=if eX then some (off+sz≤2,.eptr (.agg (([.int .i64 b.v,.int .i64 b.k].drop off).take sz)))else(([.int .i64 b.v,.int .i64 b.k]:List ah)[off]?).map fun p=>(eb p=true∧cells p=[p],.eptr p):=rfl
structure bj where
 v:Int
 s:List dz
 deriving DecidableEq,Inhabited
def bj.e(b:bj):ah:= .agg [.int .i64 b.v,.str b.s]
@[simp] theorem bj.eta(b:bj):bj.mk b.v b.s=b:=rfl
@[simp] theorem Hl(v:Int)(s:List dz):ah.agg [.int .i64 v,.str s]=(bj.mk v s).e:=rfl
@[simp] theorem afg(S:aH→Prop)(b:bj):aB S b.e=True:=by simp[bj.e,-Hl]
@[simp] theorem ary(b:bj):dq b.e=b.e:=by simp[bj.e,-Hl]
theorem J1(S:aH→Prop):∀l:List bj,aI S (l.map bj.e)
 |[]=>by simp[aI]
 |x::xs=>by simp[aI,J1 S xs]
@[simp] theorem S0(S:aH→Prop)(l:List bj):aI S (l.map bj.e)=True:=eq_true (J1 S l)
@[simp] theorem LZ:∀l:List bj,cZ (l.map bj.e)=l.map bj.e
 |[]=>rfl
 |x::xs=>by simp[cZ,LZ xs]
@[simp] theorem aq5(b:bj):eb b.e=true:=rfl
@[simp] theorem am7(b:bj):cells b.e=[.int .i64 b.v,.str b.s]:=rfl
@[simp] theorem aol(b:bj):Pv.isAgg 2 b.e:=⟨_,rfl,rfl⟩
@[simp] theorem anF(off:Nat)(eX:Bool)(sz:Nat)(b:bj):q2 off eX sz b.e=if eX then some (off+sz≤2,.agg (([.int .i64 b.v,.str b.s].drop off).take sz))else(([.int .i64 b.v,.str b.s]:List ah)[off]?).map fun p=>(True,p):=rfl
@[simp] theorem anu(off:Nat)(eX:Bool)(sz:Nat)(b:bj):pC off eX sz (.eptr b.e)=if eX then some (off+sz≤2,.eptr (.agg (([.int .i64 b.v,.str b.s].drop off).take sz)))else(([.int .i64 b.v,.str b.s]:List ah)[off]?).map fun p=>(eb p=true∧cells p=[p],.eptr p):=rfl
def e7(x y:bj):Int:=if ev x.v y.v=0 then kt x.s y.s else ev x.v y.v
theorem lA:jn e7:=by
 refine⟨fun x y=>?_,fun x y z J U=>?_,fun x y=>?_⟩
 ·unfold e7;have:=j5.neg x.v y.v;have:=CH.neg x.s y.s;by_cases e:ev x.v y.v=0
  ·rw[if_pos e,if_pos (by omega)];omega
  ·rw[if_neg e,if_neg (by omega)];omega
 ·unfold e7 at J U⊢;by_cases ak:ev x.v y.v=0
  ·rw[if_pos ak]at J;rw[(j5.zero _ _).1 ak];by_cases aC:ev y.v z.v=0
   ·rw[if_pos aC]at U⊢;exact CH.tr _ _ _ J U
   ·rw[if_neg aC]at U⊢;exact U
  ·rw[if_neg ak]at J;have bD:ev x.v y.v<0:=by omega
   by_cases aC:ev y.v z.v=0
   ·rw[←(j5.zero _ _).1 aC,if_neg ak];exact J
   ·rw[if_neg aC]at U;have:=j5.ltr bD U;rw[if_neg (by omega)];omega
 ·unfold e7;by_cases e:ev x.v y.v=0
  ·rw[if_pos e,CH.zero];have:=(j5.zero _ _).1 e;cases x;cases y;simp_all
  ·rw[if_neg e];exact⟨fun h=>absurd h e,fun h=>by rw[h]at e;exact absurd (j5.refl _) e⟩
def sR(x y:bj):Bool:=decide (x.v<y.v)||(x.v==y.v&&ho x.s y.s)
theorem XR(a:List dz):ho a a=false:=by
 cases h:ho a a with
 |false=>rfl
 |true=>rw[Hs a a h]at h;cases h
theorem TJ(x y:bj):sR x y=hG e7 x y:=by
 unfold sR hG e7;rw[p3];simp only[mA,fk,cC,dO];by_cases e:x.v=y.v
 ·have:ev x.v y.v=0:=(j5.zero _ _).2 e;rw[if_pos this];simp only[e,Int.lt_irrefl,false_or,true_and,kt];by_cases aC:x.s=y.s
  ·rw[if_pos aC,aC,XR];simp
  ·rw[if_neg aC];split<;>simp_all
 ·have bA:¬ev x.v y.v=0:=fun h=>e ((j5.zero _ _).1 h);rw[if_neg bA];simp only[e,false_and,or_false];unfold ev;(repeat' split)<;>omega
def h3{α:Type}(p:α→Prop)(r:α→α→Prop)(l:List α)(i:Nat):Prop:= ∀b,l[i]? =some b→p b∧∀c,0<i→l[i-1]? =some c→r c b
theorem MY{α:Type}{p:α→Prop}{r:α→α→Prop}(aO:∀a b c,r a b→r b c→r a c){l:List α}:(∀i,i<l.length→h3 p r l i)↔(∀b∈l,p b)∧l.Pairwise r:=by
 constructor
 ·intro h;refine⟨fun b ad=>?_,?_⟩
  ·obtain⟨i,hi,e⟩:=nk ad;exact(h i hi b (by rw[cf hi,e])).1
  ·rw[pj];have jz:∀i (h:i+1<l.length),r l[i] l[i+1]:=fun i hi=>(h (i+1) hi l[i+1] (by simp[cf hi])).2 l[i] (by omega) (by simp[cf (show i<l.length by omega)]);have:∀(d i:Nat) (h:i+d+1<l.length),r l[i] l[i+d+1]:=by
    intro d;induction d with
    |zero=>intro i h;exact jz i h
    |succ d bU=>intro i h;exact aO _ _ _ (bU i (by omega)) (jz (i+d+1) (by omega))
   intro i j hi af lP;have:=this (j-i-1) i (by omega);simpa[show i+(j-i-1)+1=j from by omega]using this
 ·rintro⟨J,U⟩ i hi b ad;refine⟨J b (dL ad),fun c bA au=>?_⟩;obtain⟨g1,ak⟩:=fi.1 au;obtain⟨g2,aC⟩:=fi.1 ad;have:=pj.1 U (i-1) i g1 g2 (by omega);rw[ak,aC]at this;exact this
def j2{α:Type}(c:α→α→Int)(x:α):List α→List α
 |[]=>[x]
 |y::l=>if c y x<0 then y::j2 c x l else if c y x=0 then y::l else x::y::l
section
variable {α:Type} {c:α→α→Int}
theorem FB(au:jn c){x z:α}:∀{l:List α},z∈j2 c x l↔z=x∨z∈l
 |[]=>by simp[j2]
 |y::l=>by
  simp only[j2];split
  ·simp only[fY,FB au (l:=l)];constructor
   ·rintro(h|h|h)
    ·exact .inr (.inl h)
    ·exact .inl h
    ·exact .inr (.inr h)
   ·rintro(h|h|h)
    ·exact .inr (.inl h)
    ·exact .inl h
    ·exact .inr (.inr h)
  ·split
   ·rename_i h;obtain rfl:=(au.zero _ _).1 h;simp
   ·simp
theorem JL(au:jn c){x:α}:∀{l:List α},hH c l→hH c (j2 c x l)
 |[],_=>by simp[j2,hH]
 |y::l,h=>by
  obtain⟨J,U⟩:=mB.1 h;simp only[j2];split
  ·rename_i ao;refine mB.2 ⟨fun z bp=>?_,JL au U⟩;rcases(FB au).1 bp with rfl|bp
   ·exact ao
   ·exact J z bp
  ·split
   ·exact h
   ·rename_i ao ba;have hL:c x y<0:=by have:=au.neg x y;omega
    refine mB.2 ⟨fun z bp=>?_,h⟩;rcases fY.1 bp with rfl|bp
    ·exact hL
    ·exact au.ltr hL (by have:=J z bp;omega)
theorem JN(x:α):∀l:List α,(j2 c x l).length≤l.length+1
 |[]=>by simp[j2]
 |y::l=>by
  have:=JN x l;simp only[j2];split
  ·simp;omega
  ·split<;>simp
theorem JM(au:jn c)(x:α):∀(l:List α) (k:Nat),(∀i y,i<k→l[i]? =some y→c y x<0)→(∀y,l[k]? =some y→0≤c y x)→k≤l.length→j2 c x l=if(match l[k]? with|some y=>decide (c y x=0)|none=>false)=true then l else l.take k++x::l.drop k
 |[],k,_,_,ab=>by simp at ab;subst ab;simp[j2]
 |y::l,0,_,U,_=>by
  have:=U y rfl;by_cases e:c y x=0
  ·simp[j2,e]
  ·have ao:¬c y x<0:=by omega
   simp[j2,ao,e]
 |y::l,k+1,J,U,ab=>by
  have bA:=J 0 y (by omega) rfl;simp only[j2,if_pos bA,List.take_succ_cons,List.drop_succ_cons,bV,List.getElem?_cons_succ];rw[JM au x l k (fun i d hi aP=>J (i+1) d (by omega) (by simpa using aP)) (fun d aP=>U d (by simpa using aP)) (by simpa using ab)];cases l[k]? with
  |none=>rfl
  |some z=>simp only[];split<;>rfl
end
structure iW (l:List bJ):Prop where
 at':∀x∈l,(0≤x.v∧x.v≤100000)∧(x.k=2∨x.k=3)
 asc:l.Pairwise fun x y=>x.v<y.v
def kZ(l:List bJ)(v:Int):aY Int:=(l.find? fun x=>x.v==v).map (·.k)
def lv(x:bJ):List bJ→List bJ
 |[]=>[x]
 |y::l=>if y.v<x.v then y::lv x l else x::y::l
theorem FC{x z:bJ}:∀{l:List bJ},z∈lv x l↔z=x∨z∈l
 |[]=>by simp[lv]
 |y::l=>by
  simp only[lv];split
  ·simp only[fY,FC (l:=l)];constructor
   ·rintro(h|h|h)
    ·exact .inr (.inl h)
    ·exact .inl h
    ·exact .inr (.inr h)
   ·rintro(h|h|h)
    ·exact .inr (.inl h)
    ·exact .inl h
    ·exact .inr (.inr h)
  ·simp
theorem JO(x:bJ):∀l:List bJ,(lv x l).Perm (x::l)
 |[]=>.refl _
 |y::l=>by
  simp only[lv];split
  ·exact((JO x l).cons y).trans (arO _ _ _)
  ·exact .refl _
theorem E6{x:bJ}:∀{l:List bJ},l.Pairwise (fun x y=>x.v<y.v)→(∀y∈l,y.v≠x.v)→(lv x l).Pairwise fun x y=>x.v<y.v
 |[],_,_=>by simp[lv]
 |y::l,h,aA=>by
  obtain⟨J,U⟩:=mB.1 h;have aL:=aA y (by simp);simp only[lv];split
  ·rename_i ao;refine mB.2 ⟨fun z bp=>?_,E6 U fun z bp=>aA z (by simp[bp])⟩;rcases FC.1 bp with rfl|bp
   ·exact ao
   ·exact J z bp
  ·refine mB.2 ⟨fun z bp=>?_,h⟩;rcases fY.1 bp with rfl|bp
   ·omega
   ·have:=J z bp;omega
theorem Sm(x:bJ):∀(l:List bJ) (k:Nat),(∀i y,i<k→l[i]? =some y→y.v<x.v)→(∀y,l[k]? =some y→¬y.v<x.v)→k≤l.length→lv x l=l.take k++x::l.drop k
 |[],k,_,_,ab=>by simp at ab;subst ab;rfl
 |y::l,0,_,U,_=>by have:=U y rfl;simp[lv,this]
 |y::l,k+1,J,U,ab=>by have bA:=J 0 y (by omega) rfl;simp only[lv,if_pos bA,List.take_succ_cons,List.drop_succ_cons,bV];rw[Sm x l k (fun i d hi aP=>J (i+1) d (by omega) (by simpa using aP)) (fun d aP=>U d (by simpa using aP)) (by simpa using ab)]
theorem SE{l aZ:List bJ}(bI:aZ.Perm l)(aP:l.Pairwise fun x y=>x.v<y.v)(ag:aZ.Pairwise fun x y=>decide (y.v<x.v)=false):aZ=l:=by
 refine ML (le:=fun x y:bJ=>x.v≤y.v) (fun x y ae aL J U=>?_) (ag.imp (by simp)) (aP.imp (by omega)) bI;have h6:x∈l:=bI.mem_iff.1 ae;have rv:y∈l:=aL;obtain⟨i,hi,rfl⟩:=nk h6;obtain⟨j,af,rfl⟩:=nk rv;have:=pj.1 aP;rcases Nat.lt_trichotomy i j with h|h|h
 ·have:=this i j hi af h;omega
 ·subst h;rfl
 ·have:=this j i af hi h;omega
theorem xF{l:List bJ}{v:Int}:kZ l v=none↔∀x∈l,x.v≠v:=by simp[kZ]
theorem SM{l:List bJ}{v k:Int}(h:kZ l v=some k):(⟨v,k⟩:bJ)∈l:=by unfold kZ at h;rw[gJ]at h;obtain⟨x,J,rfl⟩:=h;have U:=List.find?_some J;simp at U;subst U;exact List.mem_of_find?_eq_some J
theorem Fj{l:List bJ}(bt:l.Pairwise fun x y=>x.v<y.v){x:bJ}(h:x∈l):kZ l x.v=some x.k:=by
 induction l with
 |nil=>simp at h
 |cons y l bU=>
  obtain⟨J,U⟩:=mB.1 bt;rcases fY.1 h with rfl|h
  ·simp[kZ]
  ·have:=J x h;have e:=bU U h;unfold kZ at e⊢;rw[List.find?_cons_of_neg (by simp;omega)];exact e
def ka(l:List bJ)(t:T)(k:Int):aY (List bJ):=match t with
 | .var n=>match kZ l n with
  |some bK=>if bK=k then some l else none
  |none=>some (lv ⟨n,k⟩ l)
 |t=>if t.kind=k then some l else none
theorem Hf{l aZ:List bJ}{t:T}{k:Int}(h:iW l)(aO:t.ok=true)(ab:k=2∨k=3)(he:ka l t k=some aZ):iW aZ:=by
 unfold ka at he;split at he
 ·rename_i n;split at he
  ·split at he
   ·cases he;exact h
   ·cases he
  ·rename_i aA;cases he;rw[xF]at aA;refine⟨fun x ae=>?_,E6 h.asc aA⟩;rcases FC.1 ae with rfl|ae
   ·exact⟨by simpa[T.ok]using aO,ab⟩
   ·exact h.at' x ae
 ·split at he
  ·cases he;exact h
  ·cases he
theorem sK{l:List bJ}(h:iW l):l.length≤100001:=by
 have J:(l.map (·.v)).Nodup:=by rw[List.nodup_iff_pairwise_ne,List.pairwise_map];exact h.asc.imp fun h e=>by omega
 have:=SK J fun v aG=>by obtain⟨x,ae,rfl⟩:=iP.1 aG;exact(h.at' x ae).1
 simpa using this
def fW(s:List ar):List bJ→List bJ→aY (List bJ)
 |[],acc=>some acc
 |x::r,acc=>match ka acc (bR s x.v) x.k with
  |some a=>fW s r a
  |none=>none
structure ik (l:List bj):Prop where
 at':∀x∈l,(0≤x.v∧x.v≤100000)∧jA x.s=true
 asc:hH e7 l
def _root_.Go.Pv.T.has(s:List dz):T→Bool
 | .sym n=>n==s
 | .pair a b=>a.has s||b.has s
 |_=>false
def lI(l:List bj)(t:T)(s:List dz):aY (List bj):=if t.has s then none else some (asc e7 (l++(ni t).map fun v=>⟨v,s⟩))
theorem Dn{t:T}{v:Int}:v∈ni t↔t.occ v=true:=by
 refine⟨fun h=>?_,xM⟩;induction t with
 |var n=>simp[ni]at h;simp[T.occ,h]
 |pair a b dS dT=>simp only[ni,ky]at h;simp only[T.occ,mA];exact h.imp dS dT
 |_=>simp[ni]at h
theorem Cp{l aZ:List bj}{t:T}{s:List dz}(h:lI l t s=some aZ)(x:bj):x∈aZ↔x∈l∨(x.s=s∧t.occ x.v=true):=by
 unfold lI at h;split at h
 ·cases h
 ·cases h;rw[Tv,ky,iP];refine or_congr_right ?_;constructor
  ·rintro⟨v,aG,rfl⟩;exact⟨rfl,Dn.1 aG⟩
  ·rintro⟨J,U⟩;exact⟨x.v,Dn.2 U,by rw[←J]⟩
theorem Hg{l aZ:List bj}{t:T}{s:List dz}(cu:t.has s=false)(bt:hH e7 aZ)(hm:∀x,x∈aZ↔x∈l∨(x.s=s∧t.occ x.v=true)):lI l t s=some aZ:=by
 have h:lI l t s=some (asc e7 (l++(ni t).map fun v=>⟨v,s⟩)):=by unfold lI;rw[cu];rfl
 rw[h];congr 1;exact(Hm lA _).ext lA bt fun x=>by rw[hm,←Cp h]
theorem Hh{l aZ:List bj}{t:T}{s:List dz}(h:ik l)(aO:t.ok=true)(ag:jA s=true)(he:lI l t s=some aZ):ik aZ:=by
 refine⟨fun x ae=>?_,?_⟩
 ·rcases(Cp he x).1 ae with J|⟨J,U⟩
  ·exact h.at' x J
  ·exact⟨wy aO U,by rw[J];exact ag⟩
 ·unfold lI at he;split at he
  ·cases he
  ·cases he;exact Hm lA _
def fX(s:List ar):List bj→List bj→aY (List bj)
 |[],acc=>some acc
 |x::r,acc=>match lI acc (bR s x.v) x.s with
  |some a=>fX s r a
  |none=>none
end Go.Pv
namespace Go.Proofs.YtahlgcidhnjlbaaGreat
open Go Go.Pv
def NJ:C:=(aa [cN 1 0,be 2 false] (aa [a7 3 4 1,dK 4 131 [.t 3,(gr 5000)],aT 5 .gtr 4 0,I 2 5] .ret))
@[simp] def Ux:List bu:=[.tmp 2]
@[simp] def apZ:List bu:=[.tmp 2]
def N9:C:=(aa [cU (.box 2 (some 201) (.t 0)),cN 3 1,dh 4 dt,be 5 false] (aa [a7 6 4 3,b7 7 (.mkf 138 [.t 2]),b4 8 137 6 7,cH 9 0 8,cH 10 1 8,bM 4 4 9,I 5 10] .ret))
@[simp] def UP:List bu:=[.cell 4 true 4,.tmp 5]
def Ph:C:=(aa [dh 2 dt] (aa [I 3 0,j7 4 dt [(0,1,(gr 1)),(1,1,(.t 3))],bM 4 2 4] .ret))
@[simp] def ajw:List bu:=[.cell 2 true 4]
def yE:C:=(aa [cN 1 0,dh 2 dt] (aa [aF 6 0 1 1,aw 7 1 6,aF 8 1 1 1,aw 9 1 8,aF 10 2 1 1,aw 11 1 10,j7 12 dt [(0,1,(.t 7)),(1,1,(.t 9)),(2,1,(.t 11))],dh 3 dt,bM 4 3 12] (.seq (aa [aF 13 3 1 1,aw 14 1 13,cb 15 14,bS 16 0] (fe 17 16 15 (.seq (.block 1 (aa [cj 18 4 14 16,a7 19 4 18,dh 5 dt,bM 4 5 19] (.drawn true 29 [aF 20 3 1 3,aw 21 1 20,a7 22 4 5,cM 23 130 22,fD 24 4 30 [.t 23],iN 25 4 30 21 24,aF 26 3 1 3,bM 1 26 25]))) (.region [aT 27 .add 16 1,I 16 27])))) (aa [a7 28 4 3,bM 4 2 28] .ret))))
@[simp] def ajv:List bu:=[.cell 2 true 4]
def N5:C:=(aa [cN 2 0,bS 4 0] (.seq (aa [I 7 1,aT 8 .lss 7 1] (aS 8 (aa [bS 4 (-1)] .ret) .skip)) (.seq (aa [aF 9 0 1 2,aw 10 1 9,aT 11 .neq 10 4] (aS 11 (.seq (aa [aF 12 3 1 2,aw 13 1 12,cb 14 13,aT 15 .neq 14 0] (aS 15 (aa [bS 4 (-1)] .ret) .skip)) (.seq (aa [aF 16 0 1 2,aw 17 1 16] (.block 0 (aa [aT 19 .eql 17 0,I 18 19] (aS 18 (aa [aF 20 1 1 2,aw 21 1 20,aT 22 .neq 21 0,I 23 22,aq 23 false (aF 24 2 1 2),aq 23 false (aw 25 1 24),wz 23 false 26 (.bin .neq false (.t 25) (.c (.str []))),c2 27 23 26] (aS 27 (aa [bS 4 (-1)] .ret) .skip)) (aa [aT 29 .eql 17 1,I 28 29] (aS 28 (aa [aF 30 1 1 2,aw 31 1 30,aT 32 .lss 31 0,I 33 32,aq 33 false (aF 34 1 1 2),aq 33 false (aw 35 1 34),aq 33 false (aT 36 .gtr 35 100000),c2 37 33 36,I 38 37,aq 38 false (aF 39 2 1 2),aq 38 false (aw 40 1 39),wz 38 false 41 (.bin .neq false (.t 40) (.c (.str []))),c2 42 38 41] (aS 42 (aa [bS 4 (-1)] .ret) .skip)) (aa [aT 44 .eql 17 2,I 43 44] (aS 43 (aa [aF 45 1 1 2,aw 46 1 45,aT 47 .neq 46 0,I 48 47,aq 48 false (aF 49 2 1 2),aq 48 false (aw 50 1 49),aq 48 false (cM 51 160 50),aq 48 false (cx 52 51),c2 53 48 52] (aS 53 (aa [bS 4 (-1)] .ret) .skip)) (aa [aT 55 .eql 17 3,I 54 55] (aS 54 (aa [aF 56 1 1 2,aw 57 1 56,aT 58 .lss 57 (-1000000000),I 59 58,aq 59 false (aF 60 1 1 2),aq 59 false (aw 61 1 60),aq 59 false (aT 62 .gtr 61 1000000000),c2 63 59 62,I 64 63,aq 64 false (aF 65 2 1 2),aq 64 false (aw 66 1 65),wz 64 false 67 (.bin .neq false (.t 66) (.c (.str []))),c2 68 64 67] (aS 68 (aa [bS 4 (-1)] .ret) .skip)) (aa [bS 4 (-1)] .ret))))))))))) (aa [bS 4 1] .ret))) .skip)) (.seq (aa [aF 69 1 1 2,aw 70 1 69,aT 71 .neq 70 0,I 72 71,aq 72 false (aF 73 2 1 2),aq 72 false (aw 74 1 73),wz 72 false 75 (.bin .neq false (.t 74) (.c (.str []))),c2 76 72 75,I 77 76,aq 77 false (aF 78 3 1 2),aq 77 false (aw 79 1 78),aq 77 false (cb 80 79),aq 77 false (aT 81 .neq 80 2),c2 82 77 81] (aS 82 (aa [bS 4 (-1)] .ret) .skip)) (aa [aF 83 3 1 2,aw 84 1 83,jG 85 4 84 0,a7 86 4 85,I 87 1,aT 88 .sub 87 1,b4 89 131 86 88,I 5 89] (.seq (aa [I 90 5,aT 91 .lss 90 0] (aS 91 (aa [bS 4 (-1)] .ret) .skip)) (aa [aF 92 3 1 2,aw 93 1 92,jG 94 4 93 1,a7 95 4 94,I 96 1,aT 97 .sub 96 1,I 98 5,bh 99 .sub 97 98,b4 100 131 95 99,I 6 100] (.seq (aa [I 101 6,aT 102 .lss 101 0] (aS 102 (aa [bS 4 (-1)] .ret) .skip)) (aa [I 103 5,b7 104 (.bin .add false (gr 1) (.t 103)),I 105 6,bh 106 .add 104 105,I 4 106] .ret)))))))))
@[simp] def F6:List bu:=[.tmp 4]
def DU:C:=(aa [cN 2 0,cN 3 1,bS 4 0] (.seq (aa [aF 6 0 1 2,aw 7 1 6,aF 8 0 1 3,aw 9 1 8,bh 10 .neq 7 9] (aS 10 (aa [aF 11 0 1 2,aw 12 1 11,aF 13 0 1 3,aw 14 1 13,b4 15 190 12 14,I 4 15] .ret) .skip)) (.seq (aa [aF 16 1 1 2,aw 17 1 16,aF 18 1 1 3,aw 19 1 18,bh 20 .neq 17 19] (aS 20 (aa [aF 21 1 1 2,aw 22 1 21,aF 23 1 1 3,aw 24 1 23,b4 25 190 22 24,I 4 25] .ret) .skip)) (.seq (aa [aF 26 2 1 2,aw 27 1 26,aF 28 2 1 3,aw 29 1 28,bh 30 .neq 27 29] (aS 30 (.seq (aa [aF 31 2 1 2,aw 32 1 31,aF 33 2 1 3,aw 34 1 33,bh 35 .lss 32 34] (aS 35 (aa [bS 4 (-1)] .ret) .skip)) (aa [bS 4 1] .ret)) .skip)) (.seq (aa [aF 36 0 1 2,aw 37 1 36,aT 38 .neq 37 4] (aS 38 (aa [bS 4 0] .ret) .skip)) (.seq (.seq (.drawn true 60 [aF 39 3 1 2,aw 40 1 39,jG 41 4 40 0,a7 42 4 41,aF 43 3 1 3,aw 44 1 43,jG 45 4 44 0,a7 46 4 45,b4 47 133 42 46,I 5 47]) (aa [I 48 5,aT 49 .neq 48 0] (aS 49 (aa [I 50 5,I 4 50] .ret) .skip))) (.seq (.drawn true 60 [aF 51 3 1 2,aw 52 1 51,jG 53 4 52 1,a7 54 4 53,aF 55 3 1 3,aw 56 1 55,jG 57 4 56 1,a7 58 4 57,b4 59 133 54 58,I 4 59]) .ret)))))))
@[simp] def F7:List bu:=[.tmp 4]
def wO:C:=(aa [cN 2 0] (.seq (aa [aF 4 0 1 2,aw 5 1 4,aT 6 .eql 5 1] (aS 6 (.region [I 7 1,aF 8 1 1 2,aw 9 1 8,gD 10 7 [.t 9]]) .skip)) (aa [aF 11 0 1 2,aw 12 1 11,aT 13 .eql 12 4] (aS 13 (aa [aF 14 3 1 2,aw 15 1 14,jG 16 4 15 0,a7 17 4 16,I 18 1,b4 19 134 17 18] (.region [aF 20 3 1 2,aw 21 1 20,jG 22 4 21 1,a7 23 4 22,I 24 1,b4 25 134 23 24])) .skip))))
@[simp] def xZ:List bu:=[]
@[simp] def ap0:List bu:=[]
def Oe:C:=(aa [eQ 2 1] (aa [cU (.bslm 5 (some 306) 1 3 []),I 3 5] (.seq (aa [I 6 0,cU (.range 7 none (.t 6))] (.block 0 (.loop (aa [⟨none,.next 8 (.t 7)⟩,cH 9 0 8] (.seq (aS 9 .skip (.exit 0)) (.block 1 (aa [b7 10 (.ment (.t 7)),cH 11 0 10,I 4 11] (.region [I 12 3,I 13 4,fD 14 1 3 [.t 13],cU (.appm 15 none 1 3 (.t 12) (.t 14)),I 3 15])))))))) (aa [I 16 3,cM 17 191 16] (.seq (.pub 3 (.region [I 18 3,I 2 18])) .ret)))))
@[simp] def UR:List bu:=[.tmp 2]
def Ob:C:=(aa [cN 2 0,cU (.box 3 (some 202) (.t 1)),dh 4 dt,be 5 false] (aa [a7 7 4 2,b7 8 (.mkf 193 [.t 3]),b4 9 192 7 8,I 6 9] (.seq (aa [I 10 6,aT 11 .gtr 10 5000] (aS 11 (aa [j7 12 dt [],bM 4 4 12,be 5 false] .ret) .skip)) (aa [a7 13 4 2,aw 14 1 3,b4 15 194 13 14,bM 4 4 15,be 5 true] .ret))))
@[simp] def K9:List bu:=[.cell 4 true 4,.tmp 5]
def Oa:C:=(aa [dh 3 dt,be 4 false] (.seq (aa [aw 6 1 1,I 7 0,b4 8 139 6 7,I 5 8] (aa [I 9 5,aT 10 .geq 9 0] (aS 10 (aa [aw 11 1 1,I 12 5,cj 13 5 11 12,gq 14 1 4 13,a7 15 4 14,bM 4 3 15,be 4 true] .ret) .skip))) (aa [j7 16 dt [],bM 4 3 16,be 4 false] .ret)))
@[simp] def K8:List bu:=[.cell 3 true 4,.tmp 4]
def NZ:C:=(aa [cU (.box 2 (some 101) (.t 0)),cU (.box 3 (some 102) (.t 1)),bS 4 0] (aa [aw 6 1 2,cb 7 6,b7 8 (.mkf 196 [.t 2,.t 3]),b4 9 195 7 8,I 5 9] (.seq (.seq (.drawn true 24 [I 10 5,aw 11 1 2,cb 12 11,bh 13 .lss 10 12,I 14 13,aq 14 true (aw 15 1 2),bZ 14 true 16 5,aq 14 true (cj 17 5 15 16),aq 14 true (aF 18 0 1 17),aq 14 true (aw 19 1 18),aq 14 true (aw 20 1 3),aq 14 true (bh 21 .eql 19 20),dy 22 14 21]) (aS 22 (aa [I 23 5,I 4 23] .ret) .skip)) (aa [bS 4 (-1)] .ret))))
@[simp] def UI:List bu:=[.tmp 4]
def NX:C:=(aa [cN 2 0,cN 3 1,be 4 false] (aa [a7 5 4 2,a7 6 4 3,b4 7 133 5 6,aT 8 .eql 7 0,I 4 8] .ret))
@[simp] def UG:List bu:=[.tmp 4]
def HB:C:=(aa [cN 1 0,dh 2 dt] (.seq (aa [aF 3 0 1 1,aw 4 1 3,aT 5 .neq 4 4] (aS 5 (aa [aF 6 0 1 1,aw 7 1 6,aF 8 1 1 1,aw 9 1 8,aF 10 2 1 1,aw 11 1 10,j7 12 dt [(0,1,(.t 7)),(1,1,(.t 9)),(2,1,(.t 11))],bM 4 2 12] .ret) .skip)) (.seq (.drawn true 25 [aF 13 3 1 1,aw 14 1 13,jG 15 4 14 0,a7 16 4 15,cM 17 143 16,aF 18 3 1 1,aw 19 1 18,jG 20 4 19 1,a7 21 4 20,cM 22 143 21,fD 23 4 30 [.t 17,.t 22],j7 24 dt [(0,1,(gr 4)),(3,1,(.t 23))],bM 4 2 24]) .ret)))
@[simp] def aiL:List bu:=[.cell 2 true 4]
def NK:C:=(aa [be 2 false] (.seq (aa [I 5 0,cb 6 5,aT 7 .gtr 6 400] (aS 7 (aa [be 2 false] .ret) .skip)) (.seq (aa [I 8 0,cb 9 8,bS 10 0] (fe 11 10 9 (.seq (.block 1 (aa [I 12 10,cj 13 5 8 10,a7 14 5 13,dh 4 ij,I 3 12,bM 5 4 14] (.seq (.drawn true 45 [aF 15 0 1 4,aw 16 1 15,aT 17 .lss 16 0,I 18 17,aq 18 false (aF 19 0 1 4),aq 18 false (aw 20 1 19),aq 18 false (aT 21 .gtr 20 100000),c2 22 18 21,I 23 22,bZ 23 false 24 3,aq 23 false (aT 25 .gtr 24 0),bZ 23 false 26 25,bZ 26 true 27 0,bZ 26 true 28 3,aq 26 true (aT 29 .sub 28 1),aq 26 true (cj 30 5 27 29),aq 26 true (aF 31 0 1 30),aq 26 true (aw 32 1 31),aq 26 true (aF 33 0 1 4),aq 26 true (aw 34 1 33),aq 26 true (bh 35 .geq 32 34),aq 23 false (dy 36 26 35),c2 37 23 36,I 38 37,aq 38 false (gq 39 1 4 4),aq 38 false (a7 40 4 39),aq 38 false (cM 41 64 40),aq 38 false (cx 42 41),c2 43 38 42]) (aS 43 (aa [be 2 false] .ret) .skip)))) (.region [aT 44 .add 10 1,I 10 44])))) (aa [be 2 true] .ret))))
@[simp] def F0:List bu:=[.tmp 2]
def Nz:C:=(aa [be 2 false] (.seq (aa [I 4 0,b7 5 (.slen (.t 4)),aT 6 .lss 5 1,I 7 6,bZ 7 false 8 0,aq 7 false (b7 9 (.slen (.t 8))),aq 7 false (aT 10 .gtr 9 12),c2 11 7 10,I 12 11,bZ 12 false 13 0,aq 12 false (b7 14 (.sidx (.t 13) (gr 0))),aq 12 false (b7 15 (.bin .lss false (.t 14) (.c (.int .u8 97)))),c2 16 12 15,I 17 16,bZ 17 false 18 0,aq 17 false (b7 19 (.sidx (.t 18) (gr 0))),aq 17 false (b7 20 (.bin .gtr false (.t 19) (.c (.int .u8 122)))),c2 21 17 20] (aS 21 (aa [be 2 false] .ret) .skip)) (.seq (aa [bS 3 1] (.block 0 (.loop (.seq (aa [I 22 3,I 23 0,b7 24 (.slen (.t 23)),bh 25 .lss 22 24] (aS 25 .skip (.exit 0))) (.seq (.block 1 (aa [I 28 0,I 29 3,b7 30 (.sidx (.t 28) (.t 29)),b7 31 (.bin .geq false (.t 30) (.c (.int .u8 97))),I 32 31,bZ 32 true 33 0,bZ 32 true 34 3,aq 32 true (b7 35 (.sidx (.t 33) (.t 34))),aq 32 true (b7 36 (.bin .leq false (.t 35) (.c (.int .u8 122)))),dy 37 32 36,I 38 37,bZ 38 false 39 0,bZ 38 false 40 3,aq 38 false (b7 41 (.sidx (.t 39) (.t 40))),aq 38 false (b7 42 (.bin .geq false (.t 41) (.c (.int .u8 48)))),bZ 38 false 43 42,bZ 43 true 44 0,bZ 43 true 45 3,aq 43 true (b7 46 (.sidx (.t 44) (.t 45))),aq 43 true (b7 47 (.bin .leq false (.t 46) (.c (.int .u8 57)))),aq 38 false (dy 48 43 47),c2 49 38 48,I 50 49,bZ 50 false 51 0,bZ 50 false 52 3,aq 50 false (b7 53 (.sidx (.t 51) (.t 52))),aq 50 false (b7 54 (.bin .eql false (.t 53) (.c (.int .u8 45)))),c2 55 50 54,cx 56 55] (aS 56 (aa [be 2 false] .ret) .skip))) (.region [I 26 3,aT 27 .add 26 1,I 3 27])))))) (aa [be 2 true] .ret))))
@[simp] def FZ:List bu:=[.tmp 2]
def Og:C:=(aa [be 2 false] (.seq (aa [I 5 0,cb 6 5,bS 7 0] (fe 8 7 6 (.seq (.block 1 (aa [cj 9 4 5 7,a7 10 4 9,dh 4 dt,bM 4 4 10] (aa [a7 11 4 4,cM 12 64 11,cx 13 12] (aS 13 (aa [be 2 false] .ret) .skip)))) (.region [aT 14 .add 7 1,I 7 14])))) (aa [be 2 true] .ret)))
@[simp] def aiM:List bu:=[.tmp 2]
def Pe:C:=(aa [cN 2 0,cN 3 1,dh 4 dt] (aa [a7 5 4 2,a7 6 4 3,fD 7 4 30 [.t 5,.t 6],j7 8 dt [(0,1,(gr 4)),(3,1,(.t 7))],bM 4 4 8] .ret))
@[simp] def U4:List bu:=[.cell 4 true 4]
def N7:C:=(aa [bS 4 0] (.seq (aa [I 5 0,I 6 1,bh 7 .lss 5 6] (aS 7 (aa [bS 4 (-1)] .ret) .skip)) (.seq (aa [I 8 0,I 9 1,bh 10 .gtr 8 9] (aS 10 (aa [bS 4 1] .ret) .skip)) (aa [bS 4 0] .ret))))
@[simp] def UN:List bu:=[.tmp 4]
def u3:C:=(aa [cN 2 0,bS 4 0] (.seq (aa [aF 6 0 1 2,aw 7 1 6] (.block 0 (aa [aT 9 .eql 7 1,I 8 9] (aS 8 (aa [I 10 1,aF 11 1 1 2,aw 12 1 11,gD 13 10 [.t 12],b7 14 (.min2 (.t 13) (gr 5001)),I 4 14] .ret) (aa [aT 16 .eql 7 4,I 15 16] (aS 15 (aa [aF 17 3 1 2,aw 18 1 17,jG 19 4 18 0,a7 20 4 19,I 21 1,b4 22 192 20 21,I 5 22] (.seq (aa [I 23 5,aT 24 .gtr 23 5000] (aS 24 (aa [I 25 5,I 4 25] .ret) .skip)) (aa [I 26 5,b7 27 (.bin .add false (gr 1) (.t 26)),aF 28 3 1 2,aw 29 1 28,jG 30 4 29 1,a7 31 4 30,I 32 1,b4 33 192 31 32,bh 34 .add 27 33,b7 35 (.min2 (.t 34) (gr 5001)),I 4 35] .ret))) .skip)))))) (aa [bS 4 1] .ret)))
@[simp] def uD:List bu:=[.tmp 4]
def Oc:C:=(aa [bS 3 0] (.seq (aa [aw 7 1 1,I 8 0,gD 9 7 [.t 8],I 6 9,cH 10 0 6,cH 11 1 6,dh 4 dt,bM 4 4 10,I 5 11] (aa [I 12 5] (aS 12 (aa [a7 13 4 4,dK 14 131 [.t 13,(gr 5000)],I 3 14] .ret) .skip))) (aa [bS 3 1] .ret)))
@[simp] def UQ:List bu:=[.tmp 3]
def wP:C:=(aa [cN 2 0,dh 4 dt] (.seq (aa [aF 7 0 1 2,aw 8 1 7] (.block 0 (aa [aT 10 .eql 8 1,I 9 10] (aS 9 (.seq (aa [I 12 1,aF 13 1 1 2,aw 14 1 13,gD 15 12 [.t 14],I 11 15,cH 16 0 11,cH 17 1 11,dh 5 dt,bM 4 5 16,I 6 17] (aa [I 18 6] (aS 18 (aa [a7 19 4 5,cM 20 143 19,bM 4 4 20] .ret) .skip))) (aa [a7 21 4 2,bM 4 4 21] .ret)) (aa [aT 23 .eql 8 4,I 22 23] (aS 22 (.seq (.drawn false 38 [aF 24 3 1 2,aw 25 1 24,jG 26 4 25 0,a7 27 4 26,I 28 1,b4 29 194 27 28,aF 30 3 1 2,aw 31 1 30,jG 32 4 31 1,a7 33 4 32,I 34 1,b4 35 194 33 34,b4 36 221 29 35,bM 4 4 36]) .ret) .skip)))))) (aa [a7 37 4 2,bM 4 4 37] .ret)))
@[simp] def x0:List bu:=[.cell 4 true 4]
def OI:C:=(aa [bS 4 0] (aa [I 8 0,bS 5 0,I 6 8] (.seq (.block 0 (.loop (.seq (aa [I 9 5,I 10 6,bh 11 .lss 9 10] (aS 11 .skip (.exit 0))) (.block 1 (aa [I 12 5,I 13 6,bh 14 .add 12 13,b7 15 (.conv .u64 (.t 14)),b7 16 (.bin .shr false (.t 15) (.c (.int .u64 1))),b7 17 (.conv .i64 (.t 16)),I 7 17] (aa [I 18 1,I 19 7,gD 20 18 [.t 19],cx 21 20] (aS 21 (.region [I 22 7,aT 23 .add 22 1,I 5 23]) (.region [I 24 7,I 6 24])))))))) (aa [I 25 5,I 4 25] .ret))))
@[simp] def US:List bu:=[.tmp 4]
def N0:C:=(aa [be 4 false] (.seq (.drawn true 12 [aw 5 1 1,I 6 0,cj 7 5 5 6,aF 8 0 1 7,aw 9 1 8,aw 10 1 2,bh 11 .geq 9 10,I 4 11]) .ret))
@[simp] def UJ:List bu:=[.tmp 4]
def N8:C:=(aa [cN 2 0,cN 3 1,dh 4 dt] (aa [a7 5 4 2,a7 6 4 3,fD 7 4 30 [.t 5,.t 6],j7 8 dt [(0,1,(gr 4)),(3,1,(.t 7))],bM 4 4 8] .ret))
@[simp] def UO:List bu:=[.cell 4 true 4]
def bB:List (Nat×dA):=[
 (3,⟨1,8,.int .i64,.int .i64 0⟩),
 (9,⟨1,16,.str,.str []⟩),
 (27,⟨1,24,.slice 30,.slice 4 .nil []⟩),
 (30,⟨4,56,.struct [(0,3),(1,3),(2,9),(3,27)],.agg [.int .i64 0,.int .i64 0,.str [],.slice 4 .nil []]⟩),
 (46,⟨1,24,.slice 113,.slice 5 .nil []⟩),
 (76,⟨1,24,.slice 3,.slice 1 .nil []⟩),
 (113,⟨5,64,.struct [(0,3),(1,30)],.agg [.int .i64 0,.int .i64 0,.int .i64 0,.str [],.slice 4 .nil []]⟩),
 (136,⟨1,8,.map 3 4,.junk⟩),
 (141,⟨1,8,.other,.junk⟩),
 (192,⟨1,8,.int .u64,.int .u64 0⟩)]
theorem mixed:al.follows .mixedOrders=true:=by kernel_rfl
theorem bm{bB:List (Nat×dA)}(aO:fL al bB=true){f:FuncId}{fn:Func}(aJ:al.funcs[f]? =some fn){c:C}{fc:List bu}{n:Nat}(eU:b0 bB c fc n fn=true){args:List ah}{r:ah}(he:ez args→cW al [] c (bz fc r) ⟨j6 0 args,[],[],0,[]⟩)(av:args.length≤n:=by simp)(aK:aB (fun _=>eK) r:=by simp[aB]):bF al f args r:=bF.mk mixed aO aJ eU av aK he
theorem fH:fL al bB=true:=by kernel_rfl
theorem agz:b0 bB NJ Ux 1 Tryz.f64=true:=by kernel_rfl
theorem Z3:al.funcs[(64:Nat)]? =some Tryz.f64:=Tryz.func64
theorem agZ:b0 bB N9 UP 2 Tryz.f69=true:=by kernel_rfl
theorem aat:al.funcs[(69:Nat)]? =some Tryz.f69:=Tryz.func69
theorem ah2:b0 bB Ph ajw 1 Tryz.f114=true:=by kernel_rfl
theorem abx:al.funcs[(114:Nat)]? =some Tryz.f114:=Tryz.func114
theorem CC:b0 bB yE ajv 1 Tryz.f130=true:=by kernel_rfl
theorem Bb:al.funcs[(130:Nat)]? =some Tryz.f130:=Tryz.func130
theorem agV:b0 bB N5 F6 2 Tryz.f131=true:=by kernel_rfl
theorem aap:al.funcs[(131:Nat)]? =some Tryz.f131:=Tryz.func131
theorem KJ:b0 bB DU F7 2 Tryz.f133=true:=by kernel_rfl
theorem Im:al.funcs[(133:Nat)]? =some Tryz.f133:=Tryz.func133
theorem zR:b0 bB wO xZ 2 Tryz.f134=true:=by kernel_rfl
theorem yN:al.funcs[(134:Nat)]? =some Tryz.f134:=Tryz.func134
theorem ag4:b0 bB Oe UR 1 Tryz.f136=true:=by kernel_rfl
theorem aay:al.funcs[(136:Nat)]? =some Tryz.f136:=Tryz.func136
theorem ag1:b0 bB Ob K9 2 Tryz.f137=true:=by kernel_rfl
theorem aav:al.funcs[(137:Nat)]? =some Tryz.f137:=Tryz.func137
theorem ag0:b0 bB Oa K8 2 Tryz.f138=true:=by kernel_rfl
theorem aau:al.funcs[(138:Nat)]? =some Tryz.f138:=Tryz.func138
theorem agP:b0 bB NZ UI 2 Tryz.f139=true:=by kernel_rfl
theorem aaj:al.funcs[(139:Nat)]? =some Tryz.f139:=Tryz.func139
theorem agN:b0 bB NX UG 2 Tryz.f142=true:=by kernel_rfl
theorem aah:al.funcs[(142:Nat)]? =some Tryz.f142:=Tryz.func142
theorem TX:b0 bB HB aiL 1 Tryz.f143=true:=by kernel_rfl
theorem Qh:al.funcs[(143:Nat)]? =some Tryz.f143:=Tryz.func143
theorem agA:b0 bB NK F0 1 Tryz.f158=true:=by kernel_rfl
theorem Z4:al.funcs[(158:Nat)]? =some Tryz.f158:=Tryz.func158
theorem agq:b0 bB Nz FZ 1 Tryz.f160=true:=by kernel_rfl
theorem ZU:al.funcs[(160:Nat)]? =some Tryz.f160:=Tryz.func160
theorem ag5:b0 bB Og aiM 1 Tryz.f172=true:=by kernel_rfl
theorem aaz:al.funcs[(172:Nat)]? =some Tryz.f172:=Tryz.func172
theorem ahZ:b0 bB Pe U4 2 Tryz.f189=true:=by kernel_rfl
theorem abu:al.funcs[(189:Nat)]? =some Tryz.f189:=Tryz.func189
theorem agX:b0 bB N7 UN 2 Tryz.f190=true:=by kernel_rfl
theorem aar:al.funcs[(190:Nat)]? =some Tryz.f190:=Tryz.func190
theorem xT:b0 bB u3 uD 2 Tryz.f192=true:=by kernel_rfl
theorem wU:al.funcs[(192:Nat)]? =some Tryz.f192:=Tryz.func192
theorem ag2:b0 bB Oc UQ 2 Tryz.f193=true:=by kernel_rfl
theorem aaw:al.funcs[(193:Nat)]? =some Tryz.f193:=Tryz.func193
theorem zS:b0 bB wP x0 2 Tryz.f194=true:=by kernel_rfl
theorem yO:al.funcs[(194:Nat)]? =some Tryz.f194:=Tryz.func194
theorem aht:b0 bB OI US 2 Tryz.f195=true:=by kernel_rfl
theorem aaX:al.funcs[(195:Nat)]? =some Tryz.f195:=Tryz.func195
theorem agQ:b0 bB N0 UJ 3 Tryz.f196=true:=by kernel_rfl
theorem aak:al.funcs[(196:Nat)]? =some Tryz.f196:=Tryz.func196
theorem agY:b0 bB N8 UO 2 Tryz.f221=true:=by kernel_rfl
theorem aas:al.funcs[(221:Nat)]? =some Tryz.f221:=Tryz.func221
def aeT(s:List dz)(k:Nat)(st:bq):Prop:=∃i:Nat,1≤i∧i≤s.length∧k=s.length-i∧((s.drop 1).all mh=(s.drop i).all mh)∧st=⟨[(0,.str s),(3,.int .i64 i)],[],[],0,[]⟩
theorem td(s:List dz):bF al 160 [.str s] (.bool (jA s)):=by
 refine bF.mk mixed fH ZU agq (by simp) (by simp[aB]) fun ad=>?_;unfold Nz;simp;(with_reducible repeat' first|((first|refine bL (fun h=>?_) fun h=>?_|refine bQ (fun h=>?_) fun h=>?_|refine bP (fun h=>?_) fun h=>?_)<;>try simp at h)|refine aj ?_|simp);case refine_1.refine_1.refine_1.refine_2=>
  have adW:jA s=(s.drop 1).all mh:=by simp[jA,low];omega
  rw[adW];refine oU (aeT s) (s.length-1) _ ⟨by simp,by simp[gC],by simp[oz],by simp⟩ ⟨1,by omega,by omega,rfl,rfl,rfl⟩ ?_;rintro k st ⟨i,lO,hv,ab,ld,rfl⟩ kD cL;rw[ld];simp;refine bL (fun bD=>?_) (fun tT=>?_)
  ·simp at bD;have aP:s.drop i=s[i]?.getD 0::s.drop (i+1):=by rw[k6 bD];simp[bD]
   simp;(with_reducible repeat' first|((first|refine bL (fun h=>?_) fun h=>?_|refine bQ (fun h=>?_) fun h=>?_|refine bP (fun h=>?_) fun h=>?_)<;>try simp at h)|refine aj ?_|simp);all_goals first
    |(simp[bz,FZ,aW,aX,aV,aP,mh,low];omega)
    |(simp only[Dx];refine⟨s.length-(i+1),_,by omega,⟨by simp,by simp[gC],by simp[oz],by simp⟩,i+1,by omega,by omega,rfl,?_,rfl⟩;rw[ld,aP];simp[mh,low];omega)
  ·simp at tT;have:s.drop i=[]:=by simp;omega
   simp[bz,FZ,aW,aX,aV,this]
 all_goals simp[bz,FZ,aW,aX,aV,jA,low]
 all_goals omega
theorem WG(m:Nat):∀(t:bT),t.sz≤m→∀(room:Int),0≤room∧room≤10000→bF al 131 [enc t,.int .i64 room] (.int .i64 (fs t room)):=by
 induction m with
 |zero=>intro t aO;cases t;simp[bT.sz]at aO
 |succ m bU=>
 rintro⟨k,n,s,args⟩ aO room rp;refine bm fH aap agV fun aQ=>?_;unfold N5;simp[bT.kind,bT.num,bT.name,bT.args];(with_reducible repeat' first|((first|refine bL (fun h=>?_) fun h=>?_|refine bQ (fun h=>?_) fun h=>?_|refine bP (fun h=>?_) fun h=>?_)<;>try simp at h)|refine aj ?_|simp);all_goals try refine c6.val (by simp) (td _) ?_
 all_goals try simp
 (with_reducible repeat' first|((first|refine bL (fun h=>?_) fun h=>?_|refine bQ (fun h=>?_) fun h=>?_|refine bP (fun h=>?_) fun h=>?_)<;>try simp at h)|refine aj ?_|simp);all_goals try simp[bz,F6,aW,aX,aV]
 case succ.refine_2.refine_2.refine_1.refine_1.refine_2=>
  rename_i bA J U ao;match args,h with
  |[a,b],_=>
  simp[bT.sz,bT.szL]at aO;subst J U ao;simp;(with_reducible repeat' first|((first|refine bL (fun h=>?_) fun h=>?_|refine bQ (fun h=>?_) fun h=>?_|refine bP (fun h=>?_) fun h=>?_)<;>try simp at h)|refine aj ?_|simp);refine c6.val (by simp) (bU a (by omega) (room-1) (by omega)) ?_;simp;have bt:=KA a (room-1);have mN:=Cw a (room-1);(with_reducible repeat' first|((first|refine bL (fun h=>?_) fun h=>?_|refine bQ (fun h=>?_) fun h=>?_|refine bP (fun h=>?_) fun h=>?_)<;>try simp at h)|refine aj ?_|simp)
  ·simp[bz,F6,aW,aX,aV];rw[Kz];simp;omega
  ·refine c6.val (by simp) (bU b (by omega) (room-1-fs a (room-1)) (by omega)) ?_;simp;have ad:=KA b (room-1-fs a (room-1));have fP:=Cw b (room-1-fs a (room-1));(with_reducible repeat' first|((first|refine bL (fun h=>?_) fun h=>?_|refine bQ (fun h=>?_) fun h=>?_|refine bP (fun h=>?_) fun h=>?_)<;>try simp at h)|refine aj ?_|simp);all_goals simp[bz,F6,aW,aX,aV]
   all_goals rw[Kz];simp;omega
 all_goals rw[Kz]
 all_goals simp_all[k0]
 all_goals first|omega|(split<;>simp at h⊢)
theorem Mj(t:bT):bF al 64 [enc t] (.bool t.fits):=by refine bm fH Z3 agz fun aQ=>?_;unfold NJ;simp;refine c6.val (by simp) (WG t.sz t (eR _) 5000 (by omega)) ?_;simp;simp[bz,Ux,aW,aX,aV];simp[bT.fits]
theorem ak4(t:T):bF al 64 [t.e] (.bool t.fit):=by have:=Mj t.tm;rwa[qW,bT.fits_T]at this
theorem GV(a b:T):bF al 221 [a.e,b.e] (T.pair a b).e:=by refine bm fH aas agY fun aQ=>?_;unfold N8;simp;(with_reducible repeat' first|((first|refine bL (fun h=>?_) fun h=>?_|refine bQ (fun h=>?_) fun h=>?_|refine bP (fun h=>?_) fun h=>?_)<;>try simp at h)|refine aj ?_|simp);all_goals try simp[bz,UO,aW,aX,aV]
theorem GO(a b:T):bF al 189 [a.e,b.e] (T.pair a b).e:=by refine bm fH abu ahZ fun aQ=>?_;unfold Pe;simp;(with_reducible repeat' first|((first|refine bL (fun h=>?_) fun h=>?_|refine bQ (fun h=>?_) fun h=>?_|refine bP (fun h=>?_) fun h=>?_)<;>try simp at h)|refine aj ?_|simp);all_goals try simp[bz,U4,aW,aX,aV]
theorem te(t:T):bF al 143 [t.e] t.e:=by
 induction t with
 |pair a b dS dT=>refine bm fH Qh TX fun aQ=>?_;unfold HB;exact b5
 |_=>refine bm fH Qh TX fun aQ=>?_;unfold HB;exact b5
theorem nN(a b:Int):bF al 190 [.int .i64 a,.int .i64 b] (.int .i64 (ev a b)):=by
 refine bm fH aar agX fun aQ=>?_;unfold N7;simp;((with_reducible repeat' first|refine aj ?_|simp|((first|apply bL|apply bQ|apply bP)<;>intro h<;>try simp at h))<;>(try exact cq));all_goals simp[bz,UN,aW,aX,aV]
 all_goals simp[ev]
 all_goals omega
theorem AF(a:T):∀b:T,bF al 133 [a.e,b.e] (.int .i64 (ep a b)):=by
 induction a with
 |pair bC a2 E4 E5=>
  intro b;cases b with
  |pair ch b6=>
   refine bm fH Im KJ fun aQ=>?_;unfold DU;simp;((with_reducible repeat' first|refine aj ?_|refine aD (E4 _) ?_|refine aE (E4 _) ?_|refine aD (E5 _) ?_|refine aE (E5 _) ?_|refine aD (nN _ _) ?_|refine aE (nN _ _) ?_|simp|((first|apply bL|apply bQ|apply bP)<;>intro h<;>try simp at h))<;>(try exact cq));all_goals simp[bz,F7,aW,aX,aV]
   all_goals simp_all[ep]
  |_=>
   refine bm fH Im KJ fun aQ=>?_;unfold DU;simp;(with_reducible repeat' first|refine aj ?_|refine aD (nN _ _) ?_|refine aE (nN _ _) ?_|simp);all_goals simp[bz,F7,aW,aX,aV]
   all_goals simp_all[ep]
 |_=>
  intro b;cases b<;>
  (refine bm fH Im KJ fun aQ=>?_;unfold DU
   simp
   (with_reducible repeat' first|((first|apply bL|apply bQ|apply bP)<;>intro h<;>try simp at h)|refine aj ?_|refine aD (nN _ _) ?_|refine aE (nN _ _) ?_|simp)
   all_goals simp[bz,F7,aW,aX,aV]
   all_goals simp_all[ep,kt])
theorem qL(a b:T):bF al 142 [a.e,b.e] (.bool (decide (a=b))):=by
 refine bm fH aah agN fun aQ=>?_;unfold NX;simp;(with_reducible repeat' first|refine aj ?_|refine aD (AF _ _) ?_|refine aE (AF _ _) ?_|simp);all_goals simp[bz,UG,aW,aX,aV]
 have:=qB a b;by_cases h:ep a b=0<;>simp_all
open Classical in
def aeX(l:List cI)(k:Nat)(st:bq):Prop:=∃i:Nat,i≤l.length∧k=l.length-i∧(∀j,j<i→zQ l j)∧st=⟨[(0,.slice 5 .no (l.map cI.e)),(8,.slice 5 .no (l.map cI.e)),(9,.int .i64 l.length),(10,.int .i64 i)],[],[],0,[]⟩
open Classical in
theorem Ml(l:List cI):bF al 158 [.slice 5 .no (l.map cI.e)] (.bool (decide (tu l))):=by
 refine bm fH Z4 agA fun aQ=>?_;unfold NK;simp;(with_reducible repeat' first|((first|apply bL|apply bQ|apply bP)<;>intro h<;>try simp at h)|refine aj ?_|simp)
 ·simp[bz,F0,aW,aX,aV];intro ca;have:=ca.1;omega
 ·refine oU (aeX l) l.length _ ⟨by simp,by simp[gC],by simp[oz],by simp⟩ ⟨0,by omega,by omega,by simp,rfl⟩ ?_;rintro k st ⟨i,hi,ab,ld,rfl⟩ kD cL;simp;refine bL (fun bD=>?_) (fun tT=>?_)
  ·simp at bD;obtain⟨b,ad⟩:∃b,l[i]? =some b:=⟨_,cf bD⟩;obtain⟨c,au⟩:∃c,l[i-1]? =some c:=⟨_,cf (by omega)⟩;clear kD cL;simp[ad,au];((with_reducible repeat' first|refine aj ?_|refine aD (Mj _) ?_|refine aE (Mj _) ?_|simp[au]|((first|apply bL|apply bQ|apply bP)<;>intro h<;>try simp at h))<;>(try exact cq));all_goals first
    |(simp[bz,F0,aW,aX,aV];intro ca;have J:=ca.2 i bD b ad;have U:=J.2.1 c;have ao:=J.2.2;first|omega|(have:=U (by omega) au;omega)|(rw[ao]at h;cases h)|simp_all)
    |(simp only[Dx];refine⟨l.length-(i+1),_,by omega,⟨by simp,by simp[gC],by simp[oz],by simp⟩,i+1,by omega,rfl,fun j af=>?_,rfl⟩
      by_cases e:j=i
      ·subst e;intro b1 fP;rw[ad]at fP;cases fP;refine⟨by omega,fun cr bA hq=>?_,by assumption⟩;rw[au]at hq;cases hq;omega
      ·exact ld j (by omega))
  ·simp at tT;simp[bz,F0,aW,aX,aV];exact⟨by omega,fun j af=>ld j (by omega)⟩
def lX(p:Nat→Bool)(i j:Nat):Nat:=if i<j then(if p ((i+j)/2)then lX p i ((i+j)/2)else lX p ((i+j)/2+1) j)else i
termination_by j-i
def aeW(s:cK)(n g:Nat)(dj:List ah)(p:Nat→Bool)(k:Nat)(st:bq):Prop:=∃i j:Nat,i≤j∧j≤n∧k=j-i∧lX p i j=lX p 0 n∧st=⟨[(1,.func g dj),(5,.int .i64 i),(6,.int .i64 j)],s.b,s.e,0,cV s⟩
theorem ab8(s:cK)(ag:ed s)(n g:Nat)(aA:n≤1000000)(dj:List ah)(au:aI (inObs s) dj)(da:cZ dj=dj)(p:Nat→Bool)(aJ:∀i:Nat,i<n→bN al g (.int .i64 i::dj) s fun r ai=>r= .bool (p i)∧ai=s):
  bN al 195 [.int .i64 n,.func g dj] s fun r ai=>r= .int .i64 (lX p 0 n)∧ai=s:=by
 refine bN.mk mixed fH aaX aht (by simp) ag.obj fun aQ cL=>?_;unfold OI;simp;refine oU (aeW s n g dj p) n _ (ix.ob ag (by simp[au]) aR aR) ⟨0,n,by omega,by omega,rfl,rfl,rfl⟩ ?_;rintro k st ⟨i,j,lP,af,ab,Jx,rfl⟩ kD cL;clear kD cL;simp;refine bL (fun bD=>?_) (fun tT=>?_)
 ·simp at bD;have hw:hd.wrap ((i:Int)+j)=i+j:=by simp[r5,nO,r4];omega
  obtain⟨m,hm⟩:∃m,m=(i+j)/2:=⟨_,rfl⟩;have aP:Int.fdiv ((i:Int)+j) 2=(m:Int):=by rw[Int.fdiv_eq_ediv_of_nonneg _ (by omega)];omega
  have og:IntKind.i64.wrap (m:Int)=m:=by rw[oF];omega
  have IY:hd.bits=64:=rfl;simp[hw,da,IY,aP,og];refine⟨by unfold sH;omega,?_⟩;refine c6.ob (aJ m (by omega)) ag aR aR (by simp[au]) ?_;rintro r ai ⟨rfl,rfl⟩;refine⟨Same.refl _,?_⟩;simp[gR];(with_reducible repeat' first|((first|apply bL|apply bQ|apply bP)<;>intro h<;>try simp at h)|refine aj ?_|simp)
  ·simp only[Dx];refine⟨j-(m+1),_,by omega,ix.ob ag (by simp[au]) aR aR,m+1,j,by omega,by omega,rfl,?_,rfl⟩;rw[←Jx];conv=>rhs;unfold lX
   simp[bD,←hm,h]
  ·simp only[Dx];refine⟨m-i,_,by omega,ix.ob ag (by simp[au]) aR aR,i,m,by omega,by omega,rfl,?_,rfl⟩;rw[←Jx];conv=>rhs;unfold lX
   simp[bD,←hm,h]
 ·simp at tT;have:lX p 0 n=i:=by rw[←Jx];unfold lX;rw[if_neg (by omega)]
  rw[this];simp;refine cT.at s (.inl rfl) ag (Same.refl s) aR aR ?_;simp[cY,US,aW,aX,aV]
def mJ(l:List ar)(v:Int):Int:=
 let i:=lX (fun i=>match l[i]? with|some b=>decide (v≤b.v)|none=>false) 0 l.length
 match l[i]? with|some b=>if b.v=v then i else-1|none=> -1
theorem acf(l:List ar)(v:Int)(i:Nat)(b:ar)(ad:l[i]? =some b):bN al 196 [.int .i64 i,.ptr (.obj 101) 0,.ptr (.obj 102) 0] ⟨[(.obj 101,[.slice 5 .no (l.map ar.e)]),(.obj 102,[.int .i64 v])],[]⟩ fun r ai=>r= .bool (decide (v≤b.v))∧ai=⟨[(.obj 101,[.slice 5 .no (l.map ar.e)]),(.obj 102,[.int .i64 v])],[]⟩:=by have ag:ed ⟨[(.obj 101,[.slice 5 .no (l.map ar.e)]),(.obj 102,[.int .i64 v])],[]⟩:=(ed.of ⟨by intro m;simp[Pv.look],by intro m;simp[Pv.look]⟩ (by simp[aI,aB,inObs,Pv.look]) (by simp[aI,aB,inObs,Pv.look]));have bD:i<l.length:=(fi.1 ad).1;refine bN.mk mixed fH aak agQ (by simp) ag.obj fun aQ cL=>?_;unfold N0;simp[ad];(with_reducible repeat' first|refine aj ?_|simp);refine cT.at _ (.inl rfl) ag (Same.refl _) aR aR ?_;simp[cY,UJ,aW,aX,aV]
theorem tf(l:List ar)(v:Int)(av:l.length≤1000000):bF al 139 [.slice 5 .no (l.map ar.e),.int .i64 v] (.int .i64 (mJ l v)):=by
 refine bm fH aaj agP fun aQ=>?_;unfold NZ;simp;have ag:ed ⟨[(.obj 101,[.slice 5 .no (l.map ar.e)]),(.obj 102,[.int .i64 v])],[]⟩:=(ed.of ⟨by intro m;simp[Pv.look],by intro m;simp[Pv.look]⟩ (by simp[aI,aB,inObs,Pv.look]) (by simp[aI,aB,inObs,Pv.look]));refine c6.ob (ab8 ⟨[(.obj 101,[.slice 5 .no (l.map ar.e)]),(.obj 102,[.int .i64 v])],[]⟩ ag l.length 196 av [.ptr (.obj 101) 0,.ptr (.obj 102) 0] (by simp[inObs]) (by simp) (fun i=>match l[i]? with|some b=>decide (v≤b.v)|none=>false) fun i hi=>?_) ag aR aR (by simp[inObs]) ?_
 ·obtain⟨b,ad⟩:∃b,l[i]? =some b:=⟨_,cf hi⟩;simp only[ad];exact acf l v i b ad
 rintro r ai ⟨rfl,rfl⟩;refine⟨Same.refl _,?_⟩;unfold mJ;generalize lX _ 0 l.length=i;cases ad:l[i]? with
 |none=>
  have bD:¬i<l.length:=by simpa using ad
  simp[cz,bD];exact b5
 |some b=>
  have bD:i<l.length:=(fi.1 ad).1;simp[cz,ad,bD];((with_reducible repeat' first|refine aj ?_|simp[ad]|((first|apply bL|apply bQ|apply bP)<;>intro h<;>try simp at h))<;>(try exact cq));all_goals simp[bz,UI,aW,aX,aV]
  all_goals simp_all
def rK(l:List ar)(v:Int):aY T:=if mJ l v<0 then none else(l[(mJ l v).toNat]?).map (·.t)
theorem Qz(l:List ar)(v:Int):mJ l v<l.length∧ -1≤mJ l v:=by
 unfold mJ;simp only;split
 ·rename_i b ad;have:=(fi.1 ad).1;split<;>omega
 ·omega
theorem QO(l:List ar)(v:Int)(av:l.length≤1000000)(o:aY T)(ax:o=rK l v):bN al 138 [.int .i64 v,.ptr (.obj 201) 0] ⟨[(.obj 201,[.slice 5 .no (l.map ar.e)])],[]⟩ fun r ai=>r= .tuple [(o.getD .nil).e,.bool o.isSome]∧ai=⟨[(.obj 201,[.slice 5 .no (l.map ar.e)])],[]⟩:=by
 have ag:ed ⟨[(.obj 201,[.slice 5 .no (l.map ar.e)])],[]⟩:=(ed.of ⟨by intro m;simp[Pv.look],by intro m;simp[Pv.look]⟩ (by simp[aI,aB,inObs,Pv.look]) (by simp[aI,aB,inObs,Pv.look]));have bD:=(Qz l v).1;unfold rK at ax;refine bN.mk mixed fH aau ag0 (by simp) ag.obj fun aQ cL=>?_;unfold Oa;simp;(with_reducible repeat' first|((first|apply bL|apply bQ|apply bP)<;>intro h<;>try simp at h)|refine aj ?_|refine aD (tf l v av) ?_|refine aE (tf l v av) ?_|simp)
 ·obtain⟨b,ad⟩:∃b,l[(mJ l v).toNat]? =some b:=⟨_,cf (by omega)⟩;have hK:o=some b.t:=by rw[ax,if_neg (by omega),ad];rfl
  simp[ad];(with_reducible repeat' first|((first|apply bL|apply bQ|apply bP)<;>intro h<;>try simp at h)|refine aj ?_|simp[ad]);refine cT.at _ (.inl rfl) ag (Same.refl _) aR aR ?_;simp[cY,K8,aW,aX,aV];simp[hK]
 ·have hK:o=none:=by rw[ax,if_pos h]
  refine cT.at _ (.inl rfl) ag (Same.refl _) aR aR ?_;simp[cY,K8,aW,aX,aV];simp[hK]
theorem acy(s:cK)(ag:ed s)(g:Nat)(dj:List ah)(au:aI (inObs s) dj)(da:cZ dj=dj)(f:Int→Int)(Bz:∀v,-1≤f v)(t:T)(aJ:∀v,t.occ v=true→bN al g (.int .i64 v::dj) s fun r ai=>r= .int .i64 (f v)∧ai=s):
  bN al 192 [t.e,.func g dj] s fun r ai=>r= .int .i64 (k1 f t)∧ai=s:=by
 have aA:∀m,Pv.look (.loc m) s.b=none:=ag.obj.1;have hu:∀m cs,cA (.loc m) cs s.b=s.b++[(.loc m,cs)]:=fun m cs=>jT (aA m);have ax:∀m,aH.loc m∉cV s:=jO ag.obj;induction t with
 |pair a b dS dT=>
  have an8:=Gz f Bz a;have aob:=Gz f Bz b;refine bN.mk mixed fH wU xT (by simp) ag.obj fun aQ cL=>?_;unfold u3;simp[hu,ax,cJ,aA,da];(with_reducible repeat' first|refine aj ?_|simp[hu,ax,cJ,aA]);refine c6.ob (dS fun v aG=>aJ v (by simp[T.occ,aG])) ag aR aR (by simp[au]) ?_;rintro r ai ⟨rfl,rfl⟩;refine⟨Same.refl _,?_⟩;simp[gR,im,cz,aA];(with_reducible repeat' first|((first|apply bL|apply bQ|apply bP)<;>intro h<;>try simp at h)|refine aj ?_|simp[hu,ax,cJ,aA])
  ·refine cT.at ai (.inl rfl) ag (Same.refl _) aR aR ?_;simp[cY,uD,aW,aX,aV];simp[k1];omega
  ·rw[da];refine c6.ob (dT fun v aG=>aJ v (by simp[T.occ,aG])) ag aR aR (by simp[au]) ?_;rintro r s2 ⟨rfl,rfl⟩;refine⟨Same.refl _,?_⟩;simp[gR,im,cz,aA];(with_reducible repeat' first|((first|apply bL|apply bQ|apply bP)<;>intro h<;>try simp at h)|refine aj ?_|simp[hu,ax,cJ,aA]);refine cT.at s2 (.inl rfl) ag (Same.refl _) aR aR ?_;simp[cY,uD,aW,aX,aV];simp[k1];omega
 |var n=>refine bN.mk mixed fH wU xT (by simp) ag.obj fun aQ cL=>?_;unfold u3;simp[hu,ax,cJ,aA,da];(with_reducible repeat' first|refine aj ?_|simp[hu,ax,cJ,aA]);refine c6.ob (aJ n (by simp[T.occ])) ag aR aR (by simp[au]) ?_;rintro r ai ⟨rfl,rfl⟩;refine⟨Same.refl _,?_⟩;simp[gR,im,cz,aA];refine cT.at ai (.inl rfl) ag (Same.refl _) aR aR ?_;simp[cY,uD,aW,aX,aV];simp[k1]
 |_=>refine bN.mk mixed fH wU xT (by simp) ag.obj fun aQ cL=>?_;unfold u3;simp[hu,ax,cJ,aA,da];(with_reducible repeat' first|refine aj ?_|simp[hu,ax,cJ,aA]);refine cT.at s (.inl rfl) ag (Same.refl _) aR aR ?_;simp[cY,uD,aW,aX,aV];simp[k1]
theorem acj(s:cK)(ag:ed s)(g:Nat)(dj:List ah)(au:aI (inObs s) dj)(da:cZ dj=dj)(f:Int→aY T)(t:T)(aJ:∀v,t.occ v=true→bN al g (.int .i64 v::dj) s fun r ai=>r= .tuple [((f v).getD .nil).e,.bool (f v).isSome]∧ai=s):
  bN al 194 [t.e,.func g dj] s fun r ai=>r=(t.sub f).e∧ai=s:=by
 have aA:∀m,Pv.look (.loc m) s.b=none:=ag.obj.1;have cF:∀m,Pv.look (.loc m) s.e=none:=ag.obj.2;have hu:∀m cs,cA (.loc m) cs s.b=s.b++[(.loc m,cs)]:=fun m cs=>jT (aA m);have ax:∀m,aH.loc m∉cV s:=jO ag.obj;have lu:∀m p r,cA (.loc m) p (s.b++r)=s.b++cA (.loc m) p r:=fun m p r=>AB (aA m);induction t with
 |pair a b dS dT=>refine bN.mk mixed fH yO zS (by simp) ag.obj fun aQ cL=>?_;unfold wP;simp[hu,ax,cJ,aA,cF,da,lu];(with_reducible repeat' first|refine aj ?_|simp[hu,ax,cJ,aA,cF,lu]);refine hZ.ob (dS fun v aG=>aJ v (by simp[T.occ,aG])) ag ag (Same.refl _) aR aR (by simp[au]) ?_;simp[gR,im,cz,aA,da];refine hZ.ob (dT fun v aG=>aJ v (by simp[T.occ,aG])) ag ag (Same.refl _) aR aR (by simp[au]) ?_;simp[gR,im,cz,aA,da];(with_reducible repeat' first|refine aj ?_|refine aD (GV _ _) ?_|refine aE (GV _ _) ?_|simp);refine cT.at s (.inl rfl) ag (Same.refl _) aR aR ?_;simp[cY,x0,aW,aX,aV,cJ,aA];simp[T.sub]
 |var n=>
  refine bN.mk mixed fH yO zS (by simp) ag.obj fun aQ cL=>?_;unfold wP;simp[hu,ax,cJ,aA,da,lu];(with_reducible repeat' first|refine aj ?_|simp[hu,ax,cJ,aA,lu]);refine c6.ob (aJ n (by simp[T.occ])) ag aR aR (by simp[au]) ?_;rintro r ai ⟨rfl,rfl⟩;refine⟨Same.refl _,?_⟩;simp[gR,im,cz,aA,hu,ax,cJ];(with_reducible repeat' first|((first|apply bL|apply bQ|apply bP)<;>intro h<;>try simp at h)|refine aj ?_|refine aD (te _) ?_|refine aE (te _) ?_|simp[hu,ax,cJ,aA,lu]);all_goals refine cT.at ai (.inl rfl) ag (Same.refl _) aR aR ?_
  all_goals simp[cY,x0,aW,aX,aV,cJ,aA]
  all_goals cases qp:f n<;>simp_all[T.sub]
 |_=>refine bN.mk mixed fH yO zS (by simp) ag.obj fun aQ cL=>?_;unfold wP;simp[hu,ax,cJ,aA,da,lu];(with_reducible repeat' first|((first|apply bL|apply bQ|apply bP)<;>intro h<;>try simp at h)|refine aj ?_|simp[hu,ax,cJ,aA,lu]);refine cT.at s (.inl rfl) ag (Same.refl _) aR aR ?_;simp[cY,x0,aW,aX,aV,cJ,aA];simp[T.sub]
def nS(l:List ar):cK:=⟨[(.obj 201,[.slice 5 .no (l.map ar.e)])],[]⟩
def qR(l:List ar):cK:=⟨[(.obj 201,[.slice 5 .no (l.map ar.e)]),(.obj 202,[.func 138 [.ptr (.obj 201) 0]])],[]⟩
theorem AO(l:List ar):ed (nS l):=by unfold nS;exact(ed.of ⟨by intro m;simp[Pv.look],by intro m;simp[Pv.look]⟩ (by simp[aI,aB,inObs,Pv.look]) (by simp[aI,aB,inObs,Pv.look]))
theorem G3(l:List ar):ed (qR l):=by unfold qR;exact(ed.of ⟨by intro m;simp[Pv.look],by intro m;simp[Pv.look]⟩ (by simp[aI,aB,inObs,Pv.look]) (by simp[aI,aB,inObs,Pv.look]))
def tJ(l:List ar)(v:Int):Int:=match rK l v with|some x=>fs x.tm 5000|none=>1
theorem ab1(l:List ar)(v:Int): -1≤tJ l v:=by
 unfold tJ;split
 ·rename_i x _;rcases Cw x.tm 5000 with h|h<;>omega
 ·omega
theorem WH(t:T):bF al 131 [t.e,.int .i64 5000] (.int .i64 (fs t.tm 5000)):=by have:=WG t.tm.sz t.tm (eR _) 5000 (by omega);rwa[qW]at this
theorem acv(l:List ar)(v:Int)(av:l.length≤1000000):bN al 193 [.int .i64 v,.ptr (.obj 202) 0] (qR l) fun r ai=>r= .int .i64 (tJ l v)∧ai=qR l:=by
 have ag:=G3 l;unfold qR at ag⊢;refine bN.mk mixed fH aaw ag2 (by simp) ag.obj fun aQ cL=>?_;unfold Oc;simp;refine c6.ob (QO l v av _ rfl) (AO l) aR aR (by simp[inObs]) ?_;rintro r ai ⟨rfl,rfl⟩;refine⟨Same.refl _,?_⟩;simp[cz];(with_reducible repeat' first|((first|apply bL|apply bQ|apply bP)<;>intro h<;>try simp at h)|refine aj ?_|refine aD (WH _) ?_|refine aE (WH _) ?_|simp);all_goals refine cT.at _ (.inl rfl) ag (Same.refl _) aR aR ?_
 all_goals simp[cY,UQ,aW,aX,aV]
 all_goals unfold tJ
 all_goals cases bI:rK l v<;>simp_all
def CO(l:List ar)(t:T):T:=t.sub (rK l)
def sV(l:List ar)(t:T):Bool:=decide (k1 (tJ l) t≤5000)
theorem acu(l:List ar)(t:T)(av:l.length≤1000000):bN al 137 [t.e,.func 138 [.ptr (.obj 201) 0]] (nS l) fun r ai=>r= .tuple [(if sV l t then CO l t else .nil).e,.bool (sV l t)]∧ai=nS l:=by
 have ag:=AO l;unfold nS at ag⊢;refine bN.mk mixed fH aav ag1 (by simp) ag.obj fun aQ cL=>?_;unfold Ob;simp;refine c6.ob (acy (qR l) (G3 l) 193 [.ptr (.obj 202) 0] (by simp[inObs,qR]) (by simp) (tJ l) (ab1 l) t fun v aG=>acv l v av) (G3 l) (by unfold qR;exact aR) (by unfold qR;exact aR) (by simp[inObs,qR]) ?_;rintro r ai ⟨rfl,rfl⟩;refine⟨Same.refl _,?_⟩;unfold qR;simp[cz];(with_reducible repeat' first|((first|apply bL|apply bQ|apply bP)<;>intro h<;>try simp at h)|refine aj ?_|simp)
 ·refine cT.at _ (.inl rfl) ag (Same.refl _) aR aR ?_;simp[cY,K9,aW,aX,aV];have:sV l t=false:=by simp[sV];omega
  simp[this]
 ·refine c6.ob (acj (nS l) (AO l) 138 [.ptr (.obj 201) 0] (by simp[inObs,nS]) (by simp) (rK l) t fun v aG=>QO l v av _ rfl) (AO l) (by unfold nS;exact aR) (by unfold nS;exact aR) (by simp[inObs,nS]) ?_;rintro r ai ⟨rfl,rfl⟩;refine⟨Same.refl _,?_⟩;unfold nS;simp[cz];refine cT.at _ (.inl rfl) ag (Same.refl _) aR aR ?_;simp[cY,K9,aW,aX,aV];have:sV l t=true:=by simp[sV];omega
  simp[this,CO]
theorem alH(l:List ar)(t:T)(av:l.length≤1000000):bF al 69 [.slice 5 .no (l.map ar.e),t.e] (.tuple [(if sV l t then CO l t else .nil).e,.bool (sV l t)]):=by refine bm fH aat agZ fun aQ=>?_;unfold N9;simp;refine c6.ob (acu l t av) (AO l) (by unfold nS;exact aR) (by unfold nS;exact aR) (by simp[inObs,nS]) ?_;rintro r ai ⟨rfl,rfl⟩;refine⟨Same.refl _,?_⟩;unfold nS;simp[cz];simp[bz,UP,aW,aX,aV]
theorem LU(p:Nat→Bool)(n:Nat)(hm:∀k bK,k≤bK→bK<n→p k=true→p bK=true):∀(m i j:Nat),j-i≤m→i≤j→j≤n→(∀k,k<i→p k=false)→(∀k,j≤k→k<n→p k=true)→
  (i≤lX p i j∧lX p i j≤j)∧(∀k,k<lX p i j→p k=false)∧(∀k,lX p i j≤k→k<n→p k=true)
 |m,i,j,aP,lP,af,J,U=>by
  rw[lX];split
  ·rename_i bD;obtain⟨m,rfl⟩:∃hn,m=hn+1:=⟨m-1,by omega⟩;split
   ·rename_i bI;have:=LU p n hm m i ((i+j)/2) (by omega) (by omega) (by omega) J (fun k ab EL=>hm _ k ab EL bI);exact⟨⟨this.1.1,by omega⟩,this.2⟩
   ·rename_i bI;have:=LU p n hm m ((i+j)/2+1) j (by omega) (by omega) af (fun k ab=>by
     by_cases ny:p k=true
     ·exact absurd (hm k ((i+j)/2) (by omega) (by omega) ny) bI
     ·simpa using ny) U
    exact⟨⟨by omega,this.1.2⟩,this.2⟩
  ·obtain rfl:i=j:=by omega
   exact⟨⟨eR _,eR _⟩,J,U⟩
theorem KY{l:List ar}(ag:hB l)(v:Int):rK l v=df l v:=by
 have bD:∀(i j:Nat) (x y:ar),i<j→l[i]? =some x→l[j]? =some y→x.v<y.v:=by intro i j x y lP ae aL;obtain⟨J,rfl⟩:=fi.1 ae;obtain⟨U,rfl⟩:=fi.1 aL;exact pj.1 ag i j J U lP
 obtain⟨p,bI⟩:∃p:Nat→Bool,p=(fun i=>match l[i]? with|some b=>decide (v≤b.v)|none=>false):=⟨_,rfl⟩;have ET:∀i b,l[i]? =some b→p i=decide (v≤b.v):=fun i b ad=>by rw[bI];simp[ad]
 have hm:∀k bK,k≤bK→bK<l.length→p k=true→p bK=true:=by
  intro k bK ab ny h;have ak:l[k]? =some l[k]:=cf (by omega);have aC:l[bK]? =some l[bK]:=cf ny;rw[ET k _ ak]at h;rw[ET bK _ aC];simp only[fk]at h⊢;rcases Nat.lt_or_eq_of_le ab with vq|rfl
  ·have:=bD k bK _ _ vq ak aC;omega
  ·exact h
 obtain⟨⟨_,hle⟩,hbef,haft⟩:=LU p l.length hm l.length 0 l.length (by omega) (by omega) (eR _) (fun k ab=>by omega) (fun k J U=>by omega);have I7:mJ l v=(match l[lX p 0 l.length]? with|some b=>if b.v=v then((lX p 0 l.length:Nat):Int)else-1|none=> -1):=by rw[bI];rfl
 generalize lX p 0 l.length=r at hle hbef haft I7;by_cases hex:∃(k:Nat) (b:ar),l[k]? =some b∧b.v=v
 ·obtain⟨k,b,ad,Rc⟩:=hex;have hE:k<l.length:=(fi.1 ad).1;have gp:r≤k:=by
   rcases Nat.lt_or_ge k r with h|h
   ·have:=hbef k h;rw[ET k b ad]at this;simp at this;omega
   ·exact h
  have aK:l[r]? =some l[r]:=cf (by omega);have zl:=haft r (eR _) (by omega);rw[ET r _ aK]at zl;simp only[fk]at zl;have aef:r=k:=by
   rcases Nat.lt_or_eq_of_le gp with h|h
   ·have:=bD r k _ _ h aK ad;omega
   ·exact h
  subst aef;have Ja:mJ l v=r:=by rw[I7,ad];simp[Rc]
  have J:rK l v=some b.t:=by unfold rK;rw[Ja,if_neg (by omega)];simp[ad]
  have U:l.find? (fun b=>b.v==v)=some b:=by
   rw[List.find?_eq_some_iff_getElem];refine⟨by simp[Rc],r,hE,?_,fun j af=>?_⟩
   ·rw[cf hE]at ad;simpa using ad
   ·have:=bD j r l[j] b af (cf (by omega)) ad;simp;omega
  rw[J];simp[df,U]
 ·have U:l.find? (fun b=>b.v==v)=none:=by rw[List.find?_eq_none];intro b ad;obtain⟨k,ab,rfl⟩:=List.mem_iff_getElem.1 ad;simp;intro e;exact hex ⟨k,l[k],cf ab,e⟩
  have Ja:mJ l v= -1:=by
   rw[I7];split
   ·rename_i b ad;rw[if_neg (fun e=>hex ⟨r,b,ad,e⟩)]
   ·rfl
  unfold rK;rw[Ja];simp[df,U]
theorem QA{l:List ar}(ag:hB l)(v:Int):mJ l v<0↔df l v=none:=by
 rw[←KY ag v];unfold rK;have J:=Qz l v;by_cases h:mJ l v<0
 ·simp[h]
 ·simp only[h,if_false,false_iff];intro e;rw[Option.map_eq_none_iff,List.getElem?_eq_none_iff]at e;omega
def wX(s:List ar):Prop:= ∀b∈s,b.t.fit=true
theorem ab0{l:List ar}(ag:hB l)(h:wX l)(v:Int):tJ l v=(bR l v).size:=by
 unfold tJ bR;rw[KY ag];cases ad:df l v with
 |none=>simp[T.size]
 |some x=>have:=h _ (jI ad);simp only[T.fit,cC,fk]at this;simp only[j9];rw[FI,if_pos ⟨this.1,by omega⟩]
theorem aj5{l:List ar}(ag:hB l)(h:wX l)(t:T):k1 (tJ l) t=cut (t.ap (bR l)).size:=by
 induction t with
 |var n=>simp only[k1,ab0 ag h,T.ap];rfl
 |pair a b dS dT=>have ad:=T.size_pos (b.ap (bR l));simp only[k1,dS,dT,T.ap,T.size];unfold cut;(repeat' split)<;>omega
 |_=>simp[k1,T.ap,T.size,cut]
theorem aiv{l:List ar}(ag:hB l)(h:wX l)(t:T):sV l t=decide ((t.ap (bR l)).size≤5000):=by unfold sV;rw[aj5 ag h];unfold cut;split<;>simp<;>omega
theorem aiw{l:List ar}(ag:hB l)(t:T):CO l t=t.ap (bR l):=by unfold CO;rw[VW];exact tx fun v _=>by rw[KY ag];rfl
theorem yk(l:List ar)(t:T)(av:l.length≤1000000)(ag:hB l)(h:wX l):bF al 69 [.slice 5 .no (l.map ar.e),t.e] (.tuple [(if(t.ap (bR l)).size≤5000 then t.ap (bR l)else .nil).e,.bool (decide ((t.ap (bR l)).size≤5000))]):=by have:=alH l t av;rw[aiv ag h,aiw ag]at this;simpa using this
def Cl(l:List (Int×T)):List ah:=jC (l.map fun x=>(x.1,x.2.e))
@[simp] theorem apd:Cl []=jC []:=rfl
@[simp] theorem aqy(m:aH)(l:List (Int×T)):wb m (Cl l)=some (cn l.length [] m):=by simp[Cl]
@[simp] theorem apI(l:List (Int×T)):hP (Cl l)=false:=rfl
@[simp] theorem apu(f:aH→aY (List ah))(m:aH)(l:List (Int×T))(hm:f m=some (Cl l)):uv f (.gmap m)=some (True,.int .i64 l.length):=by have:=af7 f m _ hm;simpa using this
end Go.Proofs.YtahlgcidhnjlbaaGreat
namespace Go.Proofs
open Go.Shelf
def Tryz.lays191_ren:Go.Shelf.Ren:=⟨fun|191=>191|189=>220|125=>213|257=>250|128=>236|129=>237|294=>261|295=>262|296=>263|297=>264|298=>265|299=>266|216=>267|300=>268|301=>269|328=>272|329=>273|330=>274|331=>275|332=>276|215=>277|343=>278|n=>n,fun|28=>76|0=>0|3=>3|46=>192|51=>206|53=>208|4=>4|183=>230|182=>229|131=>214|5=>5|9=>9|218=>238|222=>226|228=>241|229=>236|n=>n,fun|n=>n⟩
theorem Tryz.lays191:Go.Proofs.Lays.n191 al Tryz.lays191_ren:={
 mixed:=by kernel_rfl
 f125:=Tryz.func213.trans (e2 some (by kernel_rfl))
 f128:=Tryz.func236.trans (e2 some (by kernel_rfl))
 f129:=Tryz.func237.trans (e2 some (by kernel_rfl))
 f189:=Tryz.func220.trans (e2 some (by kernel_rfl))
 f191:=Tryz.func191.trans (e2 some (by kernel_rfl))
 f215:=Tryz.func277.trans (e2 some (by kernel_rfl))
 f216:=Tryz.func267.trans (e2 some (by kernel_rfl))
 f257:=Tryz.func250.trans (e2 some (by kernel_rfl))
 f294:=Tryz.func261.trans (e2 some (by kernel_rfl))
 f295:=Tryz.func262.trans (e2 some (by kernel_rfl))
 f296:=Tryz.func263.trans (e2 some (by kernel_rfl))
 f297:=Tryz.func264.trans (e2 some (by kernel_rfl))
 f298:=Tryz.func265.trans (e2 some (by kernel_rfl))
 f299:=Tryz.func266.trans (e2 some (by kernel_rfl))
 f300:=Tryz.func268.trans (e2 some (by kernel_rfl))
 f301:=Tryz.func269.trans (e2 some (by kernel_rfl))
 f328:=Tryz.func272.trans (e2 some (by kernel_rfl))
 f329:=Tryz.func273.trans (e2 some (by kernel_rfl))
 f330:=Tryz.func274.trans (e2 some (by kernel_rfl))
 f331:=Tryz.func275.trans (e2 some (by kernel_rfl))
 f332:=Tryz.func276.trans (e2 some (by kernel_rfl))
 f343:=Tryz.func278.trans (e2 some (by kernel_rfl))
 t0:=Tryz.underlying0
 a0:=Tryz.isAgg0
 z0:=Tryz.sizeOf0
 v0:=Tryz.zeroValue0
 t3:=Tryz.underlying3
 a3:=Tryz.isAgg3
 z3:=Tryz.sizeOf3
 v3:=Tryz.zeroValue3
 t4:=Tryz.underlying4
 a4:=Tryz.isAgg4
 z4:=Tryz.sizeOf4
 v4:=Tryz.zeroValue4
 t5:=Tryz.underlying5
 a5:=Tryz.isAgg5
 z5:=Tryz.sizeOf5
 v5:=Tryz.zeroValue5
 t9:=Tryz.underlying9
 a9:=Tryz.isAgg9
 z9:=Tryz.sizeOf9
 v9:=Tryz.zeroValue9
 t28:=Tryz.underlying76
 a28:=Tryz.isAgg76
 z28:=Tryz.sizeOf76
 v28:=Tryz.zeroValue76
 t46:=Tryz.underlying192
 a46:=Tryz.isAgg192
 z46:=Tryz.sizeOf192
 v46:=Tryz.zeroValue192
 t51:=Tryz.underlying206
 a51:=Tryz.isAgg206
 z51:=Tryz.sizeOf206
 v51:=Tryz.zeroValue206
 t53:=Tryz.underlying208
 a53:=Tryz.isAgg208
 z53:=Tryz.sizeOf208
 v53:=Tryz.zeroValue208
 t131:=Tryz.underlying214
 a131:=Tryz.isAgg214
 z131:=Tryz.sizeOf214
 v131:=Tryz.zeroValue214
 t182:=Tryz.underlying229
 a182:=Tryz.isAgg229
 z182:=Tryz.sizeOf229
 v182:=Tryz.zeroValue229
 t183:=Tryz.underlying230
 a183:=Tryz.isAgg230
 z183:=Tryz.sizeOf230
 v183:=Tryz.zeroValue230
 t218:=Tryz.underlying238
 a218:=Tryz.isAgg238
 z218:=Tryz.sizeOf238
 v218:=Tryz.zeroValue238
 t222:=Tryz.underlying226
 a222:=Tryz.isAgg226
 z222:=Tryz.sizeOf226
 v222:=Tryz.zeroValue226
 t228:=Tryz.underlying241
 a228:=Tryz.isAgg241
 z228:=Tryz.sizeOf241
 v228:=Tryz.zeroValue241
 t229:=Tryz.underlying236
 a229:=Tryz.isAgg236
 z229:=Tryz.sizeOf236
 v229:=Tryz.zeroValue236}
end Go.Proofs

namespace Go.Proofs.YtahlgcidhnjlbaaGreat
open Go Go.Pv
def ek(xs:List Int):List ah:=xs.map (ah.int .i64)
theorem Vm{w:World}{ν:bd}:∀{xs:List Int} {us:List Value},dw w ν 1 (ek xs) us→us=xs.map (Value.int .i64)
 |[],us,h=>by simpa[ek,dw]using h
 |x::xs,us,h=>by simp only[ek,hf,dw]at h;obtain⟨u,ck,rfl,⟨J,_,_⟩,U⟩:=h;simp only[a8]at J;subst J;rw[Vm U];rfl
theorem Sp(w:World)(ν:bd):∀xs:List Int,dw w ν 1 (ek xs) (xs.map (Value.int .i64))
 |[]=>by simp[ek,dw]
 |x::xs=>by simp only[ek,hf,dw];exact⟨.int .i64 x,_,rfl,⟨by simp[a8],rfl,by intro c au;simp[pe]at au;subst au;rfl⟩,Sp w ν xs⟩
def mE(K:Nat)(xs:List Int):cK:=⟨[],[(.obj K,⟨xs.length,3,1,some (ek xs)⟩)]⟩
theorem sM(S:aH→Prop)(xs:List Int):aI S (ek xs):=by
 induction xs with
 |nil=>simp[ek,aI]
 |cons x r bU=>simp only[ek,hf,aI,aB];exact⟨trivial,bU⟩
theorem G7(K:Nat)(xs:List Int):ed (mE K xs):=by unfold mE;refine ed.of ⟨by intro m;simp[Pv.look],by intro m;simp[Pv.look]⟩ (by simp) ?_;intro x ae ys aL;simp at ae;subst ae;simp at aL;subst aL;exact sM _ xs
def qE(xs:List Int):List Int:=xs.mergeSort fun x y=>decide (x≤y)
theorem VM(xs:List Int):(qE xs).length=xs.length:=List.length_mergeSort xs
theorem acD(K:Nat)(xs:List Int)(av:xs.length≤1000000):bN al 191 [.row 1 (.obj K) xs.length] (mE K xs) fun r ai=>r= .tuple []∧ai=mE K (qE xs):=by
 refine bN.sem (G7 K xs).obj fun w ν bc kG aK=>?_;refine .inl ⟨⟨Tryz.f191,Tryz.func191,by kernel_rfl,by kernel_rfl⟩,?_⟩;have rq:=aK.slot 0;simp only[j6,Pv.get,if_true]at rq;have kE:Pv.look (.obj K) (mE K xs).e=some ⟨xs.length,3,1,some (ek xs)⟩:=by simp[mE,Pv.look]
 obtain⟨v,us,a6,bE,bX,cX⟩:=aK.good.own (.obj K) _ kE;obtain⟨c8,nG,uB⟩:=cX _ rfl;have qv:=Vm nG;subst qv;simp only[a8]at rq;obtain⟨⟨amE,XZ,vh⟩,_,n',u,ak,aC,bk⟩:=rq;rw[a6]at ak;simp only[dG,jm]at ak;obtain⟨rfl,rfl⟩:=ak;have aG:=bk rfl;have aeu:bc= #[v]:=by
  have J:bc.size=1:=by simpa using kG
  apply Array.ext (by simpa using J);intro i U ao;simp at ao;subst ao;rw[←aG];simp[Array.getD,J]
 have cF:v≠ .slice none 0 0:=by rw[←aG,vh];simp
 obtain⟨g,cap,rfl,_,qq,rf,adt,BB,Bq⟩:=Lib.holds_of_ownsRow bE cF;have au:=Any.sort_Ints Tryz.lays191 g 0 cap xs w Bq qq (by omega);subst aeu;refine au.mono ?_;rintro e w' ⟨rfl,n,os,rfl⟩;have pI:=VM xs;have lp:=Lib.ownsRow_putRow (q:=n) (k:=xs.length) (ys:=qE xs) bE pI (eR _);rw[hz (by omega)]at lp;obtain⟨cO,dp,_⟩:=aK.setRowM (w':=Sort.putRow (Value.int .i64) (Sort.ahead w n) g 0 (qE xs).toArray) kE rfl a6 (bl:=g) rfl (v':= .slice (some ⟨g,0,none⟩) xs.length cap) rfl (xs':=ek (qE xs)) (us:=(qE xs).map (Value.int .i64)) (.inl ⟨by simp[ek,pI],rfl⟩) rfl rfl rfl
  (fun j af=>by simp[Sort.putRow,Sort.mapBlock,Sort.ahead,Array.getElem?_modify,kN af]) (by simp[Sort.putRow,Sort.mapBlock,Sort.ahead]) (by simpa[ek,pI]using lp) (Sp _ _ _)
 have iJ:=cO.grown (w':=Sort.grow (Sort.putRow (Value.int .i64) (Sort.ahead w n) g 0 (qE xs).toArray) os) ⟨rfl,rfl,rfl,by simp,fun k ab _=>Sort.heap_grow_old _ _ ab⟩;refine⟨_,_,_,_,.tuple [],mE K (qE xs),rfl,iJ,by simp[a8,cP],by simp[mE,lU],?_,?_,?_,(G7 K _).obj,by simp[aB,aI],rfl,rfl⟩
 ·simp[mE,lU,inObs,Pv.look]
 ·intro k cs ab;simp[mE,Pv.look]at ab
 ·intro k o ab;have hm:=sO ab;simp[mE]at hm;obtain⟨rfl,rfl⟩:=hm;refine⟨by simp[mE,Pv.look,cA,ek,pI],.inr (by simp[ab]),fun ys aL=>?_⟩;simp at aL;subst aL;exact sM _ _
def nX(l:List Int):List ah:=jC (l.map fun x=>(x,.bool true))
theorem mo(S:aH→Prop)(l:List Int):aI S (nX l):=by
 have:∀l:List Int,aI S (kf (l.map fun x=>(x,.bool true))):=by
  intro l;induction l with
  |nil=>simp[kf,aI]
  |cons x r bU=>simp[kf,aI,bU,aB]
 simp[nX,jC,aI,this,aB]
def Hj(v:Int)(l:List Int):List Int:=if v∈l then l else l++[v]
theorem Na(k:Int):∀l:List Int,oM k (.bool true) (l.map fun x=>(x,ah.bool true))=if k∈l then some (l.map fun x=>(x,ah.bool true))else none
 |[]=>rfl
 |i::r=>by
  by_cases h:k=i
  ·simp[oM,h]
  ·by_cases U:k∈r<;>simp[oM,h,U,Na k r]
@[simp] theorem apv(k:Int)(l:List Int):oq .i (.int .i64 k) (.bool true) (nX l)=some (nX (Hj k l)):=by
 simp only[nX,TK,DK,Na,Hj];split<;>rename_i h
 ·split at h
  ·simp at h;subst h;simp[*]
  ·cases h
 ·split at h
  ·cases h
  ·simp[*]
@[simp] theorem amF:nX []=jC []:=rfl
@[simp] theorem apG(l:List Int):hP (nX l)=false:=rfl
@[simp] theorem aqx(m:aH)(l:List Int):wb m (nX l)=some (cn l.length [] m):=by simp[nX]
theorem afJ(f:aH→aY (List ah))(ff mk:aH)(n:Nat)(seen:List Nat)(b:Nat)(l:List Int)(x:Int)(hi:f ff=some (cn n (seen++[b]) mk))(hm:f mk=some (nX l))(aA:n=l.length)(ae:l[b]? =some x):o6 f (.ptr ff 0)=some (True,.tuple [.int .i64 x,.bool true]):=by rw[Tx f ff mk n seen b _ hi hm (by simpa using aA)];simp[ae]
theorem YY{st:bq}{d:Nat}{K:bq→Prop}{ff mk:aH}{n:Nat}{seen:List Nat}{l:List Int}(hi:Pv.look ff st.b=some (cn n seen mk))(hm:Pv.look mk st.b=some (nX l))(aA:n=l.length)
  (J:(∀b,b<l.length→b∈seen)→K {st with t:=Pv.put d (.tuple [.bool false]) st.t}) (U:∀b x,l[b]? =some x→b∉seen→K {st with t:=Pv.put d (.tuple [.bool true,.int .i64 x,.bool true]) st.t,b:=cA ff (cn n (seen++[b]) mk) st.b}):
  sl st d (.ptr ff 0) K:=by
 refine P7 hi hm (by simpa using aA) (fun h=>J fun b ad=>h b (by omega)) (fun b k v ad ag=>?_);simp only[List.getElem?_map,gJ]at ad;obtain⟨x,ak,aC⟩:=ad;simp only[jm]at aC;obtain⟨rfl,rfl⟩:=aC;exact U b x ak ag
def _root_.Go.Pv.T.fold{α:Type}(f:Int→α→α):T→α→α
 | .var n,a=>f n a
 | .pair x y,a=>y.fold f (x.fold f a)
 |_,a=>a
theorem IE{α:Type}(S:α→cK)(dB:∀a,ed (S a))(eZ:∀a b,Same (S a) (S b))(g:Nat)(dj:List ah)(au:∀a,aI (inObs (S a)) dj)(da:cZ dj=dj)(f:Int→α→α)(aJ:∀v a,bN al g (.int .i64 v::dj) (S a) fun r ai=>r= .tuple []∧ai=S (f v a))(t:T):
  ∀a,bN al 134 [t.e,.func g dj] (S a) fun r ai=>r= .tuple []∧ai=S (t.fold f a):=by
 have aA:∀a m,Pv.look (.loc m) (S a).b=none:=fun a=>(dB a).obj.1;have hu:∀a m cs,cA (.loc m) cs (S a).b=(S a).b++[(.loc m,cs)]:=fun a m cs=>jT (aA a m);have ax:∀a m,aH.loc m∉cV (S a):=fun a=>jO (dB a).obj;induction t with
 |pair x y nC pJ=>intro a;have ag:=dB a;refine bN.mk mixed fH yN zR (by simp) ag.obj fun aQ cL=>?_;unfold wO;simp[hu,ax,cJ,aA,da];(with_reducible repeat' first|refine aj ?_|simp[hu,ax,cJ,aA]);refine c6.ob (nC a) ag aR aR (by simp[au]) ?_;rintro r ai ⟨rfl,rfl⟩;refine⟨eZ _ _,?_⟩;simp[gR,im,cz,aA];(with_reducible repeat' first|refine aj ?_|simp[hu,ax,cJ,aA]);rw[da];refine c6.ob (pJ (x.fold f a)) (dB (x.fold f a)) aR aR (by simp[au]) ?_;rintro r ai ⟨rfl,rfl⟩;refine⟨eZ _ _,?_⟩;simp[gR,im,cz,aA];refine cT.at (S (y.fold f (x.fold f a))) (.inr rfl) (dB _) (eZ _ _) aR aR ?_;simp[cY,xZ,aW,aX,aV];simp[T.fold]
 |var n=>intro a;have ag:=dB a;refine bN.mk mixed fH yN zR (by simp) ag.obj fun aQ cL=>?_;unfold wO;simp[hu,ax,cJ,aA,da];(with_reducible repeat' first|refine aj ?_|simp[hu,ax,cJ,aA]);refine c6.ob (aJ n a) ag aR aR (by simp[au]) ?_;rintro r ai ⟨rfl,rfl⟩;refine⟨eZ _ _,?_⟩;simp[gR,im,cz,aA,cJ];refine cT.at (S (f n a)) (.inr rfl) (dB _) (eZ _ _) aR aR ?_;simp[cY,xZ,aW,aX,aV];simp[T.fold]
 |_=>intro a;have ag:=dB a;refine bN.mk mixed fH yN zR (by simp) ag.obj fun aQ cL=>?_;unfold wO;simp[hu,ax,cJ,aA,da];(with_reducible repeat' first|refine aj ?_|simp[hu,ax,cJ,aA]);refine cT.at (S a) (.inr rfl) ag (Same.refl _) aR aR ?_;simp[cY,xZ,aW,aX,aV];simp[T.fold]
def tq(l:List Int):cK:=⟨[(.obj 304,nX l)],[]⟩
theorem MT(l:List Int):ed (tq l):=by unfold tq;exact ed.of ⟨by intro m;simp[Pv.look],by intro m;simp[Pv.look]⟩ (by simp[mo,aI,aB,inObs,Pv.look]) (by simp)
def Hx:C:=(aa [cN 1 0,be 2 false] (.seq (.seq (.fz false 1 (.region [aw 6 1 1,cM 7 158 6,cx 8 7])) (aS 8 (aa [be 2 false] .ret) .skip)) (.seq (aa [aw 9 1 1,cb 10 9,bS 11 0] (fe 12 11 10 (.seq (.block 1 (aa [cj 13 5 9 11,a7 14 5 13,dh 4 ij,bM 5 4 14] (aa [cU (.alloc 5 (some 731) (.bool false)),cU (.store 1 (.t 5) (.c (.bool true)))] (aa [gq 15 1 4 4,a7 16 4 15,b7 17 (.mkf 159 [.t 1,.t 5]),b4 18 134 16 17] (aa [aw 19 1 5,cx 20 19,I 21 20,aq 21 false (gq 22 1 4 4),aq 21 false (aF 23 0 1 22),aq 21 false (aw 24 1 23),aq 21 false (aT 25 .eql 24 1),bZ 21 false 26 25,aq 26 true (gq 27 1 4 4),aq 26 true (aF 28 1 1 27),aq 26 true (aw 29 1 28),aq 26 true (aF 30 0 1 4),aq 26 true (aw 31 1 30),aq 26 true (bh 32 .geq 29 31),aq 21 false (dy 33 26 32),c2 34 21 33] (aS 34 (aa [be 2 false] .ret) .skip)))))) (.region [aT 35 .add 11 1,I 11 35])))) (aa [be 2 true] .ret))))
@[simp] def aiG:List bu:=[.tmp 2]
def Hy:C:=(aa [aw 4 1 1,I 5 0,b4 6 139 4 5,aT 7 .geq 6 0] (aS 7 (.region [cU (.store 1 (.t 2) (.c (.bool false)))]) .skip))
@[simp] def K5:List bu:=[]
def NA:C:=(aa [eQ 4 5,be 5 false] (.seq (aa [I 8 0,cM 9 86 8,cx 10 9,I 11 10,bZ 11 false 12 1,aq 11 false (cM 13 86 12),aq 11 false (cx 14 13),c2 15 11 14] (aS 15 (aa [eQ 4 5,be 5 false] .ret) .skip)) (aa [I 17 1,cM 18 205 17,I 16 18,cH 19 0 16,cH 20 1 16,I 6 19,I 7 20] (aa [I 21 0,I 22 6,I 23 7,dK 24 186 [.t 21,.t 22,.t 23],cH 25 0 24,cH 26 1 24,I 4 25,I 5 26] .ret))))
@[simp] def Uu:List bu:=[.tmp 4,.tmp 5]
def NG:C:=(aa [eQ 4 5] (.seq (aa [I 8 0,cM 9 86 8,cx 10 9,I 11 10,bZ 11 false 12 1,aq 11 false (cM 13 86 12),aq 11 false (cx 14 13),c2 15 11 14] (aS 15 (aa [eQ 4 5] .ret) .skip)) (aa [fD 16 5 113 [],I 5 16] (.seq (aa [I 17 1,cb 18 17,bS 19 0] (fe 20 19 18 (.seq (.block 1 (aa [cj 21 5 17 19,a7 22 5 21,dh 7 ij,bM 5 7 22] (aa [I 23 0,aF 24 0 1 7,aw 25 1 24,b4 26 139 23 25,aT 27 .lss 26 0] (aS 27 (.drawn true 39 [I 28 5,aF 29 0 1 7,aw 30 1 29,gq 31 1 4 7,a7 32 4 31,cM 33 143 32,j7 34 ij [(0,1,(.t 30)),(1,4,(.t 33))],fD 35 5 113 [.t 34],iN 36 5 113 28 35,I 5 36]) .skip)))) (.region [aT 37 .add 19 1,I 19 37])))) (aa [I 38 5,I 4 38] .ret)))))
@[simp] def aiE:List bu:=[.tmp 4]
def NW:C:=(aa [eQ 2 5] (aa [fD 6 5 113 [],I 3 6] (.seq (aa [I 7 0,cb 8 7,bS 9 0] (fe 10 9 8 (.seq (.block 1 (aa [cj 11 5 7 9,a7 12 5 11,dh 5 ij,bM 5 5 12] (.drawn true 24 [I 13 3,aF 14 0 1 5,aw 15 1 14,gq 16 1 4 5,a7 17 4 16,cM 18 143 17,j7 19 ij [(0,1,(.t 15)),(1,4,(.t 18))],fD 20 5 113 [.t 19],iN 21 5 113 13 20,I 3 21]))) (.region [aT 22 .add 9 1,I 9 22])))) (aa [I 23 3,I 2 23] .ret))))
@[simp] def aiK:List bu:=[.tmp 2]
def HC:C:=(aa [be 4 false] (.seq (aa [I 6 0,cb 7 6,I 8 1,cb 9 8,bh 10 .neq 7 9] (aS 10 (aa [be 4 false] .ret) .skip)) (.seq (aa [I 11 0,cb 12 11,bS 13 0] (fe 14 13 12 (.seq (.block 1 (aa [I 15 13,I 5 15] (.seq (.drawn true 42 [I 16 0,I 17 5,cj 18 5 16 17,aF 19 0 1 18,aw 20 1 19,I 21 1,I 22 5,cj 23 5 21 22,aF 24 0 1 23,aw 25 1 24,bh 26 .neq 20 25,I 27 26,bZ 27 false 28 0,bZ 27 false 29 5,aq 27 false (cj 30 5 28 29),aq 27 false (gq 31 1 4 30),aq 27 false (a7 32 4 31),bZ 27 false 33 1,bZ 27 false 34 5,aq 27 false (cj 35 5 33 34),aq 27 false (gq 36 1 4 35),aq 27 false (a7 37 4 36),aq 27 false (b4 38 142 32 37),aq 27 false (cx 39 38),c2 40 27 39]) (aS 40 (aa [be 4 false] .ret) .skip)))) (.region [aT 41 .add 13 1,I 13 41])))) (aa [be 4 true] .ret))))
@[simp] def UF:List bu:=[.tmp 4]
def NY:C:=(aa [eQ 2 4,eQ 3 4] (aa [fD 8 4 30 [],I 4 8] (aa [fD 9 4 30 [],I 5 9] (.seq (aa [I 10 0,cb 11 10,bS 12 0] (fe 13 12 11 (.seq (.block 1 (aa [cj 14 5 10 12,a7 15 5 14,dh 7 ij,bM 5 7 15] (aa [I 16 4,aF 17 0 1 7,aw 18 1 17,cM 19 116 18,fD 20 4 30 [.t 19],iN 21 4 30 16 20,I 4 21] (.region [I 22 5,gq 23 1 4 7,a7 24 4 23,fD 25 4 30 [.t 24],iN 26 4 30 22 25,I 5 26])))) (.region [aT 27 .add 12 1,I 12 27])))) (aa [I 28 4,I 29 5,I 2 28,I 3 29] .ret)))))
@[simp] def UH:List bu:=[.tmp 2,.tmp 3]
def N6:C:=(aa [bS 4 0] (.seq (aa [bS 5 0] (.block 0 (.loop (.seq (aa [I 8 5,I 9 0,cb 10 9,bh 11 .lss 8 10,I 12 11,bZ 12 true 13 5,bZ 12 true 14 1,aq 12 true (cb 15 14),aq 12 true (bh 16 .lss 13 15),dy 17 12 16] (aS 17 .skip (.exit 0))) (.seq (.block 1 (.seq (.seq (.drawn true 53 [I 20 0,I 21 5,cj 22 5 20 21,aF 23 0 1 22,aw 24 1 23,I 25 1,I 26 5,cj 27 5 25 26,aF 28 0 1 27,aw 29 1 28,b4 30 190 24 29,I 6 30]) (aa [I 31 6,aT 32 .neq 31 0] (aS 32 (aa [I 33 6,I 4 33] .ret) .skip))) (.seq (.drawn true 53 [I 34 0,I 35 5,cj 36 5 34 35,gq 37 1 4 36,a7 38 4 37,I 39 1,I 40 5,cj 41 5 39 40,gq 42 1 4 41,a7 43 4 42,b4 44 133 38 43,I 7 44]) (aa [I 45 7,aT 46 .neq 45 0] (aS 46 (aa [I 47 7,I 4 47] .ret) .skip))))) (.region [I 18 5,aT 19 .add 18 1,I 5 19])))))) (aa [I 48 0,cb 49 48,I 50 1,cb 51 50,b4 52 190 49 51,I 4 52] .ret)))
@[simp] def CP:List bu:=[.tmp 4]
def N3:C:=(aa [be 4 false] (.seq (aa [I 11 0,cb 12 11,bS 13 0] (fe 14 13 12 (.seq (.block 1 (aa [cj 15 5 11 13,a7 16 5 15,dh 6 ij,bM 5 6 16] (aa [I 18 1,aF 19 0 1 6,aw 20 1 19,cM 21 116 20,b4 22 69 18 21,I 17 22,cH 23 0 17,cH 24 1 17,dh 7 dt,bM 4 7 23,I 8 24] (aa [I 26 1,gq 27 1 4 6,a7 28 4 27,b4 29 69 26 28,I 25 29,cH 30 0 25,cH 31 1 25,dh 9 dt,bM 4 9 30,I 10 31] (aa [I 32 8,cx 33 32,I 34 33,bZ 34 false 35 10,aq 34 false (cx 36 35),c2 37 34 36,I 38 37,aq 38 false (a7 39 4 7),aq 38 false (a7 40 4 9),aq 38 false (b4 41 142 39 40),aq 38 false (cx 42 41),c2 43 38 42] (aS 43 (aa [be 4 false] .ret) .skip)))))) (.region [aT 44 .add 13 1,I 13 44])))) (aa [be 4 true] .ret)))
@[simp] def K7:List bu:=[.tmp 4]
def tb:List (Nat×dA):=[
 (3,⟨1,8,.int .i64,.int .i64 0⟩),
 (4,⟨1,1,.bool,.bool false⟩),
 (27,⟨1,24,.slice 30,.slice 4 .nil []⟩),
 (30,⟨4,56,.struct [(0,3),(1,3),(2,9),(3,27)],.agg [.int .i64 0,.int .i64 0,.str [],.slice 4 .nil []]⟩),
 (46,⟨1,24,.slice 113,.slice 5 .nil []⟩),
 (113,⟨5,64,.struct [(0,3),(1,30)],.agg [.int .i64 0,.int .i64 0,.int .i64 0,.str [],.slice 4 .nil []]⟩)]
theorem qK:fL al tb=true:=by kernel_rfl
theorem TT:b0 tb Hx aiG 1 Tryz.f86=true:=by kernel_rfl
theorem Qd:al.funcs[(86:Nat)]? =some Tryz.f86:=Tryz.func86
theorem TU:b0 tb Hy K5 3 Tryz.f159=true:=by kernel_rfl
theorem Qe:al.funcs[(159:Nat)]? =some Tryz.f159:=Tryz.func159
theorem agr:b0 tb NA Uu 2 Tryz.f165=true:=by kernel_rfl
theorem ZV:al.funcs[(165:Nat)]? =some Tryz.f165:=Tryz.func165
theorem agw:b0 tb NG aiE 2 Tryz.f166=true:=by kernel_rfl
theorem Z0:al.funcs[(166:Nat)]? =some Tryz.f166:=Tryz.func166
theorem agM:b0 tb NW aiK 1 Tryz.f168=true:=by kernel_rfl
theorem aag:al.funcs[(168:Nat)]? =some Tryz.f168:=Tryz.func168
theorem TY:b0 tb HC UF 2 Tryz.f169=true:=by kernel_rfl
theorem Qi:al.funcs[(169:Nat)]? =some Tryz.f169:=Tryz.func169
theorem agO:b0 tb NY UH 1 Tryz.f205=true:=by kernel_rfl
theorem aai:al.funcs[(205:Nat)]? =some Tryz.f205:=Tryz.func205
theorem agW:b0 tb N6 CP 2 Tryz.f207=true:=by kernel_rfl
theorem aaq:al.funcs[(207:Nat)]? =some Tryz.f207:=Tryz.func207
theorem agT:b0 tb N3 K7 2 Tryz.f208=true:=by kernel_rfl
theorem aan:al.funcs[(208:Nat)]? =some Tryz.f208:=Tryz.func208
def Oh:C:=(aa [dh 2 dt] (aa [I 3 0,j7 4 dt [(0,1,(gr 1)),(1,1,(.t 3))],bM 4 2 4] .ret))
@[simp] def aiN:List bu:=[.cell 2 true 4]
def N4:C:=(aa [b7 0 (.mov (.c (.nilp)))] (aa [cU (.mkmap 1 (some 702)),cU (.mkmap 2 (some 703)),cU (.mkmap 3 (some 704)),cU (.mkmap 4 (some 705)),cU (.mkmap 5 (some 706)),cU (.mkmap 6 (some 707)),b7 7 (.build [.junk,.junk,.junk,.junk,.junk,.junk] [(0,1,(.t 1)),(1,1,(.t 2)),(2,1,(.t 3)),(3,1,(.t 4)),(4,1,(.t 5)),(5,1,(.t 6))]),cN 8 7,I 0 8] (.fz true 0 .ret)))
@[simp] def UM:List bu:=[.tmp 0]
def NS:C:=(aa [bS 4 0] (.seq (aa [I 8 0,fv 9 8,aF 10 0 1 9,aw 11 1 10,I 12 1,b7 13 (.mget .i (.int .i64 0) true (.t 11) (.t 12)),I 7 13,cH 14 0 7,cH 15 1 7,I 5 14,I 6 15] (aa [I 16 6,cx 17 16] (aS 17 (.region [I 18 0,fv 19 18,aF 20 0 1 19,aw 21 1 20,I 22 1,I 23 1,cU (.mput .i (.t 21) (.t 22) (.t 23))]) .skip))) (.seq (.block 0 (.loop (.seq (aa [I 24 0,fv 25 24,aF 26 0 1 25,aw 27 1 26,I 28 1,b7 29 (.mget .i (.int .i64 0) false (.t 27) (.t 28)),I 30 1,bh 31 .neq 29 30] (aS 31 .skip (.exit 0))) (.block 1 (.seq (.drawn true 55 [I 32 0,fv 33 32,aF 34 0 1 33,aw 35 1 34,I 36 1,I 37 0,fv 38 37,aF 39 0 1 38,aw 40 1 39,I 41 0,fv 42 41,aF 43 0 1 42,aw 44 1 43,I 45 1,b7 46 (.mget .i (.int .i64 0) false (.t 44) (.t 45)),b7 47 (.mget .i (.int .i64 0) false (.t 40) (.t 46)),cU (.mput .i (.t 35) (.t 36) (.t 47))]) (.region [I 48 0,fv 49 48,aF 50 0 1 49,aw 51 1 50,I 52 1,b7 53 (.mget .i (.int .i64 0) false (.t 51) (.t 52)),I 1 53])))))) (aa [I 54 1,I 4 54] .ret))))
@[simp] def UC:List bu:=[.tmp 4]
def NO:C:=(aa [cN 2 0,cN 3 1] (.fz false 2 (.region [a7 4 4 3,b7 5 (.mkf 245 [.t 2]),b4 6 134 4 5])))
@[simp] def Uz:List bu:=[]
def u2:C:=(aa [cN 4 1,cN 5 2,be 6 false] (.seq (.block 0 (aa [aF 12 0 1 4,aw 13 1 12,aT 14 .eql 13 1,I 15 14,aq 15 true (aF 16 0 1 5),aq 15 true (aw 17 1 16),aq 15 true (aT 18 .eql 17 1),dy 19 15 18,I 11 19] (aS 11 (aa [I 20 0,aF 21 1 1 4,aw 22 1 21,b4 23 216 20 22,I 7 23] (aa [I 24 0,aF 25 1 1 5,aw 26 1 25,b4 27 216 24 26,I 8 27] (.seq (aa [I 28 7,I 29 8,bh 30 .eql 28 29] (aS 30 (aa [be 6 true] .ret) .skip)) (.seq (aa [I 31 8,I 32 7,bh 33 .lss 31 32] (aS 33 (.region [I 34 8,I 35 7,I 7 34,I 8 35]) .skip)) (aa [I 36 0,fv 37 36,aF 38 0 1 37,aw 39 1 38,I 40 8,I 41 7,cU (.mput .i (.t 39) (.t 40) (.t 41))] (.seq (aa [I 42 0,fv 43 42,aF 44 2 1 43,aw 45 1 44,I 46 8,b7 47 (.mget .i (.bool false) false (.t 45) (.t 46)),cx 48 47] (aS 48 (aa [I 49 0,fv 50 49,aF 51 2 1 50,aw 52 1 51,I 53 7,b7 54 (.mget .i (.bool false) false (.t 52) (.t 53)),cx 55 54,I 56 55,bZ 56 false 57 0,bZ 56 false 58 0,aq 56 false (fv 59 58),aq 56 false (aF 60 1 1 59),aq 56 false (aw 61 1 60),bZ 56 false 62 7,wz 56 false 63 (.mget .i (.agg dt) false (.t 61) (.t 62)),bZ 56 false 64 7,ys 56 false (.mkmap 65 (some 715)),aq 56 false (dK 66 246 [.t 57,.t 63,.t 64,.t 65]),aq 56 false (cx 67 66),c2 68 56 67,I 6 68] .ret) .skip)) (aa [I 69 0,fv 70 69,aF 71 1 1 70,aw 72 1 71,I 73 8,b7 74 (.mget .i (.agg dt) false (.t 72) (.t 73)),dh 9 dt,bM 4 9 74] (.seq (aa [I 75 0,fv 76 75,aF 77 2 1 76,aw 78 1 77,I 79 7,b7 80 (.mget .i (.bool false) false (.t 78) (.t 79)),cx 81 80] (aS 81 (aa [I 82 0,I 83 7,a7 84 4 9,dK 85 247 [.t 82,.t 83,.t 84],I 6 85] .ret) .skip)) (.seq (.drawnW [715,716] 198 [I 86 0,a7 87 4 9,I 88 7,cU (.mkmap 89 (some 715)),dK 90 246 [.t 86,.t 87,.t 88,.t 89],cx 91 90,I 92 91,bZ 92 true 93 0,bZ 92 true 94 0,aq 92 true (fv 95 94),aq 92 true (aF 96 1 1 95),aq 92 true (aw 97 1 96),bZ 92 true 98 7,wz 92 true 99 (.mgetB .i (.agg dt) false (.t 97) (.t 98)),bZ 92 true 100 7,ys 92 true (.mkmap 101 (some 716)),aq 92 true (dK 102 246 [.t 93,.t 99,.t 100,.t 101]),aq 92 true (cx 103 102),dy 104 92 103,I 105 104,bZ 105 true 106 0,bZ 105 true 107 0,aq 105 true (fv 108 107),aq 105 true (aF 109 1 1 108),aq 105 true (aw 110 1 109),bZ 105 true 111 7,wz 105 true 112 (.mgetB .i (.agg dt) false (.t 110) (.t 111)),aq 105 true (a7 113 4 9),aq 105 true (dK 114 218 [.t 106,.t 112,.t 113]),dy 115 105 114,I 6 115]) .ret))))))))) (aa [aF 117 0 1 4,aw 118 1 117,aT 119 .eql 118 1,I 116 119] (aS 116 (aa [I 120 0,aF 121 1 1 4,aw 122 1 121,b4 123 216 120 122,I 10 123] (.seq (aa [I 124 0,fv 125 124,aF 126 2 1 125,aw 127 1 126,I 128 10,b7 129 (.mget .i (.bool false) false (.t 127) (.t 128)),cx 130 129] (aS 130 (aa [I 131 0,I 132 10,a7 133 4 5,dK 134 247 [.t 131,.t 132,.t 133],I 6 134] .ret) .skip)) (.seq (.drawn false 198 [I 135 0,I 136 0,fv 137 136,aF 138 1 1 137,aw 139 1 138,I 140 10,b7 141 (.mgetB .i (.agg dt) false (.t 139) (.t 140)),a7 142 4 5,dK 143 218 [.t 135,.t 141,.t 142],I 6 143]) .ret))) (aa [aF 145 0 1 5,aw 146 1 145,aT 147 .eql 146 1,I 144 147] (aS 144 (aa [I 148 0,a7 149 4 5,a7 150 4 4,dK 151 218 [.t 148,.t 149,.t 150],I 6 151] .ret) (aa [aF 153 0 1 4,aw 154 1 153,aF 155 0 1 5,aw 156 1 155,bh 157 .neq 154 156,I 158 157,aq 158 false (aF 159 1 1 4),aq 158 false (aw 160 1 159),aq 158 false (aF 161 1 1 5),aq 158 false (aw 162 1 161),aq 158 false (bh 163 .neq 160 162),c2 164 158 163,I 165 164,aq 165 false (aF 166 2 1 4),aq 165 false (aw 167 1 166),aq 165 false (aF 168 2 1 5),aq 165 false (aw 169 1 168),aq 165 false (bh 170 .neq 167 169),c2 171 165 170,I 152 171] (aS 152 (aa [be 6 false] .ret) (aa [aF 173 0 1 4,aw 174 1 173,aT 175 .eql 174 4,I 172 175] (aS 172 (.seq (.drawn false 198 [I 176 0,aF 177 3 1 4,aw 178 1 177,jG 179 4 178 0,a7 180 4 179,aF 181 3 1 5,aw 182 1 181,jG 183 4 182 0,a7 184 4 183,dK 185 218 [.t 176,.t 180,.t 184],I 186 185,bZ 186 true 187 0,aq 186 true (aF 188 3 1 4),aq 186 true (aw 189 1 188),aq 186 true (jG 190 4 189 1),aq 186 true (a7 191 4 190),aq 186 true (aF 192 3 1 5),aq 186 true (aw 193 1 192),aq 186 true (jG 194 4 193 1),aq 186 true (a7 195 4 194),aq 186 true (dK 196 218 [.t 187,.t 191,.t 195]),dy 197 186 196,I 6 197]) .ret) .skip))))))))))) (aa [be 6 true] .ret)))
@[simp] def nH:List bu:=[.tmp 6]
def NP:C:=(.region [aw 3 1 1,I 4 0,b4 5 216 3 4])
@[simp] def UA:List bu:=[]
def NQ:C:=(aa [cN 4 0,cN 5 1,cN 6 2,cN 7 3,be 8 false] (aa [cU (.alloc 9 (some 712) (.bool false)),cU (.store 1 (.t 9) (.c (.bool false)))] (.seq (.fz false 7 (.fz false 6 (.fz false 4 (.region [a7 10 4 5,b7 11 (.mkf 257 [.t 4,.t 9,.t 6,.t 7]),b4 12 134 10 11])))) (aa [aw 13 1 9,I 8 13] .ret))))
@[simp] def UB:List bu:=[.tmp 8]
def NN:C:=(aa [cN 5 2,be 6 false] (.seq (.drawn true 24 [I 7 0,fv 8 7,aF 9 1 1 8,aw 10 1 9,I 11 1,a7 12 4 5,cU (.mput .i (.t 10) (.t 11) (.t 12))]) (aa [I 13 0,fv 14 13,aF 15 2 1 14,aw 16 1 15,I 17 1,cU (.mput .i (.t 16) (.t 17) (.c (.bool true)))] (aa [I 18 0,a7 19 4 5,I 20 1,cU (.mkmap 21 (some 715)),dK 22 246 [.t 18,.t 19,.t 20,.t 21],cx 23 22,I 6 23] .ret))))
@[simp] def Uy:List bu:=[.tmp 6]
def yC:C:=(aa [cN 2 0,be 4 false] (.seq (.seq (.fz false 2 (.region [aw 6 1 2,fv 7 6,aF 8 3 1 7,aw 9 1 8,I 10 1,b7 11 (.mget .i (.int .i64 0) false (.t 9) (.t 10)),aT 12 .eql 11 2])) (aS 12 (aa [be 4 true] .ret) .skip)) (.seq (aa [aw 13 1 2,fv 14 13,aF 15 3 1 14,aw 16 1 15,I 17 1,b7 18 (.mget .i (.int .i64 0) false (.t 16) (.t 17)),aT 19 .eql 18 1] (aS 19 (aa [be 4 false] .ret) .skip)) (aa [aw 20 1 2,fv 21 20,aF 22 3 1 21,aw 23 1 22,I 24 1,cU (.mput .i (.t 23) (.t 24) (gr 1))] (aa [aw 25 1 2,fv 26 25,aF 27 4 1 26,aw 28 1 27,I 29 1,cU (.mput .i (.t 28) (.t 29) (gr 1))] (.seq (aa [aw 30 1 2,fv 31 30,aF 32 2 1 31,aw 33 1 32,I 34 1,b7 35 (.mget .i (.bool false) false (.t 33) (.t 34))] (aS 35 (aa [cU (.alloc 5 (some 712) (.bool false)),cU (.store 1 (.t 5) (.c (.bool true)))] (aa [aw 36 1 2,fv 37 36,aF 38 1 1 37,aw 39 1 38,I 40 1,b7 41 (.mget .i (.agg dt) false (.t 39) (.t 40)),b7 42 (.mkf 258 [.t 5,.t 2]),b4 43 134 41 42] (.seq (aa [aw 44 1 5,cx 45 44] (aS 45 (aa [be 4 false] .ret) .skip)) (.drawn false 64 [aw 46 1 2,fv 47 46,aF 48 4 1 47,aw 49 1 48,I 50 1,aw 51 1 2,fv 52 51,aF 53 1 1 52,aw 54 1 53,I 55 1,b7 56 (.mgetB .i (.agg dt) false (.t 54) (.t 55)),b7 57 (.mkf 259 [.t 2]),b4 58 192 56 57,cU (.mput .i (.t 49) (.t 50) (.t 58))])))) .skip)) (aa [aw 59 1 2,fv 60 59,aF 61 3 1 60,aw 62 1 61,I 63 1,cU (.mput .i (.t 62) (.t 63) (gr 2))] (aa [be 4 true] .ret))))))))
@[simp] def z7:List bu:=[.tmp 4]
def DR:C:=(aa [cN 2 0,dh 4 dt] (.seq (.seq (.fz false 2 (.region [aw 9 1 2,fv 10 9,aF 11 5 1 10,aw 12 1 11,I 13 1,b7 14 (.mget .i (.agg dt) true (.t 12) (.t 13)),I 8 14,cH 15 0 8,cH 16 1 8,dh 5 dt,bM 4 5 15,I 6 16])) (aa [I 17 6] (aS 17 (aa [a7 18 4 5,bM 4 4 18] .ret) .skip))) (aa [I 19 1,cM 20 116 19,dh 7 dt,bM 4 7 20] (.seq (aa [aw 21 1 2,fv 22 21,aF 23 2 1 22,aw 24 1 23,I 25 1,b7 26 (.mget .i (.bool false) false (.t 24) (.t 25))] (aS 26 (.region [aw 27 1 2,fv 28 27,aF 29 1 1 28,aw 30 1 29,I 31 1,b7 32 (.mget .i (.agg dt) false (.t 30) (.t 31)),b7 33 (.mkf 260 [.t 2]),b4 34 194 32 33,bM 4 7 34]) .skip)) (.seq (.drawn true 42 [aw 35 1 2,fv 36 35,aF 37 5 1 36,aw 38 1 37,I 39 1,a7 40 4 7,cU (.mput .i (.t 38) (.t 39) (.t 40))]) (aa [a7 41 4 7,bM 4 4 41] .ret))))))
@[simp] def F2:List bu:=[.cell 4 true 4]
def NR:C:=(aa [aw 7 1 1,I 8 0,b4 9 216 7 8,I 6 9] (.seq (aa [aw 10 1 2,I 11 10,bZ 11 false 12 6,aq 11 false (aw 13 1 3),aq 11 false (bh 14 .eql 12 13),c2 15 11 14] (aS 15 (aa [cU (.store 1 (.t 2) (.c (.bool true)))] .ret) .skip)) (aa [aw 16 1 4,I 17 6,b7 18 (.mget .i (.bool false) false (.t 16) (.t 17)),cx 19 18,I 20 19,aq 20 true (aw 21 1 1),aq 20 true (fv 22 21),aq 20 true (aF 23 2 1 22),aq 20 true (aw 24 1 23),bZ 20 true 25 6,aq 20 true (b7 26 (.mget .i (.bool false) false (.t 24) (.t 25))),dy 27 20 26] (aS 27 (aa [aw 28 1 4,I 29 6,cU (.mput .i (.t 28) (.t 29) (.c (.bool true)))] (.drawn false 40 [aw 30 1 1,aw 31 1 1,fv 32 31,aF 33 1 1 32,aw 34 1 33,I 35 6,b7 36 (.mgetB .i (.agg dt) false (.t 34) (.t 35)),aw 37 1 3,aw 38 1 4,dK 39 246 [.t 30,.t 36,.t 37,.t 38],bM 1 2 39])) .skip))))
@[simp] def z6:List bu:=[]
def HA:C:=(.seq (.drawn false 13 [b7 4 (.loadB false 1 (.t 1)),I 5 4,aq 5 true (aw 6 1 2),aq 5 true (aw 7 1 2),bZ 5 true 8 0,aq 5 true (b4 9 216 7 8),aq 5 true (b4 10 248 6 9),aq 5 true (cx 11 10),dy 12 5 11]) (aS 12 (.region [cU (.store 1 (.t 1) (.c (.bool false)))]) .skip))
@[simp] def F3:List bu:=[]
def NV:C:=(aa [bS 3 0] (.seq (.drawn false 12 [aw 4 1 1,fv 5 4,aF 6 4 1 5,aw 7 1 6,aw 8 1 1,I 9 0,b4 10 216 8 9,b7 11 (.mgetB .i (.int .i64 0) false (.t 7) (.t 10)),I 3 11]) .ret))
@[simp] def UE:List bu:=[.tmp 3]
def NU:C:=(aa [dh 3 dt,be 4 false] (.seq (.drawn false 10 [aw 5 1 1,aw 6 1 1,I 7 0,b4 8 216 6 7,b4 9 249 5 8,bM 4 3 9,be 4 true]) .ret))
@[simp] def UD:List bu:=[.cell 3 true 4,.tmp 4]
def oC:List (Nat×dA):=[
 (3,⟨1,8,.int .i64,.int .i64 0⟩),
 (4,⟨1,1,.bool,.bool false⟩),
 (9,⟨1,16,.str,.str []⟩),
 (27,⟨1,24,.slice 30,.slice 4 .nil []⟩),
 (30,⟨4,56,.struct [(0,3),(1,3),(2,9),(3,27)],.agg [.int .i64 0,.int .i64 0,.str [],.slice 4 .nil []]⟩),
 (136,⟨1,8,.map 3 4,.junk⟩),
 (194,⟨1,8,.other,.nilp⟩),
 (216,⟨1,8,.map 3 3,.junk⟩),
 (217,⟨1,8,.map 3 30,.junk⟩),
 (219,⟨6,48,.struct [(0,216),(1,217),(2,136),(3,216),(4,216),(5,217)],.agg [.junk,.junk,.junk,.junk,.junk,.junk]⟩)]
theorem jk:fL al oC=true:=by kernel_rfl
theorem ag6:b0 oC Oh aiN 1 Tryz.f116=true:=by kernel_rfl
theorem aaA:al.funcs[(116:Nat)]? =some Tryz.f116:=Tryz.func116
theorem agU:b0 oC N4 UM 0 Tryz.f215=true:=by kernel_rfl
theorem aao:al.funcs[(215:Nat)]? =some Tryz.f215:=Tryz.func215
theorem agI:b0 oC NS UC 2 Tryz.f216=true:=by kernel_rfl
theorem aac:al.funcs[(216:Nat)]? =some Tryz.f216:=Tryz.func216
theorem agE:b0 oC NO Uz 2 Tryz.f217=true:=by kernel_rfl
theorem Z8:al.funcs[(217:Nat)]? =some Tryz.f217:=Tryz.func217
theorem xS:b0 oC u2 nH 3 Tryz.f218=true:=by kernel_rfl
theorem wT:al.funcs[(218:Nat)]? =some Tryz.f218:=Tryz.func218
theorem agF:b0 oC NP UA 2 Tryz.f245=true:=by kernel_rfl
theorem Z9:al.funcs[(245:Nat)]? =some Tryz.f245:=Tryz.func245
theorem agG:b0 oC NQ UB 4 Tryz.f246=true:=by kernel_rfl
theorem aaa:al.funcs[(246:Nat)]? =some Tryz.f246:=Tryz.func246
theorem agD:b0 oC NN Uy 3 Tryz.f247=true:=by kernel_rfl
theorem Z7:al.funcs[(247:Nat)]? =some Tryz.f247:=Tryz.func247
theorem CA:b0 oC yC z7 2 Tryz.f248=true:=by kernel_rfl
theorem A9:al.funcs[(248:Nat)]? =some Tryz.f248:=Tryz.func248
theorem KG:b0 oC DR F2 2 Tryz.f249=true:=by kernel_rfl
theorem Ij:al.funcs[(249:Nat)]? =some Tryz.f249:=Tryz.func249
theorem agH:b0 oC NR z6 5 Tryz.f257=true:=by kernel_rfl
theorem aab:al.funcs[(257:Nat)]? =some Tryz.f257:=Tryz.func257
theorem TW:b0 oC HA F3 3 Tryz.f258=true:=by kernel_rfl
theorem Qg:al.funcs[(258:Nat)]? =some Tryz.f258:=Tryz.func258
theorem agL:b0 oC NV UE 2 Tryz.f259=true:=by kernel_rfl
theorem aaf:al.funcs[(259:Nat)]? =some Tryz.f259:=Tryz.func259
theorem agK:b0 oC NU UD 2 Tryz.f260=true:=by kernel_rfl
theorem aae:al.funcs[(260:Nat)]? =some Tryz.f260:=Tryz.func260
end Go.Proofs.YtahlgcidhnjlbaaGreat
namespace Go.Proofs.YtahlgcidhnjlbaaGreat
open Go Go.Pv
section
variable {α:Type} (S:α→cK) (dB:∀a,ed (S a)) (eZ:∀a b,Same (S a) (S b)) (g:Nat) (dj:List ah) (au:∀a,aI (inObs (S a)) dj) (da:cZ dj=dj)
include dB eZ au da in
theorem QK(gU:α→Prop)(f:Int→α→aY α)(aJ:∀v a bn,gU a→f v a=some bn→gU bn∧bN al g (.int .i64 v::dj) (S a) fun r ai=>r= .tuple []∧ai=S bn)(t:T):
  ∀a bn,gU a→t.foldO f a=some bn→gU bn∧bN al 134 [t.e,.func g dj] (S a) fun r ai=>r= .tuple []∧ai=S bn:=by
 have aA:∀a m,Pv.look (.loc m) (S a).b=none:=fun a=>(dB a).obj.1;have hu:∀a m cs,cA (.loc m) cs (S a).b=(S a).b++[(.loc m,cs)]:=fun a m cs=>jT (aA a m);have ax:∀a m,aH.loc m∉cV (S a):=fun a=>jO (dB a).obj;induction t with
 |pair x y nC pJ=>intro a bn hi he;have ag:=dB a;simp only[T.foldO,mC]at he;obtain⟨bC,J,U⟩:=he;obtain⟨i1,g1⟩:=nC a bC hi J;obtain⟨i2,g2⟩:=pJ bC bn i1 U;refine⟨i2,?_⟩;refine bN.mk mixed fH yN zR (by simp) ag.obj fun aQ cL=>?_;unfold wO;simp[hu,ax,cJ,aA,da];(with_reducible repeat' first|refine aj ?_|simp[hu,ax,cJ,aA]);refine c6.ob g1 ag aR aR (by simp[au]) ?_;rintro r ai ⟨rfl,rfl⟩;refine⟨eZ _ _,?_⟩;simp[gR,im,cz,aA];(with_reducible repeat' first|refine aj ?_|simp[hu,ax,cJ,aA]);rw[da];refine c6.ob g2 (dB bC) aR aR (by simp[au]) ?_;rintro r ai ⟨rfl,rfl⟩;refine⟨eZ _ _,?_⟩;simp[gR,im,cz,aA];refine cT.at (S bn) (.inr rfl) (dB _) (eZ _ _) aR aR ?_;simp[cY,xZ,aW,aX,aV]
 |var n=>intro a bn hi he;have ag:=dB a;simp only[T.foldO]at he;obtain⟨i1,g1⟩:=aJ n a bn hi he;refine⟨i1,?_⟩;refine bN.mk mixed fH yN zR (by simp) ag.obj fun aQ cL=>?_;unfold wO;simp[hu,ax,cJ,aA,da];(with_reducible repeat' first|refine aj ?_|simp[hu,ax,cJ,aA]);refine c6.ob g1 ag aR aR (by simp[au]) ?_;rintro r ai ⟨rfl,rfl⟩;refine⟨eZ _ _,?_⟩;simp[gR,im,cz,aA,cJ];refine cT.at (S bn) (.inr rfl) (dB _) (eZ _ _) aR aR ?_;simp[cY,xZ,aW,aX,aV]
 |_=>intro a bn hi he;have ag:=dB a;simp only[T.foldO,dG]at he;subst he;refine⟨hi,?_⟩;refine bN.mk mixed fH yN zR (by simp) ag.obj fun aQ cL=>?_;unfold wO;simp[hu,ax,cJ,aA,da];(with_reducible repeat' first|refine aj ?_|simp[hu,ax,cJ,aA]);refine cT.at (S a) (.inr rfl) ag (Same.refl _) aR aR ?_;simp[cY,xZ,aW,aX,aV]
include dB eZ au da in
theorem IF(f:Int→α→aY α)(aJ:∀v a bn,f v a=some bn→bN al g (.int .i64 v::dj) (S a) fun r ai=>r= .tuple []∧ai=S bn)(t:T)(a bn:α)(h:t.foldO f a=some bn):bN al 134 [t.e,.func g dj] (S a) fun r ai=>r= .tuple []∧ai=S bn:=(QK S dB eZ g dj au da (fun _=>True) f (fun v a bn _ h=>⟨trivial,aJ v a bn h⟩) t a bn trivial h).2
include dB eZ au da in
theorem ack(f:Int→α→aY (T×α))(aJ:∀v a p,f v a=some p→bN al g (.int .i64 v::dj) (S a) fun r ai=>r= .tuple [p.1.e,.bool true]∧ai=S p.2)(t:T):
  ∀a p,t.mapO f a=some p→bN al 194 [t.e,.func g dj] (S a) fun r ai=>r=p.1.e∧ai=S p.2:=by
 have aA:∀a m,Pv.look (.loc m) (S a).b=none:=fun a=>(dB a).obj.1;have cF:∀a m,Pv.look (.loc m) (S a).e=none:=fun a=>(dB a).obj.2;have hu:∀a m cs,cA (.loc m) cs (S a).b=(S a).b++[(.loc m,cs)]:=fun a m cs=>jT (aA a m);have ax:∀a m,aH.loc m∉cV (S a):=fun a=>jO (dB a).obj;have lu:∀a m p r,cA (.loc m) p ((S a).b++r)=(S a).b++cA (.loc m) p r:=fun a m p r=>AB (aA a m);induction t with
 |pair x y nC pJ=>intro a p he;have ag:=dB a;simp only[T.mapO,mC,gJ]at he;obtain⟨cO,J,dp,U,rfl⟩:=he;refine bN.mk mixed fH yO zS (by simp) ag.obj fun aQ cL=>?_;unfold wP;simp[hu,ax,cJ,aA,cF,da,lu];(with_reducible repeat' first|refine aj ?_|simp[hu,ax,cJ,aA,cF,lu]);refine hZ.ob (nC a cO J) ag (dB cO.2) (eZ _ _) aR aR (by simp[au]) ?_;simp[gR,im,cz,aA,da];(with_reducible repeat' first|refine aj ?_|simp[hu,ax,cJ,aA,cF,lu]);refine hZ.ob (pJ cO.2 dp U) (dB cO.2) (dB dp.2) (eZ _ _) aR aR (by simp[au,da]) ?_;simp[gR,im,cz,aA,da];(with_reducible repeat' first|refine aj ?_|refine aD (GV _ _) ?_|refine aE (GV _ _) ?_|simp[cJ,aA,lu]);refine cT.at (S dp.2) (.inl rfl) (dB _) (eZ _ _) aR aR ?_;simp[cY,x0,aW,aX,aV,cJ,aA]
 |var n=>
  intro a p he;have ag:=dB a;simp only[T.mapO]at he;refine bN.mk mixed fH yO zS (by simp) ag.obj fun aQ cL=>?_;unfold wP;simp[hu,ax,cJ,aA,da,lu];(with_reducible repeat' first|refine aj ?_|simp[hu,ax,cJ,aA,lu]);refine c6.ob (aJ n a p he) ag aR aR (by simp[au]) ?_;rintro r ai ⟨rfl,rfl⟩;refine⟨eZ _ _,?_⟩;simp[gR,im,cz,aA,hu,ax,cJ];(with_reducible repeat' first|refine aj ?_|refine aD (te _) ?_|refine aE (te _) ?_|simp[hu,ax,cJ,aA,lu]);all_goals refine cT.at (S p.2) (.inl rfl) (dB _) (eZ _ _) aR aR ?_
  all_goals simp[cY,x0,aW,aX,aV,cJ,aA]
 |_=>intro a p he;have ag:=dB a;simp only[T.mapO,dG]at he;subst he;refine bN.mk mixed fH yO zS (by simp) ag.obj fun aQ cL=>?_;unfold wP;simp[hu,ax,cJ,aA,da,lu];(with_reducible repeat' first|refine aj ?_|simp[hu,ax,cJ,aA,lu]);refine cT.at (S a) (.inl rfl) ag (Same.refl _) aR aR ?_;simp[cY,x0,aW,aX,aV,cJ,aA]
include dB eZ au da in
theorem acz(gU:α→Prop)(f:Int→α→aY (Int×α))(Bz:∀v a p,gU a→f v a=some p→gU p.2∧0≤p.1∧p.1≤1000000)(aJ:∀v a p,gU a→f v a=some p→bN al g (.int .i64 v::dj) (S a) fun r ai=>r= .int .i64 p.1∧ai=S p.2)(t:T):
  ∀a p,gU a→t.sizeO f a=some p→gU p.2∧(0≤p.1∧p.1≤5001)∧bN al 192 [t.e,.func g dj] (S a) fun r ai=>r= .int .i64 p.1∧ai=S p.2:=by
 have aA:∀a m,Pv.look (.loc m) (S a).b=none:=fun a=>(dB a).obj.1;have hu:∀a m cs,cA (.loc m) cs (S a).b=(S a).b++[(.loc m,cs)]:=fun a m cs=>jT (aA a m);have ax:∀a m,aH.loc m∉cV (S a):=fun a=>jO (dB a).obj;induction t with
 |pair x y nC pJ=>
  intro a p hi he;have ag:=dB a;simp only[T.sizeO,mC]at he;obtain⟨cO,J,U⟩:=he;obtain⟨i1,ch,g1⟩:=nC a cO hi J;by_cases EC:5000<cO.1
  ·rw[if_pos EC]at U;cases U;refine⟨i1,ch,?_⟩;refine bN.mk mixed fH wU xT (by simp) ag.obj fun aQ cL=>?_;unfold u3;simp[hu,ax,cJ,aA,da];(with_reducible repeat' first|refine aj ?_|simp[hu,ax,cJ,aA]);refine c6.ob g1 ag aR aR (by simp[au]) ?_;rintro r ai ⟨rfl,rfl⟩;refine⟨eZ _ _,?_⟩;simp[gR,im,cz,aA];((with_reducible repeat' first|((first|apply bL|apply bQ|apply bP)<;>intro h<;>try simp at h)|refine aj ?_|simp[hu,ax,cJ,aA])<;>(try contradiction));all_goals first|omega|(refine cT.at (S p.2) (.inl rfl) (dB _) (eZ _ _) aR aR ?_;simp[cY,uD,aW,aX,aV])
  ·rw[if_neg EC,gJ]at U;obtain⟨dp,U,rfl⟩:=U;obtain⟨i2,b6,g2⟩:=pJ cO.2 dp i1 U;refine⟨i2,by simp only;split<;>omega,?_⟩;refine bN.mk mixed fH wU xT (by simp) ag.obj fun aQ cL=>?_;unfold u3;simp[hu,ax,cJ,aA,da];(with_reducible repeat' first|((first|apply bL|apply bQ|apply bP)<;>intro h<;>try simp at h)|refine aj ?_|simp[hu,ax,cJ,aA]);refine c6.ob g1 ag aR aR (by simp[au]) ?_;rintro r ai ⟨rfl,rfl⟩;refine⟨eZ _ _,?_⟩;simp[gR,im,cz,aA];((with_reducible repeat' first|refine aj ?_|simp[hu,ax,cJ,aA]|((first|apply bL|apply bQ|apply bP)<;>intro h<;>try simp at h))<;>(try exact cq));all_goals first|omega|skip
   rw[da];refine c6.ob g2 (dB cO.2) aR aR (by simp[au]) ?_;rintro r s2 ⟨rfl,rfl⟩;refine⟨eZ _ _,?_⟩;simp[gR,im,cz,aA];(with_reducible repeat' first|refine aj ?_|simp[hu,ax,cJ,aA]);refine cT.at (S dp.2) (.inl rfl) (dB _) (eZ _ _) aR aR ?_;simp[cY,uD,aW,aX,aV]
 |var n=>intro a p hi he;have ag:=dB a;simp only[T.sizeO,gJ]at he;obtain⟨cO,J,rfl⟩:=he;have ad:=Bz n a cO hi J;refine⟨ad.1,by simp only;split<;>omega,?_⟩;refine bN.mk mixed fH wU xT (by simp) ag.obj fun aQ cL=>?_;unfold u3;simp[hu,ax,cJ,aA,da];(with_reducible repeat' first|refine aj ?_|simp[hu,ax,cJ,aA]);refine c6.ob (aJ n a cO hi J) ag aR aR (by simp[au]) ?_;rintro r ai ⟨rfl,rfl⟩;refine⟨eZ _ _,?_⟩;simp[gR,im,cz,aA];refine cT.at (S cO.2) (.inl rfl) (dB _) (eZ _ _) aR aR ?_;simp[cY,uD,aW,aX,aV]
 |_=>intro a p hi he;have ag:=dB a;simp only[T.sizeO,dG]at he;subst he;refine⟨hi,by simp,?_⟩;refine bN.mk mixed fH wU xT (by simp) ag.obj fun aQ cL=>?_;unfold u3;simp[hu,ax,cJ,aA,da];(with_reducible repeat' first|refine aj ?_|simp[hu,ax,cJ,aA]);refine cT.at (S a) (.inl rfl) ag (Same.refl _) aR aR ?_;simp[cY,uD,aW,aX,aV]
end
end Go.Proofs.YtahlgcidhnjlbaaGreat
namespace Go.Pv
open Go Go.RowKit
section
variable {P:cD} {ob:List aH} {st:bq} {Q:Exit→bq→Prop} {c:C} {α:Type}
theorem dI(cd:List Nat)(cs:Nat→α→List (Nat×ah))(n:Nat)(gK:Nat→α→Prop)(a0:α)(hw:ix ob st (o7 st cd (cs 0 a0)))(bA:gK 0 a0)(vk:∀a,gK n a→(∀i,dZ (get i (o7 st cd (cs n a)).t))→cW P ob c (bO ob (yr (fun i a=>o7 st cd (cs i a)) n gK) 0 Q) (o7 st cd (cs n a)))
  (jz:∀i a,i<n→gK i a→(∀j,dZ (get j (o7 st cd (cs i a)).t))→cW P ob c (bO ob (yr (fun i a=>o7 st cd (cs i a)) n gK) (n-i) Q) (o7 st cd (cs i a))):cW P ob (.loop c) Q st:=
 iA (fun i a=>o7 st cd (cs i a)) n gK a0 hw bA vk jz
theorem u9(cd:List Nat)(cs:α→List (Nat×ah))(mz:α→Nat)(gK:α→Prop)(a0:α)(hw:ix ob st (o7 st cd (cs a0)))(bA:gK a0)
  (jz:∀a,gK a→(∀j,dZ (get j (o7 st cd (cs a)).t))→cW P ob c (bO ob (AK (fun a=>o7 st cd (cs a)) mz gK) (mz a) Q) (o7 st cd (cs a))):cW P ob (.loop c) Q st:=
 n1 (fun a=>o7 st cd (cs a)) mz gK a0 hw bA jz
end
attribute [simp] af4
end Go.Pv
namespace Go.Proofs.YtahlgcidhnjlbaaGreat
open Go Go.Pv
theorem Kc{α β:Type}(k:aH):∀{l:List (aH×α)} {aZ:List (aH×β)},l.map (·.1)=aZ.map (·.1)→(Pv.look k l).isSome=(Pv.look k aZ).isSome
 |[],[],_=>rfl
 |[],_::_,h=>by simp at h
 |_::_,[],h=>by simp at h
 |(i,x)::r,(j,y)::eC,h=>by
  simp only[hf,p4]at h;simp only[Pv.look];obtain⟨rfl,h⟩:=h;split
  ·rfl
  ·exact Kc k h
theorem _root_.Go.Pv.Same.keys{s ai:cK}(ad:s.b.map (·.1)=ai.b.map (·.1))(he:s.e.map (·.1)=ai.e.map (·.1)):Same s ai:=⟨fun k=>Kc k ad,fun k=>Kc k he⟩
section
variable {α:Type} (e:α→ah)
def rC(l:List (Int×α)):List ah:=jC (l.map fun x=>(x.1,e x.2))
theorem M5(k:Int):∀l:List (Int×α),wK k (l.map fun x=>(x.1,e x.2))=(c3 k l).map e
 |[]=>rfl
 |(i,v)::r=>by
  simp only[hf,wK,c3];split
  ·rfl
  ·exact M5 k r
theorem Nc(k:Int)(v:α):∀l:List (Int×α),oM k (e v) (l.map fun x=>(x.1,e x.2))=if(c3 k l).isSome then some ((eJ k v l).map fun x=>(x.1,e x.2))else none
 |[]=>rfl
 |(i,w)::r=>by
  simp only[hf,oM,c3,eJ];by_cases h:k=i
  ·subst h;simp
  ·simp only[h,if_false,Nc k v r];cases (c3 k r).isSome<;>simp
theorem We{k:Int}{v:α}:∀{l:List (Int×α)},c3 k l=none→eJ k v l=l++[(k,v)]
 |[],_=>rfl
 |(i,w)::r,h=>by
  simp only[c3]at h;split at h
  ·cases h
  ·rename_i cF;simp[eJ,cF,We h]
theorem Kw(k:Int)(v:α)(l:List (Int×α)):oq .i (.int .i64 k) (e v) (rC e l)=some (rC e (eJ k v l)):=by
 simp only[rC,TK,DK,Nc];cases h:c3 k l with
 |some w=>simp
 |none=>simp[We h]
theorem Kr(f:aH→aY (List ah))(m:aH)(l:List (Int×α))(z:ah)(ok:Bool)(k:Int)(hm:f m=some (rC e l)):nF f .i z ok (.gmap m) (.int .i64 k)=some (True,if ok then .tuple [((c3 k l).map e).getD z,.bool (c3 k l).isSome]else((c3 k l).map e).getD z):=by rw[afP f m _ z ok k hm,M5];cases c3 k l<;>rfl
@[simp] theorem apM(l:List (Int×α)):hP (rC e l)=false:=rfl
theorem J0(S:aH→Prop)(he:∀x,aB S (e x))(l:List (Int×α)):aI S (rC e l):=by
 have:∀l:List (Int×α),aI S (kf (l.map fun x=>(x.1,e x.2))):=by
  intro l;induction l with
  |nil=>simp[kf,aI]
  |cons x r bU=>simp[kf,aI,bU,he]
 simp[rC,jC,aI,this,aB]
end
def mX:List (Int×Int)→List ah:=rC (ah.int .i64)
def pR:List (Int×Bool)→List ah:=rC ah.bool
def sQ:List (Int×T)→List ah:=rC T.e
@[simp] theorem apJ(l):hP (mX l)=false:=rfl
@[simp] theorem apH(l):hP (pR l)=false:=rfl
@[simp] theorem apL(l):hP (sQ l)=false:=rfl
@[simp] theorem aou(S:aH→Prop)(l):aI S (mX l)=True:=eq_true (J0 _ S (fun _=>by simp) l)
@[simp] theorem aot(S:aH→Prop)(l):aI S (pR l)=True:=eq_true (J0 _ S (fun _=>by simp) l)
@[simp] theorem aov(S:aH→Prop)(l):aI S (sQ l)=True:=eq_true (J0 _ S (fun _=>by simp) l)
@[simp] theorem apx(k v:Int)(l):oq .i (.int .i64 k) (.int .i64 v) (mX l)=some (mX (eJ k v l)):=Kw _ k v l
@[simp] theorem apw(k:Int)(v:Bool)(l):oq .i (.int .i64 k) (.bool v) (pR l)=some (pR (eJ k v l)):=Kw _ k v l
@[simp] theorem apz(k:Int)(v:T)(l):oq .i (.int .i64 k) v.e (sQ l)=some (sQ (eJ k v l)):=Kw _ k v l
def Cr(cd:jo)(z:ah)(ok:Bool)(o:aY (List ah))(k:ah):aY (Prop×ah):=nF (fun _=>o) cd z ok (.gmap (.loc 0)) k
@[simp] theorem apt(f:aH→aY (List ah))(cd:jo)(z:ah)(ok:Bool)(m:aH)(k:ah):nF f cd z ok (.gmap m) k=Cr cd z ok (f m) k:=by simp only[Cr,TB]
theorem afR(f:aH→aY (List ah))(m:aH)(l:List (Int×Int))(ok:Bool)(k:Int)(hm:f m=some (mX l)):nF f .i (.int .i64 0) ok (.gmap m) (.int .i64 k)=some (True,if ok then .tuple [.int .i64 (iM l k),.bool (c3 k l).isSome]else .int .i64 (iM l k)):=by rw[Kr _ f m l _ ok k hm];unfold iM;cases c3 k l<;>rfl
theorem afQ(f:aH→aY (List ah))(m:aH)(l:List (Int×Bool))(ok:Bool)(k:Int)(hm:f m=some (pR l)):nF f .i (.bool false) ok (.gmap m) (.int .i64 k)=some (True,if ok then .tuple [.bool ((c3 k l).getD false),.bool (c3 k l).isSome]else .bool ((c3 k l).getD false)):=by rw[Kr _ f m l _ ok k hm];cases c3 k l<;>rfl
def L9:ah:= .agg [.int .i64 0,.int .i64 0,.str [],.slice 4 .nil []]
def s7(o:aY T):ah:=(o.map T.e).getD L9
theorem afS(f:aH→aY (List ah))(m:aH)(l:List (Int×T))(ok:Bool)(k:Int)(hm:f m=some (sQ l)):nF f .i (.agg [.int .i64 0,.int .i64 0,.str [],.slice 4 .nil []]) ok (.gmap m) (.int .i64 k)=some (True,if ok then .tuple [s7 (c3 k l),.bool (c3 k l).isSome]else s7 (c3 k l)):=by rw[Kr _ f m l _ ok k hm];rfl
@[simp] theorem apr(l:List (Int×Int))(ok:Bool)(k:Int):Cr .i (.int .i64 0) ok (some (mX l)) (.int .i64 k)=some (True,if ok then .tuple [.int .i64 (iM l k),.bool (c3 k l).isSome]else .int .i64 (iM l k)):=afR _ _ l ok k rfl
@[simp] theorem apq(l:List (Int×Bool))(ok:Bool)(k:Int):Cr .i (.bool false) ok (some (pR l)) (.int .i64 k)=some (True,if ok then .tuple [.bool ((c3 k l).getD false),.bool (c3 k l).isSome]else .bool ((c3 k l).getD false)):=afQ _ _ l ok k rfl
@[simp] theorem aps(l:List (Int×T))(ok:Bool)(k:Int):Cr .i (.agg [.int .i64 0,.int .i64 0,.str [],.slice 4 .nil []]) ok (some (sQ l)) (.int .i64 k)=some (True,if ok then .tuple [s7 (c3 k l),.bool (c3 k l).isSome]else s7 (c3 k l)):=afS _ _ l ok k rfl
@[simp] theorem arz(o:aY T):dq (s7 o)=(o.getD .nil).e:=by cases o<;>simp[s7,L9,dq,cZ]
@[simp] theorem ao4(S:aH→Prop)(o:aY T):aB S (s7 o)=True:=by cases o<;>simp[s7,L9,aB,aI]
@[simp] theorem ape:[ah.hdm 0 []]=jC []:=rfl
def az:ah:= .eptr (.agg [.gmap (.obj 702),.gmap (.obj 703),.gmap (.obj 704),.gmap (.obj 705),.gmap (.obj 706),.gmap (.obj 707)])
def ay(c:bs):List (aH×List ah):=[(.obj 702,mX c.up),(.obj 703,sQ c.shape),(.obj 704,pR c.shaped),(.obj 705,mX c.color),(.obj 706,mX c.size),(.obj 707,sQ c.full)]
def aM(c:bs):cK:=⟨ay c,[]⟩
theorem cg(c:bs):ed (aM c):=by unfold aM ay;exact ed.of ⟨by intro m;simp[Pv.look],by intro m;simp[Pv.look]⟩ (by simp) (by simp)
theorem DD(c cr:bs):Same (aM c) (aM cr):=by
 refine⟨fun k=>?_,fun k=>rfl⟩;simp only[aM,ay,Pv.look];repeat' split
 all_goals rfl
theorem q3(c:bs)(v r:Int)(cr:bs)(he:rt c v=some (r,cr)):bN al 216 [az,.int .i64 v] (aM c) fun eC ai=>eC= .int .i64 r∧ai=aM cr:=by
 have ag:=cg c;have gb:=cg cr;have eZ:=DD c cr;simp only[rt,gJ,jm]at he;obtain⟨⟨dH,m1⟩,he,rfl,rfl⟩:=he;unfold aM ay at ag gb eZ⊢;simp only at gb eZ⊢;unfold az;refine bN.mk mixed jk aac agI (by simp) ag.obj fun aQ cL=>?_;unfold NS;simp;(with_reducible repeat' first|((first|apply bL|apply bQ|apply bP)<;>intro h<;>try simp at h)|refine aj ?_|simp);all_goals
  refine n1 (α:=Nat×Int×List (Int×Int)) (fun a=>⟨[(0,az),(1,.int .i64 a.2.1)],[(.obj 702,mX a.2.2),(.obj 703,sQ c.shape),(.obj 704,pR c.shaped),(.obj 705,mX c.color),(.obj 706,mX c.size),(.obj 707,sQ c.full)],[],0,[.obj 702,.obj 703,.obj 704,.obj 705,.obj 706,.obj 707]⟩) (fun a=>a.1) (fun a=>we a.1 a.2.2 a.2.1=some (dH,m1)) (v.toNat+1,v,yw v c.up) (by simp[yw,h,az];exact⟨by simp[fresh,aI,aB,cn,inObs,Pv.look,az],er (by simp[fresh,aI,aB,cn,inObs,Pv.look,az]),et (by simp[fresh,aI,aB,dW,inObs,Pv.look,az]),by simp⟩) he ?_
  rintro⟨n,u,m⟩ af ad
  simp only at af ad⊢
  cases n with
  |zero=>simp[we]at af
  |succ n=>
   simp only[we]at af
   simp[az]
   (with_reducible repeat' first|((first|apply bL|apply bQ|apply bP)<;>intro h<;>try simp at h)|refine aj ?_|simp)
   ·rw[if_neg h]at af
    refine bO.whl (n,iM (eJ u (iM m (iM m u)) m) u,eJ u (iM m (iM m u)) m) (Nat.lt_succ_self n) af ?_
    simp[az]
    exact⟨by simp[fresh,aI,aB,cn,inObs,Pv.look,az],er (by simp[fresh,aI,aB,cn,inObs,Pv.look,az]),et (by simp[fresh,aI,aB,dW,inObs,Pv.look,az]),by simp⟩
   ·rw[if_pos h]at af
    cases af
    refine cT.at _ (.inl rfl) gb eZ aR aR ?_
    simp[cY,UC,aW,aX,aV]
end Go.Proofs.YtahlgcidhnjlbaaGreat
namespace Go.Proofs.YtahlgcidhnjlbaaGreat
open Go Go.Pv
theorem acm(c:bs)(v r:Int)(cr:bs)(he:rt c v=some (r,cr)):bN al 245 [.int .i64 v,.eptr az] (aM c) fun eC ai=>eC= .tuple []∧ai=aM cr:=by have ag:=cg c;simp only[aM,ay]at ag⊢;refine bN.mk mixed jk Z9 agF (by simp) ag.obj fun aQ cL=>?_;unfold NP;simp[az];(refine c6.ob (q3 c v r cr he) (by first|exact cg _|exact cg ‹_› _) (by simp only[aM,ay,az,bV,bY];exact aR) (by simp only[aM,ay,az,bV,bY];exact aR) (by simp[inObs,Pv.look,aM,ay,az]) ?_;rintro r ai ⟨rfl,rfl⟩;refine⟨(Same.keys (by simp[aM,ay,az]) (by simp[aM,ay,az])),?_⟩;simp[cz,aM,ay,az]);(refine cT.at (aM cr) (by simp) (by first|exact cg _|exact cg ‹_› _) (Same.keys (by simp[aM,ay,az]) (by simp[aM,ay,az])) (by simp only[aM,ay,az,bV,bY];exact aR) (by simp only[aM,ay,az,bV,bY];exact aR) ?_;simp[cY,UA,aW,aX,aV,inObs,Pv.look,aM,ay,az])
theorem IJ(c:bs)(t:T)(cr:bs)(he:zG t c=some cr):bN al 217 [az,t.e] (aM c) fun eC ai=>eC= .tuple []∧ai=aM cr:=by
 have ag:=cg c;have key:=IF aM cg DD 245 [.eptr az] (fun a=>by simp[aM,ay,az,inObs,Pv.look]) rfl (fun(v:Int) (c:bs)=>(rt c v).map Prod.snd) (fun v a bn h=>by rw[gJ]at h;obtain⟨⟨r,bH⟩,J,rfl⟩:=h;exact acm a v r bH J) t c cr he
 simp only[aM,ay]at ag⊢;refine bN.mk mixed jk Z8 agE (by simp) ag.obj fun aQ cL=>?_;unfold NO;simp[az];(refine c6.ob (key) (by first|exact cg _|exact cg ‹_› _) (by simp only[aM,ay,az,bV,bY];exact aR) (by simp only[aM,ay,az,bV,bY];exact aR) (by simp[inObs,Pv.look,aM,ay,az]) ?_;rintro r ai ⟨rfl,rfl⟩;refine⟨(Same.keys (by simp[aM,ay,az]) (by simp[aM,ay,az])),?_⟩;simp[cz,aM,ay,az]);(refine cT.at (aM cr) (by simp) (by first|exact cg _|exact cg ‹_› _) (Same.keys (by simp[aM,ay,az]) (by simp[aM,ay,az])) (by simp only[aM,ay,az,bV,bY];exact aR) (by simp only[aM,ay,az,bV,bY];exact aR) ?_;simp[cY,Uz,aW,aX,aV,inObs,Pv.look,aM,ay,az])
def ey(K:Nat)(a:bs×List (Int×Bool)):cK:=⟨ay a.1++[(.obj K,pR a.2)],[]⟩
def fS(K:Nat)(a:tp):cK:=⟨ay a.c++[(.obj K,pR a.seen),(.obj 712,[.bool a.found])],[]⟩
def xQ(K:Nat):Prop:=K=715∨K=716
theorem h1{K:Nat}(c1:xQ K)(a):ed (ey K a):=by unfold ey ay;rcases c1 with rfl|rfl;all_goals exact ed.of ⟨by intro m;simp[Pv.look],by intro m;simp[Pv.look]⟩ (by simp) (by simp)
theorem pq{K:Nat}(c1:xQ K)(a):ed (fS K a):=by unfold fS ay;rcases c1 with rfl|rfl;all_goals exact ed.of ⟨by intro m;simp[Pv.look],by intro m;simp[Pv.look]⟩ (by simp) (by simp)
theorem G5{K:Nat}(a b):Same (fS K a) (fS K b):=by
 refine⟨fun k=>?_,fun k=>rfl⟩;simp only[fS,ay,bV,bY,Pv.look];repeat' split
 all_goals rfl
theorem acs{K:Nat}(c1:xQ K)(n:Nat)(x:Int)(vt:∀t c seen a,pa n x t c seen=some a→bN al 246 [az,t.e,.int .i64 x,.gmap (.obj K)] (ey K (c,seen)) fun r ai=>r= .bool a.found∧ai=ey K (a.c,a.seen))
  (v:Int) (a bn:tp) (he:wc (pa n x) x v a=some bn):bN al 257 [.int .i64 v,.eptr az,.ptr (.obj 712) 0,.eptr (.int .i64 x),.eptr (.gmap (.obj K))] (fS K a) fun r ai=>r= .tuple []∧ai=fS K bn:=by
 have ag:=pq c1 a;simp only[wc,mC]at he;obtain⟨⟨r,bH⟩,J,U⟩:=he;simp only at U;have ab:=c1;rcases ab with rfl|rfl;all_goals
  simp only[fS,ay,bV,bY]at ag⊢
  refine bN.mk mixed jk aab agH (by simp) ag.obj fun aQ cL=>?_;unfold NR
  simp[az]
  (refine c6.ob (q3 a.c v r bH J) (by first|exact cg _|exact cg ‹_› _) (by simp only[aM,ay,az,bV,bY];exact aR) (by simp only[aM,ay,az,bV,bY];exact aR) (by simp[inObs,Pv.look,aM,ay,az]) ?_;rintro r ai ⟨rfl,rfl⟩;refine⟨(Same.keys (by simp[aM,ay,az]) (by simp[aM,ay,az])),?_⟩;simp[cz,aM,ay,az])
  obtain⟨ac,Aq,Hk⟩:=a
  cases Hk with
  |true=>
   simp at U;subst U
   (with_reducible repeat' first|refine aj ?_|simp)
   (refine cT.at (fS _ ⟨bH,Aq,true⟩) (by simp) (by first|exact pq _|exact pq ‹_› _) (Same.keys (by simp[fS,ay,az]) (by simp[fS,ay,az])) (by simp only[fS,ay,az,bV,bY];exact aR) (by simp only[fS,ay,az,bV,bY];exact aR) ?_;simp[cY,z6,aW,aX,aV,inObs,Pv.look,fS,ay,az])
  |false=>
   by_cases ae:r=x
   ·simp[ae]at U;subst U
    (with_reducible repeat' first|refine aj ?_|simp[ae])
    (refine cT.at (fS _ ⟨bH,Aq,true⟩) (by simp) (by first|exact pq _|exact pq ‹_› _) (Same.keys (by simp[fS,ay,az]) (by simp[fS,ay,az])) (by simp only[fS,ay,az,bV,bY];exact aR) (by simp only[fS,ay,az,bV,bY];exact aR) ?_;simp[cY,z6,aW,aX,aV,inObs,Pv.look,fS,ay,az])
   ·have h6:(r==x)=false:=by simp[ae]
    simp only[ae,gS,or_self,if_false]at U
    cases zm:(c3 r Aq).getD false with
    |true=>
     simp[zm]at U;subst U
     (with_reducible repeat' first|refine aj ?_|simp[h6,zm])
     (refine cT.at (fS _ ⟨bH,Aq,false⟩) (by simp) (by first|exact pq _|exact pq ‹_› _) (Same.keys (by simp[fS,ay,az]) (by simp[fS,ay,az])) (by simp only[fS,ay,az,bV,bY];exact aR) (by simp only[fS,ay,az,bV,bY];exact aR) ?_;simp[cY,z6,aW,aX,aV,inObs,Pv.look,fS,ay,az])
    |false=>
     cases gA:bH.shd r with
     |false=>
      have Jv:(c3 r bH.shaped).getD false=false:=gA
      simp[zm,gA]at U;subst U
      (with_reducible repeat' first|refine aj ?_|simp[h6,zm,Jv])
      (refine cT.at (fS _ ⟨bH,Aq,false⟩) (by simp) (by first|exact pq _|exact pq ‹_› _) (Same.keys (by simp[fS,ay,az]) (by simp[fS,ay,az])) (by simp only[fS,ay,az,bV,bY];exact aR) (by simp only[fS,ay,az,bV,bY];exact aR) ?_;simp[cY,z6,aW,aX,aV,inObs,Pv.look,fS,ay,az])
     |true=>
      have Jv:(c3 r bH.shaped).getD false=true:=gA
      simp[zm,gA]at U
      have aK:=vt _ _ _ _ U
      (with_reducible repeat' first|refine aj ?_|simp[h6,zm,Jv])
      (refine hZ.ob (aK) (by first|exact h1 _|exact h1 ‹_› _) (by first|exact h1 _|exact h1 ‹_› _) (Same.keys (by simp[ey,ay,az]) (by simp[ey,ay,az])) (by simp only[ey,ay,az,bV,bY];exact aR) (by simp only[ey,ay,az,bV,bY];exact aR) (by simp[inObs,Pv.look,ey,ay,az]) ?_;simp[cz,ey,ay,az])
      (with_reducible repeat' first|refine aj ?_|simp)
      (refine cT.at (fS _ bn) (by simp) (by first|exact pq _|exact pq ‹_› _) (Same.keys (by simp[fS,ay,az]) (by simp[fS,ay,az])) (by simp only[fS,ay,az,bV,bY];exact aR) (by simp only[fS,ay,az,bV,bY];exact aR) ?_;simp[cY,z6,aW,aX,aV,inObs,Pv.look,fS,ay,az])
theorem Es{K:Nat}(c1:xQ K)(x:Int)(n:Nat):∀(t:T) (c:bs) (seen:List (Int×Bool)) (a:tp),pa n x t c seen=some a→bN al 246 [az,t.e,.int .i64 x,.gmap (.obj K)] (ey K (c,seen)) fun r ai=>r= .bool a.found∧ai=ey K (a.c,a.seen):=by
 induction n with
 |zero=>intro t c seen a h;simp[pa]at h
 |succ n bU=>
  intro t c seen a h;simp only[pa]at h;have ag:=h1 c1 (c,seen);have key:=IF (fS K) (pq c1) G5 257 [.eptr az,.ptr (.obj 712) 0,.eptr (.int .i64 x),.eptr (.gmap (.obj K))] (fun a=>by rcases c1 with rfl|rfl<;>simp[fS,ay,az,inObs,Pv.look]) rfl (wc (pa n x) x) (fun v a bn h=>acs c1 n x bU v a bn h) t ⟨c,seen,false⟩ a h;have ab:=c1;rcases ab with rfl|rfl;all_goals
   simp only[ey,ay,bV,bY]at ag⊢
   refine bN.mk mixed jk aaa agG (by simp) ag.obj fun aQ cL=>?_;unfold NQ
   simp[az]
   refine c6.new key (pq c1 _) (by simp only[fS,ay,az,bV,bY];exact aR) (by simp only[fS,ay,az,bV,bY];exact aR) (by simp[inObs,Pv.look,fS,ay,az]) ?_
   rintro r ai ⟨rfl,rfl⟩
   refine⟨fun m hm=>.inl ⟨?_,G5 _ _⟩,?_⟩
   ·exact((G5 _ _).inObs _).2 hm
   simp[cz,fS,ay]
   (with_reducible repeat' first|refine aj ?_|simp)
   (refine cT.at (ey _ (a.c,a.seen)) (by simp) (by first|exact h1 _|exact h1 ‹_› _) (Same.keys (by simp[ey,ay,az]) (by simp[ey,ay,az])) (by simp only[ey,ay,az,bV,bY];exact aR) (by simp only[ey,ay,az,bV,bY];exact aR) ?_;simp[cY,UB,aW,aX,aV,inObs,Pv.look,ey,ay,az])
@[simp] theorem Ke:pR []=jC []:=rfl
@[simp] theorem arC(t:T):s7 (some t)=t.e:=rfl
@[simp] theorem arB:s7 none= .agg [.int .i64 0,.int .i64 0,.str [],.slice 4 .nil []]:=rfl
theorem QN(n:Nat)(x:Int)(t:T)(c:bs)(p:Bool×bs)(he:uj n x t c=some p):bN al 247 [az,.int .i64 x,t.e] (aM c) fun r ai=>r= .bool p.1∧ai=aM p.2:=by have ag:=cg c;simp only[uj,gJ]at he;obtain⟨a,J,rfl⟩:=he;have c1:xQ 715:= .inl rfl;have key:=Es c1 x n t (c.know x t) [] a J;simp only[aM,ay]at ag⊢;refine bN.mk mixed jk Z7 agD (by simp) ag.obj fun aQ cL=>?_;unfold NN;simp[az];(refine c6.ob (key) (by first|exact h1 _|exact h1 ‹_› _) (by simp only[ey,ay,az,bs.know,bV,bY];exact aR) (by simp only[ey,ay,az,bs.know,bV,bY];exact aR) (by simp[inObs,Pv.look,ey,ay,az,bs.know]) ?_;rintro r ai ⟨rfl,rfl⟩;refine⟨(Same.keys (by simp[ey,ay,az,bs.know]) (by simp[ey,ay,az,bs.know])),?_⟩;simp[cz,ey,ay,az,bs.know]);(refine cT.at (aM a.c) (by simp) (by first|exact cg _|exact cg ‹_› _) (Same.keys (by simp[aM,ay,az]) (by simp[aM,ay,az])) (by simp only[aM,ay,az,bV,bY];exact aR) (by simp only[aM,ay,az,bV,bY];exact aR) ?_;simp[cY,Uy,aW,aX,aV,inObs,Pv.look,aM,ay,az])
set_option maxRecDepth 4000 in
theorem QL(n:Nat):∀(a b:T) (c:bs) (p:Bool×bs),gv n a b c=some p→bN al 218 [az,a.e,b.e] (aM c) fun r ai=>r= .bool p.1∧ai=aM p.2:=by
 induction n with
 |zero=>intro a b c p h;simp[gv]at h
 |succ n bU=>
  intro a b c p he;have ag:=cg c;have B2:∀i j,a= .var i→b= .var j→bN al 218 [az,a.e,b.e] (aM c) fun r ai=>r= .bool p.1∧ai=aM p.2:=by
   rintro i j rfl rfl;simp only[gv,mC]at he;obtain⟨⟨x,bH⟩,J,⟨y,cl⟩,U,ao⟩:=he;simp only at U ao;simp only[aM,ay]at ag⊢;refine bN.mk mixed jk wT xS (by simp) ag.obj fun aQ cL=>?_;unfold u2;simp[az];(refine c6.ob (q3 c i x bH J) (by first|exact cg _|exact cg ‹_› _) (by simp only[aM,ay,az,bV,bY];exact aR) (by simp only[aM,ay,az,bV,bY];exact aR) (by simp[inObs,Pv.look,aM,ay,az]) ?_;rintro r ai ⟨rfl,rfl⟩;refine⟨(Same.keys (by simp[aM,ay,az]) (by simp[aM,ay,az])),?_⟩;simp[cz,aM,ay,az]);(with_reducible repeat' first|refine aj ?_|simp);(refine c6.ob (q3 bH j y cl U) (by first|exact cg _|exact cg ‹_› _) (by simp only[aM,ay,az,bV,bY];exact aR) (by simp only[aM,ay,az,bV,bY];exact aR) (by simp[inObs,Pv.look,aM,ay,az]) ?_;rintro r ai ⟨rfl,rfl⟩;refine⟨(Same.keys (by simp[aM,ay,az]) (by simp[aM,ay,az])),?_⟩;simp[cz,aM,ay,az]);by_cases hL:x=y
   ·rw[if_pos hL]at ao;cases ao;(with_reducible repeat' first|refine aj ?_|simp[hL]);(refine cT.at (aM cl) (by simp) (by first|exact cg _|exact cg ‹_› _) (Same.keys (by simp[aM,ay,az]) (by simp[aM,ay,az])) (by simp only[aM,ay,az,bV,bY];exact aR) (by simp only[aM,ay,az,bV,bY];exact aR) ?_;simp[cY,nH,aW,aX,aV,inObs,Pv.look,aM,ay,az])
   ·rw[if_neg hL]at ao;have zt:(x==y)=false:=by simp[hL]
    have Q4:xQ 715:= .inl rfl;have ac1:xQ 716:= .inr rfl;obtain⟨u,v,zq,ba⟩:∃u v,((u=y∧v=x∧y<x)∨(u=x∧v=y∧¬y<x))∧qY (gv n) n u v (cl.join u v)=some p:=by
     by_cases bD:y<x
     ·rw[if_pos bD]at ao;exact⟨y,x,.inl ⟨rfl,rfl,bD⟩,ao⟩
     ·rw[if_neg bD]at ao;exact⟨x,y,.inr ⟨rfl,rfl,bD⟩,ao⟩
    clear ao;obtain⟨d,aP⟩:∃d,d=cl.join u v:=⟨_,rfl⟩;have fm:d.up=eJ v u cl.up:=by rw[aP];rfl
    have eF:d.shape=cl.shape:=by rw[aP];rfl
    have gw:d.shaped=cl.shaped:=by rw[aP];rfl
    have hr:d.color=cl.color:=by rw[aP];rfl
    have hs:d.size=cl.size:=by rw[aP];rfl
    have ht:d.full=cl.full:=by rw[aP];rfl
    rw[←aP]at ba;simp only[qY]at ba;cases aG:d.shd v with
    |false=>
     have lS:(c3 v cl.shaped).getD false=false:=by rw[←gw];exact aG
     rw[if_pos aG]at ba;cases hu:d.shd u with
     |false=>
      have ua:(c3 u cl.shaped).getD false=false:=by rw[←gw];exact hu
      rw[if_pos hu]at ba;cases ba;rcases zq with⟨rfl,rfl,bD⟩|⟨rfl,rfl,bD⟩;all_goals
       (with_reducible repeat' first|refine aj ?_|simp[zt,bD,lS,ua])
       (refine cT.at (aM d) (by simp) (by first|exact cg _|exact cg ‹_› _) (Same.keys (by simp[aM,ay,az,fm,eF,gw,hr,hs,ht]) (by simp[aM,ay,az,fm,eF,gw,hr,hs,ht])) (by simp only[aM,ay,az,fm,eF,gw,hr,hs,ht,bV,bY];exact aR) (by simp only[aM,ay,az,fm,eF,gw,hr,hs,ht,bV,bY];exact aR) ?_;simp[cY,nH,aW,aX,aV,inObs,Pv.look,aM,ay,az,fm,eF,gw,hr,hs,ht])
     |true=>
      have ua:(c3 u cl.shaped).getD false=true:=by rw[←gw];exact hu
      rw[if_neg (by simp[hu]),gJ]at ba;obtain⟨a,b2,rfl⟩:=ba;have key:=Es Q4 u n _ _ _ _ b2;rw[show d.shp u=(c3 u cl.shape).getD .nil from by rw[←eF];rfl]at key;rcases zq with⟨rfl,rfl,bD⟩|⟨rfl,rfl,bD⟩;all_goals
       (with_reducible repeat' first|refine aj ?_|simp[zt,bD,lS,ua])
       (refine c6.ob (key) (by first|exact h1 _|exact h1 ‹_› _) (by simp only[ey,ay,az,fm,eF,gw,hr,hs,ht,bV,bY];exact aR) (by simp only[ey,ay,az,fm,eF,gw,hr,hs,ht,bV,bY];exact aR) (by simp[inObs,Pv.look,ey,ay,az,fm,eF,gw,hr,hs,ht]) ?_;rintro r ai ⟨rfl,rfl⟩;refine⟨(Same.keys (by simp[ey,ay,az,fm,eF,gw,hr,hs,ht]) (by simp[ey,ay,az,fm,eF,gw,hr,hs,ht])),?_⟩;simp[cz,ey,ay,az,fm,eF,gw,hr,hs,ht])
       (with_reducible repeat' first|refine aj ?_|simp)
       (refine cT.at (aM a.c) (by simp) (by first|exact cg _|exact cg ‹_› _) (Same.keys (by simp[aM,ay,az]) (by simp[aM,ay,az])) (by simp only[aM,ay,az,bV,bY];exact aR) (by simp only[aM,ay,az,bV,bY];exact aR) ?_;simp[cY,nH,aW,aX,aV,inObs,Pv.look,aM,ay,az])
    |true=>
     have lS:(c3 v cl.shaped).getD false=true:=by rw[←gw];exact aG
     rw[if_neg (by simp[aG])]at ba;rw[show d.shp v=(c3 v cl.shape).getD .nil from by rw[←eF];rfl]at ba;cases hu:d.shd u with
     |false=>
      have ua:(c3 u cl.shaped).getD false=false:=by rw[←gw];exact hu
      rw[if_pos hu]at ba;have key:=QN n u _ d p ba;cases aO:c3 v cl.shape;all_goals
       rw[aO]at key
       simp only[j9,nm]at key
       rcases zq with⟨rfl,rfl,bD⟩|⟨rfl,rfl,bD⟩
       all_goals
        (with_reducible repeat' first|refine aj ?_|simp[zt,bD,lS,ua,aO])
        (refine c6.ob (key) (by first|exact cg _|exact cg ‹_› _) (by simp only[aM,ay,az,fm,eF,gw,hr,hs,ht,bV,bY];exact aR) (by simp only[aM,ay,az,fm,eF,gw,hr,hs,ht,bV,bY];exact aR) (by simp[inObs,Pv.look,aM,ay,az,fm,eF,gw,hr,hs,ht]) ?_;rintro r ai ⟨rfl,rfl⟩;refine⟨(Same.keys (by simp[aM,ay,az,fm,eF,gw,hr,hs,ht]) (by simp[aM,ay,az,fm,eF,gw,hr,hs,ht])),?_⟩;simp[cz,aM,ay,az,fm,eF,gw,hr,hs,ht])
        (with_reducible repeat' first|refine aj ?_|simp)
        (refine cT.at (aM p.2) (by simp) (by first|exact cg _|exact cg ‹_› _) (Same.keys (by simp[aM,ay,az]) (by simp[aM,ay,az])) (by simp only[aM,ay,az,bV,bY];exact aR) (by simp only[aM,ay,az,bV,bY];exact aR) ?_;simp[cY,nH,aW,aX,aV,inObs,Pv.look,aM,ay,az])
     |true=>
      have ua:(c3 u cl.shaped).getD false=true:=by rw[←gw];exact hu
      rw[if_neg (by simp[hu]),mC]at ba;obtain⟨a,b2,c7⟩:=ba;have key:=Es Q4 u n _ _ _ _ b2;obtain⟨o,aO⟩:∃o,c3 v cl.shape=o:=⟨_,rfl⟩;rw[aO]at key c7;obtain⟨ac,Aq,Hk⟩:=a;cases Hk with
      |true=>
       simp at c7;subst c7;cases o;all_goals
        simp only[j9,nm]at key
        rcases zq with⟨rfl,rfl,bD⟩|⟨rfl,rfl,bD⟩
        all_goals
         (with_reducible repeat' first|refine aj ?_|simp[zt,bD,lS,ua,aO])
         (refine hZ.ob (key) (by first|exact h1 _|exact h1 ‹_› _) (by first|exact h1 _|exact h1 ‹_› _) (Same.keys (by simp[ey,ay,az,fm,eF,gw,hr,hs,ht]) (by simp[ey,ay,az,fm,eF,gw,hr,hs,ht])) (by simp only[ey,ay,az,fm,eF,gw,hr,hs,ht,bV,bY];exact aR) (by simp only[ey,ay,az,fm,eF,gw,hr,hs,ht,bV,bY];exact aR) (by simp[inObs,Pv.look,ey,ay,az,fm,eF,gw,hr,hs,ht]) ?_;simp[cz,ey,ay,az,fm,eF,gw,hr,hs,ht])
         (with_reducible repeat' first|refine aj ?_|simp)
         (refine cT.at (aM ac) (by simp) (by first|exact cg _|exact cg ‹_› _) (Same.keys (by simp[aM,ay,az]) (by simp[aM,ay,az])) (by simp only[aM,ay,az,bV,bY];exact aR) (by simp only[aM,ay,az,bV,bY];exact aR) ?_;simp[cY,nH,aW,aX,aV,inObs,Pv.look,aM,ay,az])
      |false=>
       simp only[gS,if_false,mC]at c7;obtain⟨b,ef,nx⟩:=c7;have vH:=Es ac1 u n _ _ _ _ ef;rw[show ac.shp u=(c3 u ac.shape).getD .nil from rfl]at vH;obtain⟨Ho,amJ,XK⟩:=b;cases XK with
       |true=>
        simp at nx;subst nx;cases o;all_goals
         simp only[j9,nm]at key
         rcases zq with⟨rfl,rfl,bD⟩|⟨rfl,rfl,bD⟩
         all_goals
          (with_reducible repeat' first|refine aj ?_|simp[zt,bD,lS,ua,aO])
          (refine hZ.ob (key) (by first|exact h1 _|exact h1 ‹_› _) (by first|exact h1 _|exact h1 ‹_› _) (Same.keys (by simp[ey,ay,az,fm,eF,gw,hr,hs,ht]) (by simp[ey,ay,az,fm,eF,gw,hr,hs,ht])) (by simp only[ey,ay,az,fm,eF,gw,hr,hs,ht,bV,bY];exact aR) (by simp only[ey,ay,az,fm,eF,gw,hr,hs,ht,bV,bY];exact aR) (by simp[inObs,Pv.look,ey,ay,az,fm,eF,gw,hr,hs,ht]) ?_;simp[cz,ey,ay,az,fm,eF,gw,hr,hs,ht])
          (with_reducible repeat' first|refine aj ?_|simp)
          (refine hZ.ob (vH) (by first|exact h1 _|exact h1 ‹_› _) (by first|exact h1 _|exact h1 ‹_› _) (Same.keys (by simp[ey,ay,az]) (by simp[ey,ay,az])) (by simp only[ey,ay,az,bV,bY];exact aR) (by simp only[ey,ay,az,bV,bY];exact aR) (by simp[inObs,Pv.look,ey,ay,az]) ?_;simp[cz,ey,ay,az])
          (with_reducible repeat' first|refine aj ?_|simp)
          (refine cT.at (aM Ho) (by simp) (by first|exact cg _|exact cg ‹_› _) (Same.keys (by simp[aM,ay,az]) (by simp[aM,ay,az])) (by simp only[aM,ay,az,bV,bY];exact aR) (by simp only[aM,ay,az,bV,bY];exact aR) ?_;simp[cY,nH,aW,aX,aV,inObs,Pv.look,aM,ay,az])
       |false=>
        simp only[gS,if_false]at nx;have JX:=bU _ _ _ _ nx;rw[show Ho.shp u=(c3 u Ho.shape).getD .nil from rfl]at JX;cases o;all_goals
         simp only[j9,nm]at key JX
         rcases zq with⟨rfl,rfl,bD⟩|⟨rfl,rfl,bD⟩
         all_goals
          (with_reducible repeat' first|refine aj ?_|simp[zt,bD,lS,ua,aO])
          (refine hZ.ob (key) (by first|exact h1 _|exact h1 ‹_› _) (by first|exact h1 _|exact h1 ‹_› _) (Same.keys (by simp[ey,ay,az,fm,eF,gw,hr,hs,ht]) (by simp[ey,ay,az,fm,eF,gw,hr,hs,ht])) (by simp only[ey,ay,az,fm,eF,gw,hr,hs,ht,bV,bY];exact aR) (by simp only[ey,ay,az,fm,eF,gw,hr,hs,ht,bV,bY];exact aR) (by simp[inObs,Pv.look,ey,ay,az,fm,eF,gw,hr,hs,ht]) ?_;simp[cz,ey,ay,az,fm,eF,gw,hr,hs,ht])
          (with_reducible repeat' first|refine aj ?_|simp)
          (refine hZ.ob (vH) (by first|exact h1 _|exact h1 ‹_› _) (by first|exact h1 _|exact h1 ‹_› _) (Same.keys (by simp[ey,ay,az]) (by simp[ey,ay,az])) (by simp only[ey,ay,az,bV,bY];exact aR) (by simp only[ey,ay,az,bV,bY];exact aR) (by simp[inObs,Pv.look,ey,ay,az]) ?_;simp[cz,ey,ay,az])
          (with_reducible repeat' first|refine aj ?_|simp)
          (refine hZ.ob (JX) (by first|exact cg _|exact cg ‹_› _) (by first|exact cg _|exact cg ‹_› _) (Same.keys (by simp[aM,ay,az]) (by simp[aM,ay,az])) (by simp only[aM,ay,az,bV,bY];exact aR) (by simp only[aM,ay,az,bV,bY];exact aR) (by simp[inObs,Pv.look,aM,ay,az]) ?_;simp[cz,aM,ay,az])
          (with_reducible repeat' first|refine aj ?_|simp)
          (refine cT.at (aM p.2) (by simp) (by first|exact cg _|exact cg ‹_› _) (Same.keys (by simp[aM,ay,az]) (by simp[aM,ay,az])) (by simp only[aM,ay,az,bV,bY];exact aR) (by simp only[aM,ay,az,bV,bY];exact aR) ?_;simp[cY,nH,aW,aX,aV,inObs,Pv.look,aM,ay,az])
  have aG:∀i,a= .var i→b.kind≠1→bN al 218 [az,a.e,b.e] (aM c) fun r ai=>r= .bool p.1∧ai=aM p.2:=by
   rintro i rfl ad;have vj:((rt c i).bind fun p=>if p.2.shd p.1=false then uj n p.1 b p.2 else gv n (p.2.shp p.1) b p.2)=some p:=by cases b<;>first|exact he|simp at ad
   simp only[mC]at vj;obtain⟨⟨x,bH⟩,J,U⟩:=vj;simp only at U;have fP:(b.kind==1)=false:=by simp[ad]
   simp only[aM,ay]at ag⊢;refine bN.mk mixed jk wT xS (by simp) ag.obj fun aQ cL=>?_;unfold u2;simp[az];(with_reducible repeat' first|refine aj ?_|simp[fP,ad]);(refine c6.ob (q3 c i x bH J) (by first|exact cg _|exact cg ‹_› _) (by simp only[aM,ay,az,bV,bY];exact aR) (by simp only[aM,ay,az,bV,bY];exact aR) (by simp[inObs,Pv.look,aM,ay,az]) ?_;rintro r ai ⟨rfl,rfl⟩;refine⟨(Same.keys (by simp[aM,ay,az]) (by simp[aM,ay,az])),?_⟩;simp[cz,aM,ay,az]);cases ae:bH.shd x with
   |false=>have h6:(c3 x bH.shaped).getD false=false:=ae;rw[if_pos ae]at U;(with_reducible repeat' first|refine aj ?_|simp[h6]);(refine c6.ob (QN n x b bH p U) (by first|exact cg _|exact cg ‹_› _) (by simp only[aM,ay,az,bV,bY];exact aR) (by simp only[aM,ay,az,bV,bY];exact aR) (by simp[inObs,Pv.look,aM,ay,az]) ?_;rintro r ai ⟨rfl,rfl⟩;refine⟨(Same.keys (by simp[aM,ay,az]) (by simp[aM,ay,az])),?_⟩;simp[cz,aM,ay,az]);(refine cT.at (aM p.2) (by simp) (by first|exact cg _|exact cg ‹_› _) (Same.keys (by simp[aM,ay,az]) (by simp[aM,ay,az])) (by simp only[aM,ay,az,bV,bY];exact aR) (by simp only[aM,ay,az,bV,bY];exact aR) ?_;simp[cY,nH,aW,aX,aV,inObs,Pv.look,aM,ay,az])
   |true=>have h6:(c3 x bH.shaped).getD false=true:=ae;rw[if_neg (by simp[ae])]at U;have key:=bU _ _ _ _ U;(with_reducible repeat' first|refine aj ?_|simp[h6]);(refine hZ.ob (key) (by first|exact cg _|exact cg ‹_› _) (by first|exact cg _|exact cg ‹_› _) (Same.keys (by simp[aM,ay,az]) (by simp[aM,ay,az])) (by simp only[aM,ay,az,bV,bY];exact aR) (by simp only[aM,ay,az,bV,bY];exact aR) (by simp[inObs,Pv.look,aM,ay,az]) ?_;simp[cz,aM,ay,az]);(with_reducible repeat' first|refine aj ?_|simp);(refine cT.at (aM p.2) (by simp) (by first|exact cg _|exact cg ‹_› _) (Same.keys (by simp[aM,ay,az]) (by simp[aM,ay,az])) (by simp only[aM,ay,az,bV,bY];exact aR) (by simp only[aM,ay,az,bV,bY];exact aR) ?_;simp[cY,nH,aW,aX,aV,inObs,Pv.look,aM,ay,az])
  cases a with
  |var i=>
   cases b with
   |var j=>exact B2 i j rfl rfl
   |_=>exact aG i rfl (by simp)
  |pair bC a2=>
   cases b with
   |var j=>simp only[gv]at he;have key:=bU _ _ _ _ he;simp only[aM,ay]at ag⊢;refine bN.mk mixed jk wT xS (by simp) ag.obj fun aQ cL=>?_;unfold u2;simp[az];(refine c6.ob (key) (by first|exact cg _|exact cg ‹_› _) (by simp only[aM,ay,az,bV,bY];exact aR) (by simp only[aM,ay,az,bV,bY];exact aR) (by simp[inObs,Pv.look,aM,ay,az]) ?_;rintro r ai ⟨rfl,rfl⟩;refine⟨(Same.keys (by simp[aM,ay,az]) (by simp[aM,ay,az])),?_⟩;simp[cz,aM,ay,az]);(refine cT.at (aM p.2) (by simp) (by first|exact cg _|exact cg ‹_› _) (Same.keys (by simp[aM,ay,az]) (by simp[aM,ay,az])) (by simp only[aM,ay,az,bV,bY];exact aR) (by simp only[aM,ay,az,bV,bY];exact aR) ?_;simp[cY,nH,aW,aX,aV,inObs,Pv.look,aM,ay,az])
   |pair ch b6=>
    simp only[gv,mC]at he;obtain⟨⟨f1,bH⟩,J,U⟩:=he;have key:=bU _ _ _ _ J;simp only[aM,ay]at ag⊢;refine bN.mk mixed jk wT xS (by simp) ag.obj fun aQ cL=>?_;unfold u2;simp[az];(with_reducible repeat' first|refine aj ?_|simp);(refine hZ.ob (key) (by first|exact cg _|exact cg ‹_› _) (by first|exact cg _|exact cg ‹_› _) (Same.keys (by simp[aM,ay,az]) (by simp[aM,ay,az])) (by simp only[aM,ay,az,bV,bY];exact aR) (by simp only[aM,ay,az,bV,bY];exact aR) (by simp[inObs,Pv.look,aM,ay,az]) ?_;simp[cz,aM,ay,az]);cases f1 with
    |false=>simp at U;subst U;(with_reducible repeat' first|refine aj ?_|simp);(refine cT.at (aM bH) (by simp) (by first|exact cg _|exact cg ‹_› _) (Same.keys (by simp[aM,ay,az]) (by simp[aM,ay,az])) (by simp only[aM,ay,az,bV,bY];exact aR) (by simp only[aM,ay,az,bV,bY];exact aR) ?_;simp[cY,nH,aW,aX,aV,inObs,Pv.look,aM,ay,az])
    |true=>simp at U;have vH:=bU _ _ _ _ U;(with_reducible repeat' first|refine aj ?_|simp);(refine hZ.ob (vH) (by first|exact cg _|exact cg ‹_› _) (by first|exact cg _|exact cg ‹_› _) (Same.keys (by simp[aM,ay,az]) (by simp[aM,ay,az])) (by simp only[aM,ay,az,bV,bY];exact aR) (by simp only[aM,ay,az,bV,bY];exact aR) (by simp[inObs,Pv.look,aM,ay,az]) ?_;simp[cz,aM,ay,az]);(with_reducible repeat' first|refine aj ?_|simp);(refine cT.at (aM p.2) (by simp) (by first|exact cg _|exact cg ‹_› _) (Same.keys (by simp[aM,ay,az]) (by simp[aM,ay,az])) (by simp only[aM,ay,az,bV,bY];exact aR) (by simp only[aM,ay,az,bV,bY];exact aR) ?_;simp[cY,nH,aW,aX,aV,inObs,Pv.look,aM,ay,az])
   |_=>simp[gv]at he;subst he;simp only[aM,ay]at ag⊢;refine bN.mk mixed jk wT xS (by simp) ag.obj fun aQ cL=>?_;unfold u2;simp[az];(refine cT.at (aM c) (by simp) (by first|exact cg _|exact cg ‹_› _) (Same.keys (by simp[aM,ay,az]) (by simp[aM,ay,az])) (by simp only[aM,ay,az,bV,bY];exact aR) (by simp only[aM,ay,az,bV,bY];exact aR) ?_;simp[cY,nH,aW,aX,aV,inObs,Pv.look,aM,ay,az])
  |_=>
   cases b with
   |var j=>simp only[gv]at he;have key:=bU _ _ _ _ he;simp only[aM,ay]at ag⊢;refine bN.mk mixed jk wT xS (by simp) ag.obj fun aQ cL=>?_;unfold u2;simp[az];(refine c6.ob (key) (by first|exact cg _|exact cg ‹_› _) (by simp only[aM,ay,az,bV,bY];exact aR) (by simp only[aM,ay,az,bV,bY];exact aR) (by simp[inObs,Pv.look,aM,ay,az]) ?_;rintro r ai ⟨rfl,rfl⟩;refine⟨(Same.keys (by simp[aM,ay,az]) (by simp[aM,ay,az])),?_⟩;simp[cz,aM,ay,az]);(refine cT.at (aM p.2) (by simp) (by first|exact cg _|exact cg ‹_› _) (Same.keys (by simp[aM,ay,az]) (by simp[aM,ay,az])) (by simp only[aM,ay,az,bV,bY];exact aR) (by simp only[aM,ay,az,bV,bY];exact aR) ?_;simp[cY,nH,aW,aX,aV,inObs,Pv.look,aM,ay,az])
   |_=>
    simp[gv]at he;subst he;simp only[aM,ay]at ag⊢;refine bN.mk mixed jk wT xS (by simp) ag.obj fun aQ cL=>?_;unfold u2;simp[az];((with_reducible repeat' first|refine aj ?_|simp|((first|apply bL|apply bQ|apply bP)<;>intro h<;>try simp at h))<;>(try exact cq));all_goals(refine cT.at (aM c) (by simp) (by first|exact cg _|exact cg ‹_› _) (Same.keys (by simp[aM,ay,az]) (by simp[aM,ay,az])) (by simp only[aM,ay,az,bV,bY];exact aR) (by simp only[aM,ay,az,bV,bY];exact aR) ?_;simp[cY,nH,aW,aX,aV,inObs,Pv.look,aM,ay,az])
    all_goals simp_all
def l2(c:bs):Prop:= ∀x,0≤c.sz x∧c.sz x≤5001
theorem l2.rt{c:bs}(h:l2 c){v r:Int}{cr:bs}(he:rt c v=some (r,cr)):l2 cr:=by simp only[Pv.rt,gJ,jm]at he;obtain⟨p,_,_,rfl⟩:=he;exact h
theorem l2.put{c:bs}(h:l2 c){x k:Int}(ab:0≤k∧k≤5001)(m:List (Int×Int)):l2 {c with size:=eJ x k c.size,color:=m}:=fun z=>by
 show 0≤(c3 z (eJ x k c.size)).getD 0∧(c3 z (eJ x k c.size)).getD 0≤5001;rw[ng];split
 ·exact ab
 ·exact h z
theorem acK(c:bs)(v:Int)(p:Int×bs)(he:ya v c=some p):bN al 259 [.int .i64 v,.eptr az] (aM c) fun r ai=>r= .int .i64 p.1∧ai=aM p.2:=by have ag:=cg c;simp only[ya,gJ]at he;obtain⟨⟨r,bH⟩,J,rfl⟩:=he;simp only[aM,ay]at ag⊢;refine bN.mk mixed jk aaf agL (by simp) ag.obj fun aQ cL=>?_;unfold NV;simp[az];(refine hZ.ob (q3 c v r bH J) (by first|exact cg _|exact cg ‹_› _) (by first|exact cg _|exact cg ‹_› _) (Same.keys (by simp[aM,ay,az]) (by simp[aM,ay,az])) (by simp only[aM,ay,az,bV,bY];exact aR) (by simp only[aM,ay,az,bV,bY];exact aR) (by simp[inObs,Pv.look,aM,ay,az]) ?_;simp[cz,aM,ay,az]);(with_reducible repeat' first|refine aj ?_|simp);(refine cT.at (aM bH) (by simp) (by first|exact cg _|exact cg ‹_› _) (Same.keys (by simp[aM,ay,az]) (by simp[aM,ay,az])) (by simp only[aM,ay,az,bV,bY];exact aR) (by simp only[aM,ay,az,bV,bY];exact aR) ?_;simp[cY,UE,aW,aX,aV,inObs,Pv.look,aM,ay,az]);all_goals rfl
def gj(a:bs×Bool):cK:=⟨ay a.1++[(.obj 712,[.bool a.2])],[]⟩
theorem qb(a):ed (gj a):=by unfold gj ay;exact ed.of ⟨by intro m;simp[Pv.look],by intro m;simp[Pv.look]⟩ (by simp) (by simp)
theorem Xi(a b):Same (gj a) (gj b):=Same.keys (by simp[gj,ay]) (by simp[gj,ay])
theorem acJ(n:Nat)(vt:∀x c p,p1 n x c=some p→l2 c→l2 p.2∧bN al 248 [az,.int .i64 x] (aM c) fun r ai=>r= .bool p.1∧ai=aM p.2)
  (v:Int) (a bn:bs×Bool) (bp:l2 a.1) (he:yl (p1 n) v a=some bn):l2 bn.1∧bN al 258 [.int .i64 v,.ptr (.obj 712) 0,.eptr az] (gj a) fun r ai=>r= .tuple []∧ai=gj bn:=by
 have ag:=qb a;obtain⟨c,f⟩:=a;cases f with
 |false=>simp[yl]at he;subst he;refine⟨bp,?_⟩;simp only[gj,ay,bV,bY]at ag⊢;refine bN.mk mixed jk Qg TW (by simp) ag.obj fun aQ cL=>?_;unfold HA;simp[az];(with_reducible repeat' first|refine aj ?_|simp);(refine cT.at (gj (c,false)) (by simp) (by first|exact qb _|exact qb ‹_› _) (Same.keys (by simp[gj,ay,az]) (by simp[gj,ay,az])) (by simp only[gj,ay,az,bV,bY];exact aR) (by simp only[gj,ay,az,bV,bY];exact aR) ?_;simp[cY,F3,aW,aX,aV,inObs,Pv.look,gj,ay,az])
 |true=>
  simp only[yl,if_true,mC,gJ]at he;obtain⟨⟨r,bH⟩,J,⟨f2,cl⟩,U,rfl⟩:=he;obtain⟨z2,key⟩:=vt _ _ _ U (bp.rt J);refine⟨z2,?_⟩;simp only[gj,ay,bV,bY]at ag⊢;refine bN.mk mixed jk Qg TW (by simp) ag.obj fun aQ cL=>?_;unfold HA;simp[az];(with_reducible repeat' first|refine aj ?_|simp);(refine hZ.ob (q3 c v r bH J) (by first|exact cg _|exact cg ‹_› _) (by first|exact cg _|exact cg ‹_› _) (Same.keys (by simp[aM,ay,az]) (by simp[aM,ay,az])) (by simp only[aM,ay,az,bV,bY];exact aR) (by simp only[aM,ay,az,bV,bY];exact aR) (by simp[inObs,Pv.look,aM,ay,az]) ?_;simp[cz,aM,ay,az]);(with_reducible repeat' first|refine aj ?_|simp);(refine hZ.ob (key) (by first|exact cg _|exact cg ‹_› _) (by first|exact cg _|exact cg ‹_› _) (Same.keys (by simp[aM,ay,az]) (by simp[aM,ay,az])) (by simp only[aM,ay,az,bV,bY];exact aR) (by simp only[aM,ay,az,bV,bY];exact aR) (by simp[inObs,Pv.look,aM,ay,az]) ?_;simp[cz,aM,ay,az]);cases f2 with
  |true=>(with_reducible repeat' first|refine aj ?_|simp);(refine cT.at (gj (cl,true)) (by simp) (by first|exact qb _|exact qb ‹_› _) (Same.keys (by simp[gj,ay,az]) (by simp[gj,ay,az])) (by simp only[gj,ay,az,bV,bY];exact aR) (by simp only[gj,ay,az,bV,bY];exact aR) ?_;simp[cY,F3,aW,aX,aV,inObs,Pv.look,gj,ay,az])
  |false=>(with_reducible repeat' first|refine aj ?_|simp);(refine cT.at (gj (cl,false)) (by simp) (by first|exact qb _|exact qb ‹_› _) (Same.keys (by simp[gj,ay,az]) (by simp[gj,ay,az])) (by simp only[gj,ay,az,bV,bY];exact aR) (by simp only[gj,ay,az,bV,bY];exact aR) ?_;simp[cY,F3,aW,aX,aV,inObs,Pv.look,gj,ay,az])
theorem acI(n:Nat):∀(x:Int) (c:bs) (p:Bool×bs),p1 n x c=some p→l2 c→l2 p.2∧bN al 248 [az,.int .i64 x] (aM c) fun r ai=>r= .bool p.1∧ai=aM p.2:=by
 induction n with
 |zero=>intro x c p h;simp[p1]at h
 |succ n bU=>
  intro x c p he bp;have ag:=cg c;simp only[p1]at he;by_cases U:c.col x=2
  ·rw[if_pos U]at he;cases he;have Bo:iM c.color x=2:=U;refine⟨bp,?_⟩;simp only[aM,ay]at ag⊢;refine bN.mk mixed jk A9 CA (by simp) ag.obj fun aQ cL=>?_;unfold yC;simp[az];(with_reducible repeat' first|refine aj ?_|simp[Bo]);(refine cT.at (aM c) (by simp) (by first|exact cg _|exact cg ‹_› _) (Same.keys (by simp[aM,ay,az]) (by simp[aM,ay,az])) (by simp only[aM,ay,az,bV,bY];exact aR) (by simp only[aM,ay,az,bV,bY];exact aR) ?_;simp[cY,z7,aW,aX,aV,inObs,Pv.look,aM,ay,az])
  rw[if_neg U]at he;have Bo:(iM c.color x==2)=false:=by simp;exact U
  by_cases J:c.col x=1
  ·rw[if_pos J]at he;cases he;have nv:iM c.color x=1:=J;refine⟨bp,?_⟩;simp only[aM,ay]at ag⊢;refine bN.mk mixed jk A9 CA (by simp) ag.obj fun aQ cL=>?_;unfold yC;simp[az];(with_reducible repeat' first|refine aj ?_|simp[nv]);(refine cT.at (aM c) (by simp) (by first|exact cg _|exact cg ‹_› _) (Same.keys (by simp[aM,ay,az]) (by simp[aM,ay,az])) (by simp only[aM,ay,az,bV,bY];exact aR) (by simp only[aM,ay,az,bV,bY];exact aR) ?_;simp[cY,z7,aW,aX,aV,inObs,Pv.look,aM,ay,az])
  rw[if_neg J]at he;have nv:(iM c.color x==1)=false:=by simp;exact J
  have Sb:l2 (c.grey x):=bp.put (by omega) _;cases jK:(c.grey x).shd x with
  |false=>rw[if_pos jK]at he;cases he;have sF:(c3 x c.shaped).getD false=false:=jK;refine⟨Sb,?_⟩;simp only[aM,ay]at ag⊢;refine bN.mk mixed jk A9 CA (by simp) ag.obj fun aQ cL=>?_;unfold yC;simp[az];(with_reducible repeat' first|refine aj ?_|simp[Bo,nv,sF]);(refine cT.at (aM ((c.grey x).black x)) (by simp) (by first|exact cg _|exact cg ‹_› _) (Same.keys (by simp[aM,ay,az,bs.grey,bs.black]) (by simp[aM,ay,az,bs.grey,bs.black])) (by simp only[aM,ay,az,bs.grey,bs.black,bV,bY];exact aR) (by simp only[aM,ay,az,bs.grey,bs.black,bV,bY];exact aR) ?_;simp[cY,z7,aW,aX,aV,inObs,Pv.look,aM,ay,az,bs.grey,bs.black])
  |true=>
   rw[if_neg (by simp[jK]),mC]at he;have sF:(c3 x c.shaped).getD false=true:=jK;obtain⟨⟨e,f⟩,ao,ba⟩:=he;simp only at ba;obtain⟨WY,key⟩:=QK gj qb Xi 258 [.ptr (.obj 712) 0,.eptr az] (fun a=>by simp[gj,ay,az,inObs,Pv.look]) rfl (fun a=>l2 a.1) (yl (p1 n)) (fun v a bn bp h=>acJ n bU v a bn bp h) _ _ _ Sb ao;rw[show(c.grey x).shp x=(c3 x c.shape).getD .nil from rfl]at key;cases f with
   |false=>simp at ba;subst ba;refine⟨WY,?_⟩;simp only[aM,ay]at ag⊢;refine bN.mk mixed jk A9 CA (by simp) ag.obj fun aQ cL=>?_;unfold yC;simp[az];(with_reducible repeat' first|refine aj ?_|simp[Bo,nv,sF]);(refine c6.ob (key) (by first|exact qb _|exact qb ‹_› _) (by simp only[gj,ay,az,bs.grey,bV,bY];exact aR) (by simp only[gj,ay,az,bs.grey,bV,bY];exact aR) (by simp[inObs,Pv.look,gj,ay,az,bs.grey]) ?_;rintro r ai ⟨rfl,rfl⟩;refine⟨(Same.keys (by simp[gj,ay,az,bs.grey]) (by simp[gj,ay,az,bs.grey])),?_⟩;simp[cz,gj,ay,az,bs.grey]);(with_reducible repeat' first|refine aj ?_|simp);(refine cT.at (aM e) (by simp) (by first|exact cg _|exact cg ‹_› _) (Same.keys (by simp[aM,ay,az]) (by simp[aM,ay,az])) (by simp only[aM,ay,az,bV,bY];exact aR) (by simp only[aM,ay,az,bV,bY];exact aR) ?_;simp[cY,z7,aW,aX,aV,inObs,Pv.look,aM,ay,az])
   |true=>
    rw[if_neg (by simp),gJ]at ba;obtain⟨⟨k,aC⟩,b2,rfl⟩:=ba;obtain⟨z2,b6,vH⟩:=acz aM cg DD 259 [.eptr az] (fun a=>by simp[aM,ay,az,inObs,Pv.look]) rfl l2 ya (fun v a p bp h=>by simp only[ya,gJ]at h;obtain⟨⟨r,bH⟩,J,rfl⟩:=h;exact⟨bp.rt J,(bp.rt J r).1,Int.le_trans (bp.rt J r).2 (by omega)⟩) (fun v a p _ h=>acK a v p h) _ _ _ WY b2
    rw[show bs.shp e x=(c3 x e.shape).getD .nil from rfl]at vH;refine⟨z2.put b6 _,?_⟩;simp only[aM,ay]at ag⊢;refine bN.mk mixed jk A9 CA (by simp) ag.obj fun aQ cL=>?_;unfold yC;simp[az];(with_reducible repeat' first|refine aj ?_|simp[Bo,nv,sF]);(refine c6.ob (key) (by first|exact qb _|exact qb ‹_› _) (by simp only[gj,ay,az,bs.grey,bV,bY];exact aR) (by simp only[gj,ay,az,bs.grey,bV,bY];exact aR) (by simp[inObs,Pv.look,gj,ay,az,bs.grey]) ?_;rintro r ai ⟨rfl,rfl⟩;refine⟨(Same.keys (by simp[gj,ay,az,bs.grey]) (by simp[gj,ay,az,bs.grey])),?_⟩;simp[cz,gj,ay,az,bs.grey]);(with_reducible repeat' first|refine aj ?_|simp);(refine hZ.ob (vH) (by first|exact cg _|exact cg ‹_› _) (by first|exact cg _|exact cg ‹_› _) (Same.keys (by simp[aM,ay,az]) (by simp[aM,ay,az])) (by simp only[aM,ay,az,bV,bY];exact aR) (by simp only[aM,ay,az,bV,bY];exact aR) (by simp[inObs,Pv.look,aM,ay,az]) ?_;simp[cz,aM,ay,az]);(with_reducible repeat' first|refine aj ?_|simp);(refine cT.at (aM (({aC with size:=eJ x k aC.size}:bs).black x)) (by simp) (by first|exact cg _|exact cg ‹_› _) (Same.keys (by simp[aM,ay,az,bs.black]) (by simp[aM,ay,az,bs.black])) (by simp only[aM,ay,az,bs.black,bV,bY];exact aR) (by simp only[aM,ay,az,bs.black,bV,bY];exact aR) ?_;simp[cY,z7,aW,aX,aV,inObs,Pv.look,aM,ay,az,bs.black])
theorem acH(n:Nat)(vt:∀x c p,p0 n x c=some p→bN al 249 [az,.int .i64 x] (aM c) fun r ai=>r=p.1.e∧ai=aM p.2)
  (v:Int) (c:bs) (p:T×bs) (he:AG (p0 n) v c=some p):bN al 260 [.int .i64 v,.eptr az] (aM c) fun r ai=>r= .tuple [p.1.e,.bool true]∧ai=aM p.2:=by
 have ag:=cg c;simp only[AG,mC]at he;obtain⟨⟨r,bH⟩,J,U⟩:=he;have key:=vt _ _ _ U;simp only[aM,ay]at ag⊢;refine bN.mk mixed jk aae agK (by simp) ag.obj fun aQ cL=>?_;unfold NU;simp[az];(with_reducible repeat' first|refine aj ?_|simp);(refine hZ.ob (q3 c v r bH J) (by first|exact cg _|exact cg ‹_› _) (by first|exact cg _|exact cg ‹_› _) (Same.keys (by simp[aM,ay,az]) (by simp[aM,ay,az])) (by simp only[aM,ay,az,bV,bY];exact aR) (by simp only[aM,ay,az,bV,bY];exact aR) (by simp[inObs,Pv.look,aM,ay,az]) ?_;simp[cz,aM,ay,az]);(with_reducible repeat' first|refine aj ?_|simp);(refine hZ.ob (key) (by first|exact cg _|exact cg ‹_› _) (by first|exact cg _|exact cg ‹_› _) (Same.keys (by simp[aM,ay,az]) (by simp[aM,ay,az])) (by simp only[aM,ay,az,bV,bY];exact aR) (by simp only[aM,ay,az,bV,bY];exact aR) (by simp[inObs,Pv.look,aM,ay,az]) ?_;simp[cz,aM,ay,az]);(with_reducible repeat' first|refine aj ?_|simp);(refine cT.at (aM p.2) (by simp) (by first|exact cg _|exact cg ‹_› _) (Same.keys (by simp[aM,ay,az]) (by simp[aM,ay,az])) (by simp only[aM,ay,az,bV,bY];exact aR) (by simp only[aM,ay,az,bV,bY];exact aR) ?_;simp[cY,UD,aW,aX,aV,inObs,Pv.look,aM,ay,az])
theorem jc(n:Int):bF al 116 [.int .i64 n] (T.var n).e:=by refine bm jk aaA ag6 fun aQ=>?_;unfold Oh;exact b5
theorem acG(n:Nat):∀(x:Int) (c:bs) (p:T×bs),p0 n x c=some p→bN al 249 [az,.int .i64 x] (aM c) fun r ai=>r=p.1.e∧ai=aM p.2:=by
 induction n with
 |zero=>intro x c p h;simp[p0]at h
 |succ n bU=>
  intro x c p he;have ag:=cg c;simp only[p0]at he;cases aJ:c3 x c.full with
  |some t=>rw[aJ]at he;cases he;simp only[aM,ay]at ag⊢;refine bN.mk mixed jk Ij KG (by simp) ag.obj fun aQ cL=>?_;unfold DR;simp[az];(with_reducible repeat' first|refine aj ?_|simp[aJ]);(refine cT.at (aM c) (by simp) (by first|exact cg _|exact cg ‹_› _) (Same.keys (by simp[aM,ay,az]) (by simp[aM,ay,az])) (by simp only[aM,ay,az,bV,bY];exact aR) (by simp only[aM,ay,az,bV,bY];exact aR) ?_;simp[cY,F2,aW,aX,aV,inObs,Pv.look,aM,ay,az])
  |none=>
   rw[aJ]at he;simp only at he;cases jK:c.shd x with
   |false=>have sF:(c3 x c.shaped).getD false=false:=jK;rw[if_pos jK]at he;cases he;simp only[aM,ay]at ag⊢;refine bN.mk mixed jk Ij KG (by simp) ag.obj fun aQ cL=>?_;unfold DR;simp[az];(with_reducible repeat' first|refine aj ?_|refine aD (jc _) ?_|refine aE (jc _) ?_|simp[aJ,sF]);(refine cT.at (aM {c with full:=eJ x (.var x) c.full}) (by simp) (by first|exact cg _|exact cg ‹_› _) (Same.keys (by simp[aM,ay,az]) (by simp[aM,ay,az])) (by simp only[aM,ay,az,bV,bY];exact aR) (by simp only[aM,ay,az,bV,bY];exact aR) ?_;simp[cY,F2,aW,aX,aV,inObs,Pv.look,aM,ay,az])
   |true=>have sF:(c3 x c.shaped).getD false=true:=jK;rw[if_neg (by simp[jK]),gJ]at he;obtain⟨⟨t,bH⟩,J,rfl⟩:=he;have key:=ack aM cg DD 260 [.eptr az] (fun a=>by simp[aM,ay,az,inObs,Pv.look]) rfl (AG (p0 n)) (fun v a p h=>acH n bU v a p h) _ _ _ J;rw[show c.shp x=(c3 x c.shape).getD .nil from rfl]at key;simp only[aM,ay]at ag⊢;refine bN.mk mixed jk Ij KG (by simp) ag.obj fun aQ cL=>?_;unfold DR;simp[az];(with_reducible repeat' first|refine aj ?_|refine aD (jc _) ?_|refine aE (jc _) ?_|simp[aJ,sF]);(refine c6.ob (key) (by first|exact cg _|exact cg ‹_› _) (by simp only[aM,ay,az,bV,bY];exact aR) (by simp only[aM,ay,az,bV,bY];exact aR) (by simp[inObs,Pv.look,aM,ay,az]) ?_;rintro r ai ⟨rfl,rfl⟩;refine⟨(Same.keys (by simp[aM,ay,az]) (by simp[aM,ay,az])),?_⟩;simp[cz,aM,ay,az]);(with_reducible repeat' first|refine aj ?_|simp);(refine cT.at (aM {bH with full:=eJ x t bH.full}) (by simp) (by first|exact cg _|exact cg ‹_› _) (Same.keys (by simp[aM,ay,az]) (by simp[aM,ay,az])) (by simp only[aM,ay,az,bV,bY];exact aR) (by simp only[aM,ay,az,bV,bY];exact aR) ?_;simp[cY,F2,aW,aX,aV,inObs,Pv.look,aM,ay,az])
theorem acn:bN al 215 [] ⟨[],[]⟩ fun r ai=>r=az∧ai=aM bs.new:=by have ag:ed ⟨[],[]⟩:=ed.of xP (by simp) (by simp);refine bN.mk mixed jk aao agU (by simp) ag.obj fun aQ cL=>?_;unfold N4;simp;refine cT.new (aM bs.new) (.inl rfl) (cg _) ⟨trivial,trivial⟩ (by simp only[aM,ay,bs.new];exact aR) (by simp only[aM,ay,bs.new];exact aR) ?_;simp[cY,UM,aW,aX,aV,inObs,Pv.look,aM,ay,az]
theorem VN{a b:List Int}(h:a.Perm b):qE a=qE b:=by
 have aO:∀a b c:Int,(decide (a≤b))=true→(decide (b≤c))=true→(decide (a≤c))=true:=by intro a b c;simp;omega
 have zp:∀a b:Int,(decide (a≤b)||decide (b≤a))=true:=by intro a b;simp;omega
 have J:=List.pairwise_mergeSort aO zp a;have U:=List.pairwise_mergeSort aO zp b;refine ML (le:=fun x y:Int=>(decide (x≤y))=true) (fun x y _ _ J U=>by simp at J U;omega) J U ?_;exact(List.mergeSort_perm a _).trans (h.trans (List.mergeSort_perm b _).symm)
def aeV(l:List Int)(k:Nat)(st:bq):Prop:=∃(seen:List Nat) (xs:List Int),seen.Nodup∧(∀b∈seen,b<l.length)∧k=l.length-seen.length∧xs=seen.filterMap (fun b=>l[b]?)∧xs.length=seen.length∧st=⟨[(3,.row 1 (.obj 306) xs.length),(7,.ptr (.loc 0) 0)],[(.obj 304,nX l),(.loc 0,cn l.length seen (.obj 304))],[(.obj 306,⟨xs.length,3,1,some (ek xs)⟩)],1,[.obj 306,.obj 304]⟩
@[simp] theorem aoc(xs:List Int):(ek xs).length=xs.length:=by simp[ek]
@[simp] theorem art(xs:List Int):cZ (ek xs)=ek xs:=by
 induction xs with
 |nil=>rfl
 |cons x r bU=>simp only[ek,hf,cZ,dq]at bU⊢;rw[bU]
@[simp] theorem aod:ek []=[]:=rfl
theorem aeQ(xs:List Int)(x:Int):ek xs++[ah.int .i64 x]=ek (xs++[x]):=by simp[ek]
theorem acF(l:List Int)(av:l.length≤1000000):bN al 136 [.gmap (.obj 304)] (tq l) fun r ai=>r= .slice 1 .no (ek (qE l))∧ai=tq l:=by
 have ag:=MT l;unfold tq at ag⊢;refine bN.mk mixed fH aay ag4 (by simp) ag.obj fun aQ cL=>?_;unfold Oe;simp;refine oU (aeV l) l.length _ ⟨by simp[fresh,aI,aB,cn,inObs,Pv.look,mo,sM],er (by simp[fresh,aI,aB,cn,inObs,Pv.look,mo,sM]),et (by simp[fresh,aI,aB,dW,inObs,Pv.look,mo,sM]),by simp⟩ ⟨[],[],by simp,by simp,by simp,by simp,by simp,rfl⟩ ?_;rintro k st ⟨seen,xs,aP,bD,ab,h7,j1,rfl⟩ kD cL;clear kD cL;have hle:=Gv aP bD;simp;refine YY (mk:= .obj 304) (seen:=seen) (l:=l) (by simp) (by simp) rfl (fun ld=>?_) (fun b x ae ad=>?_)
 ·simp;have vs:=LN aP bD ld;rw[←h7]at vs;refine c6.ob (acD 306 xs (by omega)) (G7 306 xs) (by unfold mE;exact aR) (by unfold mE;exact aR) (by simp[mE,inObs,Pv.look]) ?_;rintro r ai ⟨rfl,rfl⟩;refine⟨⟨fun _=>rfl,fun k=>by simp only[mE,Pv.look];split<;>rfl⟩,?_⟩;unfold mE;simp[cz,VM];refine cT.at _ (.inl rfl) ag (Same.refl _) aR aR ?_;simp[cY,UR,aW,aX,aV];rw[VN vs];simp[aB,sM]
 ·have zg:∀f:aH→aY (List ah),f (.loc 0)=some (cn l.length (seen++[b]) (.obj 304))→f (.obj 304)=some (nX l)→o6 f (.ptr (.loc 0) 0)=some (True,.tuple [.int .i64 x,.bool true]):=fun f J U=>afJ f (.loc 0) (.obj 304) l.length seen b l x J U rfl ae;have e5:b<l.length:=(fi.1 ae).1;have pI:=LO aP bD e5 ad;simp[zg,aeQ];refine⟨by unfold lim;omega,?_⟩;refine bO.next (l.length-(seen.length+1)) (by omega) ⟨seen++[b],xs++[x],KC aP ad,(by simp;intro c au;rcases au with au|rfl;exact bD c au;exact e5),by simp,by rw[List.filterMap_append,←h7];simp[ae],by simp[j1],rfl⟩ ⟨by simp[fresh,aI,aB,cn,inObs,Pv.look,mo,sM],er (by simp[fresh,aI,aB,cn,inObs,Pv.look,mo,sM]),et (by simp[fresh,aI,aB,dW,inObs,Pv.look,mo,sM]),by simp⟩
@[simp] theorem aos(S:aH→Prop)(xs:List Int):aI S (ek xs)=True:=eq_true (sM S xs)
@[simp] theorem am2:cells .junk=[.junk]:=rfl
def Od:C:=(aa [eQ 6 5,be 7 false] (aa [dK 12 215 [],I 8 12] (.seq (aa [I 13 0,cb 14 13,bS 15 0] (fe 16 15 14 (.seq (.block 1 (aa [cj 17 5 13 15,a7 18 5 17,dh 10 ij,bM 5 10 18] (aa [I 19 8,aF 20 0 1 10,aw 21 1 20,b4 22 216 19 21] (aa [I 23 8,gq 24 1 4 10,a7 25 4 24,b4 26 217 23 25] (.seq (.drawn false 69 [I 27 8,aF 28 0 1 10,aw 29 1 28,cM 30 116 29,gq 31 1 4 10,a7 32 4 31,dK 33 218 [.t 27,.t 30,.t 32],cx 34 33]) (aS 34 (aa [eQ 6 5,be 7 false] .ret) .skip)))))) (.region [aT 35 .add 15 1,I 15 35])))) (.seq (aa [I 36 1,cb 37 36,bS 38 0] (.block 2 (.loop (aa [bh 39 .lss 38 37] (.seq (aS 39 .skip (.exit 2)) (.seq (.block 3 (aa [I 40 38,I 11 40] (aa [I 41 8,I 42 1,I 43 11,cj 44 4 42 43,a7 45 4 44,b4 46 217 41 45] (aa [I 47 8,I 48 2,I 49 11,cj 50 4 48 49,a7 51 4 50,b4 52 217 47 51] (.seq (.drawn false 69 [I 53 8,I 54 1,I 55 11,cj 56 4 54 55,a7 57 4 56,I 58 2,I 59 11,cj 60 4 58 59,a7 61 4 60,dK 62 218 [.t 53,.t 57,.t 61],cx 63 62]) (aS 63 (aa [eQ 6 5,be 7 false] .ret) .skip)))))) (.region [aT 64 .add 38 1,I 38 64]))))))) (aa [I 65 8,cM 66 219 65,cH 67 0 66,cH 68 1 66,I 6 67,I 7 68] .ret)))))
@[simp] def La:List bu:=[.tmp 6,.tmp 7]
def NT:C:=(aa [eQ 2 5,be 3 false] (aa [cU (.mkmap 12 (some 304)),I 4 12] (.seq (aa [I 13 0,fv 14 13,aF 15 0 1 14,aw 16 1 15,cU (.range 17 none (.t 16))] (.block 0 (.loop (aa [⟨none,.next 18 (.t 17)⟩,cH 19 0 18] (.seq (aS 19 .skip (.exit 0)) (.block 1 (aa [b7 20 (.ment (.t 17)),cH 21 0 20,I 5 21] (.region [I 22 4,I 23 5,cU (.mput .i (.t 22) (.t 23) (.c (.bool true)))])))))))) (aa [I 24 4,cM 25 136 24,I 6 25] (aa [cU (.bslm 26 none 5 113 []),I 7 26] (.seq (aa [I 27 6,cb 28 27,bS 29 0] (.block 2 (.loop (aa [bh 30 .lss 29 28] (.seq (aS 30 .skip (.exit 2)) (.seq (.block 3 (aa [cj 31 1 27 29,aw 32 1 31,I 9 32] (aa [I 33 0,I 34 9,b4 35 216 33 34,I 10 35] (.seq (aa [I 36 0,I 37 10,b4 38 248 36 37,cx 39 38] (aS 39 (aa [eQ 2 5,be 3 false] .ret) .skip)) (.seq (aa [I 40 10,I 41 9,bh 42 .eql 40 41,I 43 42,bZ 43 true 44 0,aq 43 true (fv 45 44),aq 43 true (aF 46 2 1 45),aq 43 true (aw 47 1 46),bZ 43 true 48 10,aq 43 true (b7 49 (.mget .i (.bool false) false (.t 47) (.t 48))),aq 43 true (cx 50 49),dy 51 43 50] (aS 51 (.exit 3) .skip)) (aa [I 52 7,I 53 9,j7 54 ij [(0,1,(.t 53))],fD 55 5 113 [.t 54],cU (.appm 56 none 5 113 (.t 52) (.t 55)),I 7 56] (aa [I 57 0,fv 58 57,aF 59 4 1 58,aw 60 1 59,I 61 10,b7 62 (.mget .i (.int .i64 0) false (.t 60) (.t 61)),aT 63 .gtr 62 5000,I 64 63,bZ 64 false 65 7,aq 64 false (cb 66 65),aq 64 false (aT 67 .gtr 66 400),c2 68 64 67] (aS 68 (aa [eQ 2 5,be 3 false] .ret) .skip)))))))) (.region [aT 69 .add 29 1,I 29 69]))))))) (.seq (aa [I 70 7,cb 71 70,bS 72 0] (.block 4 (.loop (aa [bh 73 .lss 72 71] (.seq (aS 73 .skip (.exit 4)) (.seq (.block 5 (aa [I 74 72,I 11 74] (.region [I 75 7,I 76 11,I 77 0,I 78 0,I 79 7,I 80 11,cj 81 5 79 80,aF 82 0 1 81,aw 83 1 82,b4 84 216 78 83,b4 85 249 77 84,cM 86 143 85,cj 87 5 75 76,gq 88 1 4 87,bM 4 88 86]))) (.region [aT 89 .add 72 1,I 72 89]))))))) (.seq (.pub 7 (.region [I 90 7,I 2 90,be 3 true])) .ret))))))))
@[simp] def F1:List bu:=[.tmp 2,.tmp 3]
def Me:List (Nat×dA):=[
 (3,⟨1,8,.int .i64,.int .i64 0⟩),
 (4,⟨1,1,.bool,.bool false⟩),
 (27,⟨1,24,.slice 30,.slice 4 .nil []⟩),
 (30,⟨4,56,.struct [(0,3),(1,3),(2,9),(3,27)],.agg [.int .i64 0,.int .i64 0,.str [],.slice 4 .nil []]⟩),
 (46,⟨1,24,.slice 113,.slice 5 .nil []⟩),
 (76,⟨1,24,.slice 3,.slice 1 .nil []⟩),
 (113,⟨5,64,.struct [(0,3),(1,30)],.agg [.int .i64 0,.int .i64 0,.int .i64 0,.str [],.slice 4 .nil []]⟩),
 (136,⟨1,8,.map 3 4,.junk⟩),
 (216,⟨1,8,.map 3 3,.junk⟩),
 (219,⟨6,48,.struct [(0,216),(1,217),(2,136),(3,216),(4,216),(5,217)],.agg [.junk,.junk,.junk,.junk,.junk,.junk]⟩)]
theorem Wf:fL al Me=true:=by kernel_rfl
theorem ag3:b0 Me Od La 3 Tryz.f186=true:=by kernel_rfl
theorem aax:al.funcs[(186:Nat)]? =some Tryz.f186:=Tryz.func186
theorem agJ:b0 Me NT F1 1 Tryz.f219=true:=by kernel_rfl
theorem aad:al.funcs[(219:Nat)]? =some Tryz.f219:=Tryz.func219
def gg(o:aY (List ar)):ah:= .tuple [.slice 5 .no ((o.getD []).map ar.e),.bool o.isSome]
theorem afL(f:aH→aY (List ah))(ff mk:aH)(n:Nat)(seen:List Nat)(b:Nat)(l:List (Int×Int))(x:Int×Int)(hi:f ff=some (cn n (seen++[b]) mk))(hm:f mk=some (mX l))(aA:n=l.length)(ae:l[b]? =some x):o6 f (.ptr ff 0)=some (True,.tuple [.int .i64 x.1,.int .i64 x.2]):=by rw[Tx f ff mk n seen b _ hi hm (by simpa using aA)];simp[ae]
theorem YZ{st:bq}{d:Nat}{K:bq→Prop}{ff mk:aH}{n:Nat}{seen:List Nat}{l:List (Int×Int)}(hi:Pv.look ff st.b=some (cn n seen mk))(hm:Pv.look mk st.b=some (mX l))(aA:n=l.length)
  (J:(∀b,b<l.length→b∈seen)→K {st with t:=Pv.put d (.tuple [.bool false]) st.t}) (U:∀b x,l[b]? =some x→b∉seen→K {st with t:=Pv.put d (.tuple [.bool true,.int .i64 x.1,.int .i64 x.2]) st.t,b:=cA ff (cn n (seen++[b]) mk) st.b}):
  sl st d (.ptr ff 0) K:=by
 refine P7 hi hm (by simpa using aA) (fun h=>J fun b ad=>h b (by omega)) (fun b k v ad ag=>?_);simp only[List.getElem?_map,gJ]at ad;obtain⟨x,ak,aC⟩:=ad;simp only[jm]at aC;obtain⟨rfl,rfl⟩:=aC;exact U b x ak ag
@[simp] theorem aqz(m:aH)(l:List (Int×Int)):wb m (mX l)=some (cn l.length [] m):=by simp[mX,rC]
def nq(v:Int):ah:= .agg [.int .i64 v,.int .i64 0,.int .i64 0,.str [],.slice 4 .nil []]
@[simp] theorem afe(S:aH→Prop)(l:List Int):aI S (l.map nq)=True:=by
 apply eq_true;induction l with
 |nil=>simp[aI]
 |cons x r bU=>simp only[hf,aI];exact⟨by simp[nq,aB,aI],bU⟩
@[simp] theorem aoG(S:aH→Prop)(v:Int):aB S (nq v)=True:=by simp[nq,aB,aI]
@[simp] theorem aqJ(v:Int):eb (nq v)=true:=rfl
@[simp] theorem amM(v:Int):cells (nq v)=[.int .i64 v,.int .i64 0,.int .i64 0,.str [],.slice 4 .nil []]:=rfl
theorem ajI(v:Int)(f:Nat)(cs:List ah):mw (nq v) f cs= .agg (nI [.int .i64 v,.int .i64 0,.int .i64 0,.str [],.slice 4 .nil []] f cs):=rfl
theorem jL{S:aH→Prop}:∀{a b:List ah},aI S (a++b)↔(aI S a∧aI S b)
 |[],b=>by simp[aI]
 |x::a,b=>by simp[aI,jL (a:=a),and_assoc]
@[simp] theorem aor(S:aH→Prop)(k:Nat)(l:List Int):aI S (nj k (l.map nq))=True:=by rw[←List.map_drop];exact afe S _
@[simp] theorem aoW(S:aH→Prop)(o:aY (List ar)):aB S (gg o)=True:=by simp[gg]
theorem Hn(l:List Int)(v:Int):l.map nq++[.agg [.int .i64 v,.int .i64 0,.int .i64 0,.str [],.slice 4 .nil []]]=(l++[v]).map nq:=by simp[nq]
def aeR(c:bs)(k:Nat)(st:bq):Prop:=∃(seen:List Nat) (xs:List Int),seen.Nodup∧(∀b∈seen,b<c.up.length)∧k=c.up.length-seen.length∧xs=seen.filterMap (fun b=>(c.up[b]?).map (·.1))∧xs.length=seen.length∧st=⟨[(0,az),(4,.gmap (.obj 304)),(17,.ptr (.loc 0) 0)],ay c++[(.obj 304,nX xs),(.loc 0,cn c.up.length seen (.obj 702))],[],1,[.obj 304,.obj 702,.obj 703,.obj 704,.obj 705,.obj 706,.obj 707]⟩
theorem ajT{c:bs}{seen:List Nat}(aP:seen.Nodup)(bD:∀b∈seen,b<c.up.length)(ld:∀b,b<c.up.length→b∈seen):(seen.filterMap fun b=>(c.up[b]?).map (·.1)).Perm (ct c.up):=by have:=LN (l:=ct c.up) aP (by simpa[ct]using bD) (by simpa[ct]using ld);simpa[ct]using this
theorem ajU{c:bs}(aA:(ct c.up).Nodup){seen:List Nat}{b:Nat}(ad:b∉seen){x:Int×Int}(ae:c.up[b]? =some x):x.1∉seen.filterMap fun b=>(c.up[b]?).map (·.1):=by
 intro hm;rw[List.mem_filterMap]at hm;obtain⟨b1,J,U⟩:=hm;obtain⟨y,ao,ba⟩:=gJ.1 U;have ak:(ct c.up)[b]? =some x.1:=by simp[ct,ae]
 have aC:(ct c.up)[b1]? =some x.1:=by simp[ct,ao,ba]
 have bD:=(fi.1 ak).1;have vq:=(fi.1 aC).1;have f1:=(fi.1 ak).2;have f2:=(fi.1 aC).2;rcases Nat.lt_trichotomy b b1 with h|h|h
 ·exact pj.1 aA b b1 bD vq h (f1.trans f2.symm)
 ·subst h;exact ad J
 ·exact pj.1 aA b1 b vq bD h (f2.trans f1.symm)
set_option maxRecDepth 4000 in
theorem acB(n:Nat)(c:bs)(o:aY (List ar))(he:C9 n (qF (ct c.up)) c=some o)(BK:(ct c.up).Nodup)(hlen:c.up.length≤1000000)(bp:l2 c):bN al 219 [az] (aM c) fun r ai=>r=gg o∧∃cr,ai=aM cr:=by
 have ag:=cg c;simp only[aM,ay]at ag⊢;refine bN.mk mixed Wf aad agJ (by simp) ag.obj fun aQ cL=>?_;unfold NT;simp[az];have BG:∀S:aH→Prop,aI S (jC []):=fun S=>mo S [];refine oU (aeR c) c.up.length _ ⟨by simp[fresh,aI,aB,cn,inObs,Pv.look,mo,az,ay,BG],er (by simp[fresh,aI,aB,cn,inObs,Pv.look,mo,az,ay,BG]),et (by simp[fresh,aI,aB,dW,inObs,Pv.look,mo,az,ay,BG]),by simp⟩ ⟨[],[],by simp,by simp,by simp,by simp,by simp,rfl⟩ ?_;rintro k st ⟨seen,xs,aP,bD,ab,h7,j1,rfl⟩ kD cL;clear kD cL;have hle:=Gv aP bD;simp[ay,az];refine YZ (mk:= .obj 702) (seen:=seen) (l:=c.up) (by simp) (by simp) rfl (fun ld=>?_) (fun b x ae ad=>?_);rotate_left
 ·have zg:∀f:aH→aY (List ah),f (.loc 0)=some (cn c.up.length (seen++[b]) (.obj 702))→f (.obj 702)=some (mX c.up)→o6 f (.ptr (.loc 0) 0)=some (True,.tuple [.int .i64 x.1,.int .i64 x.2]):=fun f J U=>afL f (.loc 0) (.obj 702) c.up.length seen b c.up x J U rfl ae;have e5:b<c.up.length:=(fi.1 ae).1;have pI:=LO aP bD e5 ad;have kk:=ajU BK ad ae;rw[←h7]at kk;simp[zg,Hj,kk];refine bO.next (c.up.length-(seen.length+1)) (by omega) ⟨seen++[b],xs++[x.1],KC aP ad,(by simp;intro c au;rcases au with au|rfl;exact bD c au;exact e5),by simp,by rw[List.filterMap_append,←h7];simp[ae],by simp[j1],rfl⟩ ⟨by simp[fresh,aI,aB,cn,inObs,Pv.look,mo,az,ay],er (by simp[fresh,aI,aB,cn,inObs,Pv.look,mo,az,ay]),et (by simp[fresh,aI,aB,dW,inObs,Pv.look,mo,az,ay]),by simp⟩
 ·simp;have vs:=ajT aP bD ld;rw[←h7]at vs;have aeC:xs.length≤1000000:=by omega
  refine c6.ob (acF xs aeC) (MT _) (by simp only[tq];exact aR) (by simp only[tq];exact aR) (by simp[inObs,tq,Pv.look]) ?_;rintro r ai ⟨rfl,rfl⟩;refine⟨Same.refl _,?_⟩;have zn:qE xs=qF (ct c.up):=VN vs;rw[zn];obtain⟨bc,kG⟩:∃bc,bc=qF (ct c.up):=⟨_,rfl⟩;rw[←kG]at he⊢;simp[tq,cz];simp only[C9,mC]at he;obtain⟨res,y8,n7⟩:=he;have iT:bc.length≤1000000:=by rw[kG,(Dc _).length_eq];simpa[ct]using hlen
  refine iA (α:=bs×List Int) (fun i a=>⟨[(0,az),(27,.slice 1 .no (ek bc)),(28,.int .i64 bc.length),(7,.row 5 (.loc 1) a.2.length),(29,.int .i64 i)],ay a.1,[(.loc 1,⟨a.2.length,113,5,some (a.2.map nq)⟩)],2,[.obj 702,.obj 703,.obj 704,.obj 705,.obj 706,.obj 707]⟩) bc.length (fun i a=>rR n (bc.drop i) a.1 a.2=some res∧l2 a.1∧a.2.length≤400) (c,[]) (by simp[az,ay];exact⟨by simp[fresh,aI,aB,cn,inObs,Pv.look,mo,az,ay],er (by simp[fresh,aI,aB,cn,inObs,Pv.look,mo,az,ay]),et (by simp[fresh,aI,aB,dW,inObs,Pv.look,mo,az,ay]),by simp⟩) ⟨by simpa using y8,bp,by simp⟩ ?_ ?_
  ·rintro⟨bH,out⟩ ⟨J,U,ao⟩ ad;simp only at J U ao ad⊢;simp[rR]at J;subst J;simp only[gJ]at n7;obtain⟨⟨L,X2⟩,adk,rfl⟩:=n7;simp[az,ay];refine iA (α:=bs×List ar) (fun j a=>⟨[(0,az),(7,.row 5 (.loc 1) out.length),(71,.int .i64 out.length),(72,.int .i64 j)],ay a.1,[(.loc 1,⟨out.length,113,5,some (a.2.map ar.e++(out.drop j).map nq)⟩)],2,[.obj 702,.obj 703,.obj 704,.obj 705,.obj 706,.obj 707]⟩) out.length (fun j a=>a.2.length=j∧∃rest,yb n (out.drop j) a.1=some (rest,X2)∧a.2++rest=L) (bH,[]) (by simp[az,ay];exact⟨by simp[fresh,aI,aB,cn,inObs,Pv.look,az,ay],er (by simp[fresh,aI,aB,cn,inObs,Pv.look,az,ay]),et (by simp[fresh,aI,aB,dW,inObs,Pv.look,az,ay]),by simp⟩) ⟨rfl,L,by simpa using adk,rfl⟩ ?_ ?_
   ·rintro⟨cl,done⟩ ⟨ba,rest,b2,c7⟩ ad;simp only at ba b2 c7 ad⊢;simp[yb]at b2;obtain⟨rfl,rfl⟩:=b2;simp at c7;subst c7;simp[az,ay,ba];refine cT.at (aM cl) (by simp) (cg _) (Same.keys (by simp[aM,ay]) (by simp[aM,ay])) (by simp only[aM,ay];exact aR) (by simp only[aM,ay];exact aR) ?_;simp[cY,F1,aW,aX,aV,aM,ay,gg];exact⟨cl,by simp⟩
   ·rintro j ⟨cl,done⟩ af ⟨ba,rest,b2,c7⟩ ad;simp only at ba b2 c7 ad⊢;obtain⟨v,aG⟩:∃v,out[j]? =some v:=⟨_,cf af⟩;have aP:out.drop j=v::out.drop (j+1):=by rw[k6 af];rw[cf af]at aG;cases aG;rfl
    rw[aP]at b2;simp only[yb,mC,gJ,jm]at b2;obtain⟨⟨x,c9⟩,ef,⟨t,ig⟩,nx,⟨ajF,anf⟩,sr,rfl,rfl⟩:=b2;simp only at nx sr;have key:=acG n x c9 _ nx;rw[aP];have gW:∀R,(done.map ar.e++nq v::R)[j]? =some (nq v):=fun R=>by rw[List.getElem?_append_right (by simp;omega)];simp[ba]
    have vv:∀R x,(done.map ar.e++nq v::R).set j x=done.map ar.e++x::R:=fun R x=>by rw[List.set_append_right _ _ (by simp;omega)];simp[ba]
    simp[az,ay];(with_reducible repeat' first|refine aj ?_|simp[gW,af]);(refine c6.ob (q3 cl v x c9 ef) (by first|exact cg _|exact cg ‹_› _) (by simp only[aM,ay,az,bV,bY];exact aR) (by simp only[aM,ay,az,bV,bY];exact aR) (by simp[inObs,Pv.look,aM,ay,az]) ?_;rintro r ai ⟨rfl,rfl⟩;refine⟨(Same.keys (by simp[aM,ay,az]) (by simp[aM,ay,az])),?_⟩;simp[cz,aM,ay,az]);(with_reducible repeat' first|refine aj ?_|simp);(refine c6.ob (key) (by first|exact cg _|exact cg ‹_› _) (by simp only[aM,ay,az,bV,bY];exact aR) (by simp only[aM,ay,az,bV,bY];exact aR) (by simp[inObs,Pv.look,aM,ay,az]) ?_;rintro r ai ⟨rfl,rfl⟩;refine⟨(Same.keys (by simp[aM,ay,az]) (by simp[aM,ay,az])),?_⟩;simp[cz,aM,ay,az]);(with_reducible repeat' first|refine aj ?_|refine aD (te _) ?_|refine aE (te _) ?_|simp[gW,vv,af,ajI,-mw]);refine bO.rng (ig,done++[⟨v,t⟩]) af ⟨by simp[ba],ajF,sr,by simpa using c7⟩ ?_;simp[az,ay];exact⟨by simp[fresh,aI,aB,cn,inObs,Pv.look,az,ay,jL],er (by simp[fresh,aI,aB,cn,inObs,Pv.look,az,ay,jL]),et (by simp[fresh,aI,aB,dW,inObs,Pv.look,az,ay,jL]),by simp⟩
  ·rintro i ⟨bH,out⟩ hi ⟨J,U,ao⟩ ad;simp only at J U ao ad⊢;obtain⟨v,aG⟩:∃v,bc[i]? =some v:=⟨_,cf hi⟩;have aP:bc.drop i=v::bc.drop (i+1):=by rw[k6 hi];rw[cf hi]at aG;cases aG;rfl
   rw[aP]at J;simp only[rR,mC]at J;obtain⟨⟨x,cl⟩,ba,⟨f,c9⟩,b2,c7⟩:=J;simp only at b2 c7;obtain⟨z3,key⟩:=acI n x cl _ b2 (U.rt ba);have adA:∀h,(ek bc)[i]'h= .int .i64 v:=fun h=>by rw[cf hi]at aG;simp only[dG]at aG;simp[ek,aG]
   simp[az,ay];(with_reducible repeat' first|refine aj ?_|simp[adA,hi]);(refine c6.ob (q3 bH v x cl ba) (by first|exact cg _|exact cg ‹_› _) (by simp only[aM,ay,az,bV,bY];exact aR) (by simp only[aM,ay,az,bV,bY];exact aR) (by simp[inObs,Pv.look,aM,ay,az]) ?_;rintro r ai ⟨rfl,rfl⟩;refine⟨(Same.keys (by simp[aM,ay,az]) (by simp[aM,ay,az])),?_⟩;simp[cz,aM,ay,az]);(with_reducible repeat' first|refine aj ?_|simp);(refine c6.ob (key) (by first|exact cg _|exact cg ‹_› _) (by simp only[aM,ay,az,bV,bY];exact aR) (by simp only[aM,ay,az,bV,bY];exact aR) (by simp[inObs,Pv.look,aM,ay,az]) ?_;rintro r ai ⟨rfl,rfl⟩;refine⟨(Same.keys (by simp[aM,ay,az]) (by simp[aM,ay,az])),?_⟩;simp[cz,aM,ay,az]);cases f with
   |false=>simp at c7;subst c7;simp at n7;subst n7;(with_reducible repeat' first|refine aj ?_|simp);refine cT.at (aM c9) (by simp) (cg _) (Same.keys (by simp[aM,ay]) (by simp[aM,ay])) (by simp only[aM,ay];exact aR) (by simp only[aM,ay];exact aR) ?_;simp[cY,F1,aW,aX,aV,aM,ay,gg];exact⟨c9,by simp⟩
   |true=>
    simp only[Bool.true_eq_false,if_false]at c7;by_cases au:x=v∧c9.shd x=false
    ·rw[if_pos au]at c7;obtain⟨aeD,jK⟩:=au;subst aeD;have sF:(c3 x c9.shaped).getD false=false:=jK;(with_reducible repeat' first|refine aj ?_|simp[sF]);refine bO.rng (c9,out) hi ⟨c7,z3,ao⟩ ?_;exact⟨by simp[fresh,aI,aB,cn,inObs,Pv.look,az,ay],er (by simp[fresh,aI,aB,cn,inObs,Pv.look,az,ay]),et (by simp[fresh,aI,aB,dW,inObs,Pv.look,az,ay]),by simp⟩
    ·rw[if_neg au]at c7;have RR:(x==v)=false∨((x==v)=true∧(c3 x c9.shaped).getD false=true):=by
      by_cases e:x=v
      ·right;refine⟨by simp[e],?_⟩;cases aC:c9.shd x with
       |false=>exact absurd ⟨e,aC⟩ au
       |true=>exact aC
      ·left;simp[e]
     by_cases av:5000<c9.sz x∨400<out.length+1
     ·rw[if_pos av]at c7;cases c7;simp at n7;subst n7;have nz:(decide (5000<iM c9.size x))=true∨(decide (5000<iM c9.size x)=false∧400<out.length+1):=by
       by_cases e:5000<iM c9.size x
       ·left;simp[e]
       ·right;exact⟨by simp[e],av.resolve_left e⟩
      have zj:True:=trivial;have jy:True:=trivial;rcases RR with bI|⟨bI,zj⟩;all_goals
       rcases nz with br|⟨br,jy⟩
       all_goals
        ((with_reducible repeat' first|refine aj ?_|simp[bI,zj,br,jy]|((first|apply bL|apply bQ|apply bP)<;>intro h<;>try simp at h))<;>(try exact cq))
        refine cT.at (aM c9) (by simp) (cg _) (Same.keys (by simp[aM,ay]) (by simp[aM,ay])) (by simp only[aM,ay];exact aR) (by simp only[aM,ay];exact aR) ?_
        simp[cY,F1,aW,aX,aV,aM,ay,gg]
        exact⟨c9,by simp⟩
     ·rw[if_neg av]at c7;have br:decide (5000<iM c9.size x)=false:=by simp;exact Int.not_lt.1 fun h=>av (.inl h)
      have jy:¬400<out.length+1:=fun h=>av (.inr h);have zj:True:=trivial;rcases RR with bI|⟨bI,zj⟩;all_goals
       ((with_reducible repeat' first|refine aj ?_|simp[bI,zj,br,jy]|((first|apply bL|apply bQ|apply bP)<;>intro h<;>try simp at h))<;>(try exact cq))
       all_goals first|(refine⟨by unfold lim;omega,?_⟩)|skip
       ((with_reducible repeat' first|refine aj ?_|simp[bI,zj,br,jy]|((first|apply bL|apply bQ|apply bP)<;>intro h<;>try simp at h))<;>(try exact cq))
       refine bO.rng (c9,out++[v]) hi ⟨c7,z3,by simp;omega⟩ ?_
       exact⟨by simp[fresh,aI,aB,cn,inObs,Pv.look,az,ay,Hn,jL],er (by simp[fresh,aI,aB,cn,inObs,Pv.look,az,ay,Hn,jL]),et (by simp[fresh,aI,aB,dW,inObs,Pv.look,az,ay,Hn,jL]),by simp⟩
theorem Wb:∀{a b:T},a.tm=b.tm→a=b:=by
 intro a;induction a with
 |pair x y nC pJ=>intro b h;cases b<;>simp[T.tm]at h;rw[nC h.1,pJ h.2]
 |_=>intro b h;cases b<;>simp[T.tm]at h⊢ <;>exact h
def Xp(l:List cI):Prop:= ∃s:List ar,l=s.map ar.b∧j4 s∧hB s∧gi s
def Hb(l:List cI):Prop:= ∃s:List ar,l=s.map ar.b∧j4 s∧fB s∧gi s
theorem Nn:∀{l:List cI},(∀b∈l,b.t.fits=true)→∃s:List ar,l=s.map ar.b∧wX s
 |[],_=>⟨[],rfl,fun b ad=>by simp at ad⟩
 |b::l,h=>by
  obtain⟨s,J,U⟩:=Nn (l:=l) fun c au=>h c (by simp[au]);obtain⟨x,ao,ba⟩:=bT.fits_ex (h b (by simp));refine⟨⟨b.v,x⟩::s,by rw[J];simp[ar.b,ao],fun c au=>?_⟩;rcases fY.1 au with rfl|au
  ·exact ba
  ·exact U c au
theorem tg{l:List cI}:tu l↔Xp l:=by
 constructor
 ·rintro⟨J,U⟩;obtain⟨s,rfl,ado⟩:=Nn (l:=l) fun b ad=>by obtain⟨i,hi,e⟩:=nk ad;exact(U i hi b (by rw[cf hi,e])).2.2
  have Rr:∀b∈s,b.t.ok=true∧b.t.size≤5000:=fun b ad=>by have:=ado b ad;simpa[T.fit]using this
  refine⟨s,rfl,fun b ad=>⟨?_,(Rr b ad).1⟩,?_,by simpa using J,fun b ad=>(Rr b ad).2⟩
  ·obtain⟨i,hi,e⟩:=nk ad;have:=(U i (by simpa using hi) b.b (by simp[cf hi,e])).1;exact this
  ·rw[hB,pj];have jz:∀i (h:i+1<s.length),s[i].v<s[i+1].v:=fun i h=>by have:=(U (i+1) (by simpa using h) s[i+1].b (by simp[cf h])).2.1 s[i].b (by omega) (by simp[cf (show i<s.length by omega)]);exact this
   have:∀(d i:Nat) (h:i+d+1<s.length),s[i].v<s[i+d+1].v:=by
    intro d;induction d with
    |zero=>intro i h;exact jz i h
    |succ d bU=>intro i h;have bC:=bU i (by omega);have a2:=jz (i+d+1) (by omega);simp only[Nat.add_assoc]at bC a2⊢;omega
   intro i j hi af lP;have:=this (j-i-1) i (by omega);simpa[show i+(j-i-1)+1=j from by omega]using this
 ·rintro⟨s,rfl,ax,bt,aJ⟩;refine⟨by simpa using aJ.1,fun i hi b ad=>?_⟩;simp only[List.getElem?_map,gJ]at ad;obtain⟨c,au,rfl⟩:=ad;have hm:=dL au;refine⟨(ax c hm).1,fun d bA aP=>?_,?_⟩
  ·simp only[List.getElem?_map,gJ]at aP;obtain⟨e,he,rfl⟩:=aP;obtain⟨J,ak⟩:=fi.1 he;obtain⟨U,aC⟩:=fi.1 au;have:=pj.1 bt (i-1) i J U (by omega);rw[ak,aC]at this;exact this
  ·show c.t.tm.fits=true;rw[bT.fits_T];simp[T.fit,(ax c hm).2,aJ.2 c hm]
def u6(s:List ar)(v:Int)(f:Bool):Bool:=if 0≤mJ s v then false else f
def l3(s:List ar)(b:ar):Bool:=b.t.fold (u6 s) true&& !(b.t.kind==1&&decide (b.v≤b.t.int))
theorem QC{s:List ar}(bt:hB s)(t:T):∀f:Bool,t.fold (u6 s) f=true↔f=true∧∀w,t.occ w=true→df s w=none:=by
 induction t with
 |var n=>
  intro f;simp only[T.fold,T.occ,dO,u6];have:=QA bt n;by_cases h:0≤mJ s n
  ·rw[if_pos h];constructor
   ·intro h;cases h
   ·rintro⟨_,U⟩;have:=this.2 (U n rfl);omega
  ·rw[if_neg h];exact⟨fun aJ=>⟨aJ,fun w hw=>by subst hw;exact this.1 (by omega)⟩,fun h=>h.1⟩
 |pair a b dS dT=>
  intro f;simp only[T.fold,dS,dT,T.occ,mA];constructor
  ·rintro⟨⟨J,U⟩,ao⟩;exact⟨J,fun w hw=>hw.elim (U w) (ao w)⟩
  ·rintro⟨J,U⟩;exact⟨⟨J,fun w hw=>U w (.inl hw)⟩,fun w hw=>U w (.inr hw)⟩
 |_=>intro f;simp[T.fold,T.occ]
theorem Hp{s:List ar}(bt:hB s)(b:ar):l3 s b=true↔(∀w,b.t.occ w=true→df s w=none)∧∀w,b.t= .var w→w<b.v:=by
 unfold l3;rw[cC,QC bt];simp only[true_and];refine and_congr_right fun _=>?_;constructor
 ·intro h w hw;have ab:(b.t.kind==1)=true:=by rw[hw];rfl
  have hi:b.t.int=w:=by rw[hw];rfl
  rw[ab,hi]at h;simpa using h
 ·intro h;cases ab:(b.t.kind==1)with
  |false=>rfl
  |true=>
   obtain⟨w,hw⟩:∃w,b.t= .var w:=by
    cases e:b.t with
    |var w=>exact⟨w,rfl⟩
    |_=>rw[e]at ab;simp at ab
   have hi:b.t.int=w:=by rw[hw];rfl
   have:=h w hw;rw[hi];simpa using this
theorem VL{s:List ar}(bt:hB s):fB s↔∀b∈s,l3 s b=true:=by
 constructor
 ·intro h b ad;exact(Hp bt b).2 ⟨h.free b ad,h.ori b ad⟩
 ·intro h;exact⟨bt,fun b ad=>((Hp bt b).1 (h b ad)).1,fun b ad=>((Hp bt b).1 (h b ad)).2⟩
def kn{α:Type}(p:α→Bool)(s:List α)(i:Nat)(_:Unit):Prop:= ∀k b,k<i→s[k]? =some b→p b=true
theorem kn.step{α:Type}{p:α→Bool}{s:List α}{i:Nat}(h:kn p s i ()){b:α}(ad:s[i]? =some b)(bI:p b=true):kn p s (i+1) ():=fun k c ab au=>by
 rcases(by omega:k<i∨k=i)with J|rfl
 ·exact h k c J au
 ·rw[ad]at au;cases au;exact bI
open Classical in
noncomputable def gC(l:List cI):Bool:=decide (Hb l)
theorem qH{l:List cI}:gC l=true↔Hb l:=by unfold gC;simp
def ir(f:Bool):cK:=⟨[(.obj 731,[.bool f])],[]⟩
theorem uW(f:Bool):ed (ir f):=by unfold ir;exact ed.of ⟨by intro m;simp[Pv.look],by intro m;simp[Pv.look]⟩ (by simp) (by simp)
theorem Xg(a b:Bool):Same (ir a) (ir b):=Same.keys (by simp[ir]) (by simp[ir])
theorem aca(s:List ar)(av:s.length≤1000000)(v:Int)(f:Bool):bN al 159 [.int .i64 v,.eptr (.slice 5 .no (s.map ar.e)),.ptr (.obj 731) 0] (ir f) fun r ai=>r= .tuple []∧ai=ir (u6 s v f):=by
 have ag:=uW f;simp only[ir]at ag⊢;by_cases h:0≤mJ s v
 ·rw[u6,if_pos h];refine bN.mk mixed qK Qe TU (by simp) ag.obj fun aQ cL=>?_;unfold Hy;simp;(with_reducible repeat' first|refine aj ?_|refine aD (tf s v av) ?_|refine aE (tf s v av) ?_|simp[h]);(refine cT.at (ir false) (by simp) (by first|exact uW _|exact uW ‹_› _) (Same.keys (by simp[ir]) (by simp[ir])) (by simp only[ir,bV,bY];exact aR) (by simp only[ir,bV,bY];exact aR) ?_;simp[cY,K5,aW,aX,aV,inObs,Pv.look,ir])
 ·rw[u6,if_neg h];refine bN.mk mixed qK Qe TU (by simp) ag.obj fun aQ cL=>?_;unfold Hy;simp;(with_reducible repeat' first|refine aj ?_|refine aD (tf s v av) ?_|refine aE (tf s v av) ?_|simp[h]);(refine cT.at (ir f) (by simp) (by first|exact uW _|exact uW ‹_› _) (Same.keys (by simp[ir]) (by simp[ir])) (by simp only[ir,bV,bY];exact aR) (by simp only[ir,bV,bY];exact aR) ?_;simp[cY,K5,aW,aX,aV,inObs,Pv.look,ir])
theorem Mi(l:List cI):bF al 86 [.slice 5 .no (l.map cI.e)] (.bool (gC l)):=by
 have aG:=Ml l;by_cases h:tu l;rotate_left
 ·have bA:gC l=false:=by unfold gC;simp only[gz];rintro⟨s,J,U,ao,ba⟩;exact h (tg.2 ⟨s,J,U,ao.asc,ba⟩)
  rw[bA];refine bm qK Qd TT fun aQ=>?_;unfold Hx;exact b5
 ·obtain⟨s,rfl,ax,bt,aJ⟩:=tg.1 h;have av:s.length≤1000000:=by have:=aJ.1;omega
  have ak:(s.map ar.b).map cI.e=s.map ar.e:=by rw[List.map_map];exact List.map_congr_left fun b _=>ar.b_e b
  have bA:gC (s.map ar.b)=s.all (l3 s):=by
   rw[p3,gh,qH,←VL bt];constructor
   ·rintro⟨ai,J,U,ao,ba⟩;have:ai=s:=by
     have adz:∀a b:List ar,a.map ar.b=b.map ar.b→a=b:=by
      intro a;induction a with
      |nil=>intro b ad;cases b<;>simp at ad⊢
      |cons x a bU=>
       intro b ad;cases b with
       |nil=>simp at ad
       |cons y b=>simp only[hf,p4,ar.b,cI.mk.injEq]at ad;rw[bU b ad.2];have:=Wb ad.1.2;obtain⟨⟨lf,_⟩,_⟩:=ad;cases x;cases y;simp_all
     exact(adz _ _ J).symm
    rw[←this];exact ao
   ·intro ao;exact⟨s,rfl,ax,ao,aJ⟩
  rw[bA];rw[ak]at aG⊢;refine bm qK Qd TT fun aQ=>?_;unfold Hx;simp;(with_reducible repeat' first|refine aj ?_|refine aD aG ?_|refine aE aG ?_|simp[h]);refine iA (α:=Unit) (fun i _=>⟨[(1,.eptr (.slice 5 .no (s.map ar.e))),(9,.slice 5 .no (s.map ar.e)),(10,.int .i64 s.length),(11,.int .i64 i)],[],[],1,[]⟩) s.length (kn (l3 s) s) () bW (fun k b ab=>by omega) (fun _ af _=>?_) (fun i _ hi af _=>?_)
  ·have:s.all (l3 s)=true:=by rw[gh];intro b ad;obtain⟨k,ab,e⟩:=nk ad;exact af k b ab (by rw[cf ab,e])
   rw[this];exact b5
  ·obtain⟨b,lS⟩:∃b,s[i]? =some b:=⟨_,cf hi⟩;have gx:∀h,(s[i]'h)=b:=fun h=>by rw[cf hi]at lS;exact fj lS
   have key:=IE ir uW Xg 159 [.eptr (.slice 5 .no (s.map ar.e)),.ptr (.obj 731) 0] (fun a=>by simp[ir,inObs,Pv.look]) (by simp) (u6 s) (fun v a=>aca s av v a) b.t true;have eS:l3 s b=false→s.all (l3 s)=false:=fun h=>by rw[Bool.eq_false_iff];intro ca;rw[gh]at ca;rw[ca b (dL lS)]at h;cases h
   simp[hi,gx];(with_reducible repeat' first|refine aj ?_|simp[gx,hi]);(refine c6.ob (key) (by first|exact uW _|exact uW ‹_› _) (by simp only[ir,bV,bY];exact aR) (by simp only[ir,bV,bY];exact aR) (by simp[inObs,Pv.look,ir]) ?_;rintro r ai ⟨rfl,rfl⟩;refine⟨(Same.keys (by simp[ir]) (by simp[ir])),?_⟩;simp[cz,ir]);generalize adq:b.t.fold (u6 s) true=sn;have w7:l3 s b=(sn&& !(b.t.kind==1&&decide (b.v≤b.t.int))):=by unfold l3;rw[adq]
   cases sn with
   |false=>rw[eS (by rw[w7];rfl)];exact b5
   |true=>
    cases ab:(b.t.kind==1)with
    |false=>(with_reducible repeat' first|refine aj ?_|simp[ab]);refine bO.rng () hi (af.step lS (by rw[w7,ab];rfl)) ?_;exact bW
    |true=>
     by_cases hle:b.v≤b.t.int
     ·rw[eS (by rw[w7,ab];simp[hle])];exact b5
     ·(with_reducible repeat' first|refine aj ?_|simp[ab,hle]);refine bO.rng () hi (af.step lS (by rw[w7,ab];simp[hle])) ?_;exact bW
@[simp] theorem aoz(S:aH→Prop):aI S (jC [])=True:=eq_true (mo S [])
set_option maxRecDepth 4000 in
theorem acA(n:Nat)(s:List ar)(l r:List T)(av:l.length=r.length)(km:s.length≤1000000)(xj:l.length≤1000000)(o:aY (List ar))(he:Au n (hD s++l.zip r)=some o)
  (hinv:∀c,pz n (hD s++l.zip r) bs.new=some (true,c)→(ct c.up).Nodup∧c.up.length≤1000000∧l2 c):bF al 186 [.slice 5 .no (s.map ar.e),.slice 4 .no (l.map T.e),.slice 4 .no (r.map T.e)] (gg o):=by
 obtain⟨E,dv⟩:∃E,E=hD s++l.zip r:=⟨_,rfl⟩;rw[←dv]at he hinv;simp only[Au,mC]at he;obtain⟨fin,y8,n7⟩:=he;have hlen:E.length=s.length+l.length:=by rw[dv];simp[hD,av]
 have acW:∀i b,s[i]? =some b→E.drop i=(.var b.v,b.t)::E.drop (i+1):=fun i b ad=>by
  have hi:=(fi.1 ad).1;have a1:E[i]? =some (.var b.v,b.t):=by rw[dv,List.getElem?_append_left (by simp[hD];exact hi)];simp[hD,ad]
  rw[k6 (by omega)];rw[cf (by omega)]at a1;simp only[dG]at a1;rw[a1]
 have acV:∀i a b,l[i]? =some a→r[i]? =some b→E.drop (s.length+i)=(a,b)::E.drop (s.length+(i+1)):=fun i a b bt ad=>by
  have hi:=(fi.1 bt).1;have a1:E[s.length+i]? =some (a,b):=by rw[dv,List.getElem?_append_right (by simp[hD])];simp[hD,List.getElem?_zip_eq_some,bt,ad]
  rw[k6 (by omega)];rw[cf (by omega)]at a1;simp only[dG]at a1;rw[a1];rfl
 refine bm Wf aax ag3 fun aQ=>?_;unfold Od;simp;refine c6.new acn (ed.of xP (by simp) (by simp)) (fun k cs h=>by simp[Pv.look]at h) (fun k cs h=>by simp[Pv.look]at h) (by simp) ?_;rintro r0 s0 ⟨rfl,rfl⟩;refine⟨fun m hm=>.inr (by simp),?_⟩;simp[aM,ay,cz,az];refine iA (α:=bs) (fun i c=>⟨[(1,.slice 4 .no (l.map T.e)),(2,.slice 4 .no (r.map T.e)),(8,az),(13,.slice 5 .no (s.map ar.e)),(14,.int .i64 s.length),(15,.int .i64 i)],ay c,[],0,[.obj 702,.obj 703,.obj 704,.obj 705,.obj 706,.obj 707]⟩) s.length (fun i c=>pz n (E.drop i) c=some fin) bs.new (by simp[az,ay];exact⟨by simp[fresh,aI,aB,cn,inObs,Pv.look,az,ay,bs.new],er (by simp[fresh,aI,aB,cn,inObs,Pv.look,az,ay,bs.new]),et (by simp[fresh,aI,aB,dW,inObs,Pv.look,az,ay,bs.new]),by simp⟩) (by simpa using y8) ?_ ?_
 ·rintro c J ad;simp[az,ay];refine iA (α:=bs) (fun i c=>⟨[(1,.slice 4 .no (l.map T.e)),(2,.slice 4 .no (r.map T.e)),(8,az),(37,.int .i64 l.length),(38,.int .i64 i)],ay c,[],0,[.obj 702,.obj 703,.obj 704,.obj 705,.obj 706,.obj 707]⟩) l.length (fun i c=>pz n (E.drop (s.length+i)) c=some fin) c (by simp[az,ay];exact⟨by simp[fresh,aI,aB,cn,inObs,Pv.look,az,ay],er (by simp[fresh,aI,aB,cn,inObs,Pv.look,az,ay]),et (by simp[fresh,aI,aB,dW,inObs,Pv.look,az,ay]),by simp⟩) J ?_ ?_
  ·rintro bH J ad;rw[List.drop_eq_nil_of_le (by omega)]at J;simp[pz]at J;subst J;simp at n7;obtain⟨a6,bE,bX⟩:=hinv bH y8;simp[az,ay];refine c6.ob (acB n bH o n7 a6 bE bX) (cg _) (by simp only[aM,ay];exact aR) (by simp only[aM,ay];exact aR) (by simp[inObs,Pv.look,aM,ay,az]) ?_;rintro r0 s0 ⟨rfl,cr,rfl⟩;refine⟨Same.keys (by simp[aM,ay]) (by simp[aM,ay]),?_⟩;simp[cz,aM,ay,gg];exact b5
  ·rintro i c hi J ad;simp only at J ad⊢;obtain⟨a,bt⟩:∃a,l[i]? =some a:=⟨_,cf hi⟩;obtain⟨b,fP⟩:∃b,r[i]? =some b:=⟨_,cf (by omega)⟩;have mP:∀h,(l[i]'h)=a:=fun h=>by rw[cf hi]at bt;exact fj bt
   have cy:∀h,(r[i]'h)=b:=fun h=>by rw[cf h]at fP;exact fj fP
   have ri:i<r.length:=by omega
   rw[acV i a b bt fP]at J;simp only[pz,mC]at J;obtain⟨bH,U,cl,ao,⟨f,c9⟩,ba,b2⟩:=J;simp only at ba b2;have key:=QL n _ _ _ _ ba;simp[az,ay];(with_reducible repeat' first|refine aj ?_|simp[mP,cy,hi,ri]);(refine c6.ob (IJ c a bH U) (by first|exact cg _|exact cg ‹_› _) (by simp only[aM,ay,az,bV,bY];exact aR) (by simp only[aM,ay,az,bV,bY];exact aR) (by simp[inObs,Pv.look,aM,ay,az]) ?_;rintro r ai ⟨rfl,rfl⟩;refine⟨(Same.keys (by simp[aM,ay,az]) (by simp[aM,ay,az])),?_⟩;simp[cz,aM,ay,az]);(with_reducible repeat' first|refine aj ?_|simp[mP,cy,hi,ri]);(refine c6.ob (IJ bH b cl ao) (by first|exact cg _|exact cg ‹_› _) (by simp only[aM,ay,az,bV,bY];exact aR) (by simp only[aM,ay,az,bV,bY];exact aR) (by simp[inObs,Pv.look,aM,ay,az]) ?_;rintro r ai ⟨rfl,rfl⟩;refine⟨(Same.keys (by simp[aM,ay,az]) (by simp[aM,ay,az])),?_⟩;simp[cz,aM,ay,az]);(with_reducible repeat' first|refine aj ?_|simp[mP,cy,hi,ri]);(refine hZ.ob (key) (by first|exact cg _|exact cg ‹_› _) (by first|exact cg _|exact cg ‹_› _) (Same.keys (by simp[aM,ay,az]) (by simp[aM,ay,az])) (by simp only[aM,ay,az,bV,bY];exact aR) (by simp only[aM,ay,az,bV,bY];exact aR) (by simp[inObs,Pv.look,aM,ay,az]) ?_;simp[cz,aM,ay,az]);cases f with
   |false=>simp at b2;subst b2;simp at n7;subst n7;(with_reducible repeat' first|refine aj ?_|simp);simp[bz,La,aW,aX,aV];simp[gg]
   |true=>simp at b2;(with_reducible repeat' first|refine aj ?_|simp);refine bO.rng c9 hi b2 ?_;simp[az,ay];exact⟨by simp[fresh,aI,aB,cn,inObs,Pv.look,az,ay],er (by simp[fresh,aI,aB,cn,inObs,Pv.look,az,ay]),et (by simp[fresh,aI,aB,dW,inObs,Pv.look,az,ay]),by simp⟩
 ·rintro i c hi J ad;simp only at J ad⊢;obtain⟨b,aG,gx⟩:=dP hi;rw[acW i b aG]at J;simp only[pz,mC]at J;obtain⟨bH,U,cl,ao,⟨f,c9⟩,ba,b2⟩:=J;simp only[zG,T.foldO,gJ]at U;obtain⟨⟨x,Ns⟩,U,rfl⟩:=U;simp only at U ao ba b2;have key:=QL n _ _ _ _ ba;simp[az,ay];(with_reducible repeat' first|refine aj ?_|simp[gx,hi]);(refine c6.ob (q3 c b.v x Ns U) (by first|exact cg _|exact cg ‹_› _) (by simp only[aM,ay,az,bV,bY];exact aR) (by simp only[aM,ay,az,bV,bY];exact aR) (by simp[inObs,Pv.look,aM,ay,az]) ?_;rintro r ai ⟨rfl,rfl⟩;refine⟨(Same.keys (by simp[aM,ay,az]) (by simp[aM,ay,az])),?_⟩;simp[cz,aM,ay,az]);(with_reducible repeat' first|refine aj ?_|simp);(refine c6.ob (IJ Ns b.t cl ao) (by first|exact cg _|exact cg ‹_› _) (by simp only[aM,ay,az,bV,bY];exact aR) (by simp only[aM,ay,az,bV,bY];exact aR) (by simp[inObs,Pv.look,aM,ay,az]) ?_;rintro r ai ⟨rfl,rfl⟩;refine⟨(Same.keys (by simp[aM,ay,az]) (by simp[aM,ay,az])),?_⟩;simp[cz,aM,ay,az]);(with_reducible repeat' first|refine aj ?_|refine aD (jc _) ?_|refine aE (jc _) ?_|simp);(refine hZ.ob (key) (by first|exact cg _|exact cg ‹_› _) (by first|exact cg _|exact cg ‹_› _) (Same.keys (by simp[aM,ay,az]) (by simp[aM,ay,az])) (by simp only[aM,ay,az,bV,bY];exact aR) (by simp only[aM,ay,az,bV,bY];exact aR) (by simp[inObs,Pv.look,aM,ay,az]) ?_;simp[cz,aM,ay,az]);cases f with
  |false=>simp at b2;subst b2;simp at n7;subst n7;(with_reducible repeat' first|refine aj ?_|simp);simp[bz,La,aW,aX,aV];simp[gg]
  |true=>simp at b2;(with_reducible repeat' first|refine aj ?_|simp);refine bO.rng c9 hi b2 ?_;simp[az,ay];exact⟨by simp[fresh,aI,aB,cn,inObs,Pv.look,az,ay],er (by simp[fresh,aI,aB,cn,inObs,Pv.look,az,ay]),et (by simp[fresh,aI,aB,dW,inObs,Pv.look,az,ay]),by simp⟩
theorem alS(s:List ar)(l r:List T)(av:l.length=r.length)(ag:fB s)(aJ:gi s)(ax:j4 s)(xj:l.length≤1000000)(J:∀t∈l,t.ok=true)(U:∀t∈r,t.ok=true):
  bF al 186 [.slice 5 .no (s.map ar.e),.slice 4 .no (l.map T.e),.slice 4 .no (r.map T.e)] (gg (mgu s (l.zip r))):=by
 have dv:∀e∈hD s++l.zip r,e.1.ok=true∧e.2.ok=true:=fun e he=>by
  rcases ky.1 he with he|he
  ·obtain⟨b,ad,rfl⟩:=iP.1 he;have:=ax b ad;exact⟨by simpa[T.ok]using this.1,this.2⟩
  ·exact⟨J _ (List.of_mem_zip he).1,U _ (List.of_mem_zip he).2⟩
 have bA:KD (hD s++l.zip r):=fun e he v aG=>by
  rcases aG with aG|aG
  ·exact(wy (dv e he).1 aG).1
  ·exact(wy (dv e he).2 aG).1
 obtain⟨n,o,a6,bE,bX⟩:=akh _ bA;rw[rG (Xn.1 bE)];refine acA n s l r av (by have:=aJ.1;omega) xj o a6 fun c au=>?_;obtain⟨bC,a2,a3⟩:=bX c au;have:=SK bC fun v aG=>by
  obtain⟨e,he,aG⟩:=a2 v aG;rcases aG with aG|aG
  ·exact wy (dv e he).1 aG
  ·exact wy (dv e he).2 aG
 refine⟨bC,by simp[ct]at this;omega,fun x=>?_⟩;simp[bs.sz,a3,c3]
structure eD (s:List ar):Prop where
 ok:j4 s
 sol:fB s
 fits:gi s
theorem eD.len{s:List ar}(h:eD s):s.length≤1000000:=by have:=h.fits.1;omega
theorem eD.fit{s:List ar}(h:eD s):wX s:=fun b ad=>by simp[T.fit,(h.ok b ad).2,h.fits.2 b ad]
theorem eD.mgu{s:List ar}(h:eD s){E:List (T×T)}(dv:∀e∈E,e.1.ok=true∧e.2.ok=true){ai:List ar}(hm:mgu s E=some ai):eD ai:=⟨afU h.sol h.fits h.ok dv hm,(zH h.sol h.fits hm).1,(zH h.sol h.fits hm).2⟩
theorem rD(s:List ar):(s.map ar.b).map cI.e=s.map ar.e:=by rw[List.map_map];exact List.map_congr_left fun b _=>ar.b_e b
theorem pd{s:List ar}(h:eD s):bF al 86 [.slice 5 .no (s.map ar.e)] (.bool true):=by have:=Mi (s.map ar.b);rw[rD,qH.2 ⟨s,rfl,h.ok,h.sol,h.fits⟩]at this;exact this
def ae6(t:List ar)(i:Nat)(p:List T×List T):Prop:=p.1=(t.take i).map (fun b=>T.var b.v)∧p.2=(t.take i).map (·.t)
theorem alh(t:List ar)(aO:t.length≤1000000):bF al 205 [.slice 5 .no (t.map ar.e)] (.tuple [.slice 4 .no ((t.map fun b=>T.var b.v).map T.e),.slice 4 .no ((t.map (·.t)).map T.e)]):=by
 generalize bf:((t.map fun b=>T.var b.v).map T.e)=R1;generalize ki:((t.map fun x=>x.t).map T.e)=R2;have gp:∀S:aH→Prop,aI S R1=True:=fun S=>by rw[←bf];exact SV S _
 have kU:∀S:aH→Prop,aI S R2=True:=fun S=>by rw[←ki];exact SV S _
 refine bF.mk mixed qK aai agO (by simp) (by simp[aB,gp,kU]) fun aQ=>?_;unfold NY;simp;refine iA (α:=List T×List T) (fun i p=>⟨[(10,.slice 5 .no (t.map ar.e)),(11,.int .i64 t.length),(4,.slice 4 (.own (.loc 0)) (p.1.map T.e)),(5,.slice 4 (.own (.loc 1)) (p.2.map T.e)),(12,.int .i64 i)],[],[(.loc 0,⟨p.1.length,30,4,none⟩),(.loc 1,⟨p.2.length,30,4,none⟩)],2,[]⟩) t.length (ae6 t) ([],[]) bW ⟨by simp,by simp⟩ (fun p af _=>?_) (fun i p hi af _=>?_)
 ·obtain⟨A,B⟩:=p;obtain⟨bg,jt⟩:=af;simp only at bg jt⊢;rw[hz (eR _)]at bg jt;rw[←bf,←ki,←bg,←jt];simp;(with_reducible repeat' first|refine aj ?_|simp);simp[bz,UH,aW,aX,aV]
 ·obtain⟨A,B⟩:=p;obtain⟨bg,jt⟩:=af;simp only at bg jt⊢;obtain⟨b,aG,gx⟩:=dP hi;have vw:t.take (i+1)=t.take i++[b]:=by rw[List.take_succ,aG];rfl
  have acT:A.length≤1000000:=by rw[bg];simp;omega
  have acU:B.length≤1000000:=by rw[jt];simp;omega
  simp[hi,gx];((with_reducible repeat' first|refine aj ?_|refine aD (jc _) ?_|refine aE (jc _) ?_|simp[gx,hi]|((first|apply bL|apply bQ|apply bP)<;>intro h<;>try simp at h))<;>(try exact cq));all_goals first|(refine⟨by unfold lim;omega,?_⟩)|skip
  (with_reducible repeat' first|refine aj ?_|simp);all_goals first|(refine⟨by unfold lim;omega,?_⟩)|skip
  (with_reducible repeat' first|refine aj ?_|simp);refine bO.rng (A++[.var b.v],B++[b.t]) hi ⟨by rw[vw,bg];simp,by rw[vw,jt];simp⟩ ?_;simp;exact⟨by simp[fresh,aI,aB,cn,inObs,Pv.look,jL],er (by simp[fresh,aI,aB,cn,inObs,Pv.look,jL]),et (by simp[fresh,aI,aB,dW,inObs,Pv.look,jL]),by simp⟩
theorem akW{s t:List ar}(ag:eD s)(aO:eD t):bF al 165 [.slice 5 .no (s.map ar.e),.slice 5 .no (t.map ar.e)] (gg (mgu s (hD t))):=by
 have bp:(t.map fun b=>T.var b.v).zip (t.map (·.t))=hD t:=by rw[hD,List.zip_map']
 have key:=alS s (t.map fun b=>T.var b.v) (t.map (·.t)) (by simp) ag.sol ag.fits ag.ok (by simpa using aO.len) (fun x ae=>by
  obtain⟨b,ad,rfl⟩:=iP.1 ae;have:=aO.ok b ad;simpa[T.ok]using this.1) (fun x ae=>by
  obtain⟨b,ad,rfl⟩:=iP.1 ae;exact(aO.ok b ad).2)
 rw[bp]at key;have heq:=alh t aO.len;generalize (t.map fun b=>T.var b.v)=A at key heq;generalize (t.map fun x=>x.t)=B at key heq;refine bm qK ZV agr fun aQ=>?_;unfold NA;simp;(with_reducible repeat' first|refine aj ?_|refine aD (pd ag) ?_|refine aE (pd ag) ?_|refine aD (pd aO) ?_|refine aE (pd aO) ?_|refine aD heq ?_|refine aE heq ?_|refine aD key ?_|refine aE key ?_|simp);simp[bz,Uu,aW,aX,aV];simp[gg]
theorem qI{α:Type}{t:List α}{i:Nat}{b:α}(aG:t[i]? =some b):t.take (i+1)=t.take i++[b]:=by rw[List.take_succ,aG];rfl
def gy(s t:List ar):List ar:=t.filter fun b=>(df s b.v).isNone
def qx(s t:List ar)(i:Nat)(out:List ar):Prop:=out=gy s (t.take i)
theorem ak1{s t:List ar}(ag:eD s)(aO:eD t):bF al 166 [.slice 5 .no (s.map ar.e),.slice 5 .no (t.map ar.e)] (.slice 5 .no ((gy s t).map ar.e)):=by
 have aep:=aO.len;generalize bf:gy s t=R;refine bm qK Z0 agw fun aQ=>?_;unfold NG;simp;(with_reducible repeat' first|refine aj ?_|refine aD (pd ag) ?_|refine aE (pd ag) ?_|refine aD (pd aO) ?_|refine aE (pd aO) ?_|simp);refine iA (α:=List ar) (fun i out=>⟨[(0,.slice 5 .no (s.map ar.e)),(17,.slice 5 .no (t.map ar.e)),(18,.int .i64 t.length),(5,.slice 5 (.own (.loc 0)) (out.map ar.e)),(19,.int .i64 i)],[],[(.loc 0,⟨out.length,113,5,none⟩)],1,[]⟩) t.length (qx s t) [] bW (by simp[qx,gy]) (fun out af _=>?_) (fun i out hi af _=>?_)
 ·rw[qx,hz (eR _),bf]at af;rw[←af];exact b5
 ·obtain⟨b,aG,gx⟩:=dP hi;have BP:out.length≤1000000:=by
   have:out.length≤(t.take i).length:=by rw[af];exact List.length_filter_le _ _
   simp at this;omega
  have qp:=QA ag.sol.asc b.v;simp[hi,gx];by_cases ad:mJ s b.v<0
  ·(with_reducible repeat' first|refine aj ?_|refine aD (tf s b.v ag.len) ?_|refine aE (tf s b.v ag.len) ?_|refine aD (te _) ?_|refine aE (te _) ?_|simp[gx,hi,ad]);all_goals first|(refine⟨by unfold lim;omega,?_⟩)|skip
   (with_reducible repeat' first|refine aj ?_|simp);refine bO.rng (out++[b]) hi (by rw[qx,qI aG,gy,List.filter_append,af];simp[gy,qp.1 ad]) ?_;simp;exact⟨by simp[fresh,aI,aB,cn,inObs,Pv.look,jL],er (by simp[fresh,aI,aB,cn,inObs,Pv.look,jL]),et (by simp[fresh,aI,aB,dW,inObs,Pv.look,jL]),by simp⟩
  ·(with_reducible repeat' first|refine aj ?_|refine aD (tf s b.v ag.len) ?_|refine aE (tf s b.v ag.len) ?_|simp[gx,hi,ad]);refine bO.rng out hi (by
    have:df s b.v≠none:=fun e=>ad (qp.2 e);rw[qx,qI aG,gy,List.filter_append,af];cases e:df s b.v with
    |none=>exact absurd e this
    |some x=>simp[gy,e]) ?_
   exact bW
def Fa(t:List ar)(i:Nat)(out:List ar):Prop:=out=t.take i
theorem Ws(t:List ar)(aO:t.length≤1000000):bF al 168 [.slice 5 .no (t.map ar.e)] (.slice 5 .no (t.map ar.e)):=by
 refine bm qK aag agM fun aQ=>?_;unfold NW;simp;refine iA (α:=List ar) (fun i out=>⟨[(7,.slice 5 .no (t.map ar.e)),(8,.int .i64 t.length),(3,.slice 5 (.own (.loc 0)) (out.map ar.e)),(9,.int .i64 i)],[],[(.loc 0,⟨out.length,113,5,none⟩)],1,[]⟩) t.length (Fa t) [] bW (by simp[Fa]) (fun out af _=>?_) (fun i out hi af _=>?_)
 ·rw[Fa,hz (eR _)]at af;subst af;exact b5
 ·obtain⟨b,aG,gx⟩:=dP hi;have BP:out.length≤1000000:=by rw[af];simp;omega
  simp[hi,gx];(with_reducible repeat' first|refine aj ?_|refine aD (te _) ?_|refine aE (te _) ?_|simp[gx,hi]);all_goals first|(refine⟨by unfold lim;omega,?_⟩)|skip
  (with_reducible repeat' first|refine aj ?_|simp);refine bO.rng (out++[b]) hi (by rw[Fa,qI aG,af]) ?_;simp;exact⟨by simp[fresh,aI,aB,cn,inObs,Pv.look,jL],er (by simp[fresh,aI,aB,cn,inObs,Pv.look,jL]),et (by simp[fresh,aI,aB,dW,inObs,Pv.look,jL]),by simp⟩
def rF(t:List ar)(b:ar):Bool:=decide (bR t b.v=b.t.ap (bR t))
def mY(s t:List ar):Bool:=s.all (rF t)
theorem C5{t:List ar}(aO:eD t)(v:Int):(bR t v).size≤5000:=by
 unfold bR;cases e:df t v with
 |none=>simp[T.size]
 |some x=>exact aO.fits.2 _ (jI e)
theorem WE(s:List ar){t:List ar}(ag:s.length≤1000000)(aO:eD t):bF al 208 [.slice 5 .no (s.map ar.e),.slice 5 .no (t.map ar.e)] (.bool (mY s t)):=by
 refine bm qK aan agT fun aQ=>?_;unfold N3;simp;refine dI [1,11,12] (fun i (_:Unit)=>[(13,.int .i64 i)]) s.length (kn (rF t) s) () bW (fun k b ab=>by omega) (fun _ af _=>?_) (fun i _ hi af _=>?_)
 ·have:mY s t=true:=by rw[mY,gh];intro b ad;obtain⟨k,ab,e⟩:=nk ad;exact af k b ab (by rw[cf ab,e])
  rw[this];exact b5
 ·obtain⟨b,aG,gx⟩:=dP hi;have eS:rF t b=false→mY s t=false:=fun h=>by rw[Bool.eq_false_iff];intro ca;rw[mY,gh]at ca;rw[ca b (dL aG)]at h;cases h
  have aU:=yk t (.var b.v) aO.len aO.sol.asc aO.fit;have bG:=yk t b.t aO.len aO.sol.asc aO.fit;have xy:=C5 aO b.v;have E3:((T.var b.v).ap (bR t)).size≤5000:=xy;rw[if_pos E3,hA E3]at aU;rw[show(T.var b.v).ap (bR t)=bR t b.v from rfl]at aU;simp[hi,gx];by_cases bp:(b.t.ap (bR t)).size≤5000
  ·rw[if_pos bp,hA bp]at bG;by_cases he:bR t b.v=b.t.ap (bR t)
   ·rw[he]at aU;(with_reducible repeat' first|refine aj ?_|refine aD (jc _) ?_|refine aE (jc _) ?_|refine aD aU ?_|refine aE aU ?_|refine aD bG ?_|refine aE bG ?_|refine aD (qL _ _) ?_|refine aE (qL _ _) ?_|simp[gx,hi,he]);exact bO.rng () hi (af.step aG (by simp[rF,he])) bW
   ·rw[eS (by simp[rF,he])];(with_reducible repeat' first|refine aj ?_|refine aD (jc _) ?_|refine aE (jc _) ?_|refine aD aU ?_|refine aE aU ?_|refine aD bG ?_|refine aE bG ?_|refine aD (qL _ _) ?_|refine aE (qL _ _) ?_|simp[gx,hi,he]);simp[bz,K7,aW,aX,aV]
  ·rw[if_neg bp,iq bp]at bG;rw[eS (by simp only[rF,gz];intro e;rw[←e]at bp;exact bp xy)];(with_reducible repeat' first|refine aj ?_|refine aD (jc _) ?_|refine aE (jc _) ?_|refine aD aU ?_|refine aE aU ?_|refine aD bG ?_|refine aE bG ?_|refine aD (qL _ _) ?_|refine aE (qL _ _) ?_|simp[gx,hi]);simp[bz,K7,aW,aX,aV]
theorem Ci(c:ar→ar→Int):∀a b:List ar,a=[]∨b=[]→jN c a b=ev a.length b.length
 |[],[],_=>by simp[jN,ev]
 |[],_::_,_=>by simp[jN,ev]<;>omega
 |_::_,[],_=>by simp[jN,ev]<;>omega
 |_::_,_::_,h=>by simp at h
theorem Ub(x y:ar)(xs ys:List ar):eu (x::xs) (y::ys)=if ev x.v y.v=0 then(if ep x.t y.t=0 then eu xs ys else ep x.t y.t)else ev x.v y.v:=by
 by_cases a6:ev x.v y.v=0
 ·by_cases bE:ep x.t y.t=0<;>simp[eu,jN,xW,a6,bE]
 ·simp[eu,jN,xW,a6]
theorem Uc(a b k:Int):ev (a-k) (b-k)=ev a b:=by unfold ev;(repeat' split)<;>omega
def JQ(d e:List ar)(i:Nat):Prop:=i≤d.length∧i≤e.length∧eu (d.drop i) (e.drop i)=eu d e
theorem GU(d e:List ar):bF al 207 [.slice 5 .no (d.map ar.e),.slice 5 .no (e.map ar.e)] (.int .i64 (eu d e)):=by
 generalize bf:eu d e=R;refine bm qK aaq agW fun aQ=>?_;unfold N6;have aP:d.length≤68719476736:=by simp[ez,dZ,eo,lim]at aQ;omega
 have he:e.length≤68719476736:=by simp[ez,dZ,eo,lim]at aQ;omega
 simp;refine u9 [0,1] (fun(i:Nat)=>[(5,.int .i64 i)]) (fun i=>d.length-i) (JQ d e) 0 bW ⟨by omega,by omega,by simp⟩ (fun i af _=>?_);obtain⟨J,U,ao⟩:=af;rw[bf]at ao;by_cases hi:i<d.length
 ·by_cases hv:i<e.length
  ·obtain⟨x,ae⟩:∃x,d[i]? =some x:=⟨_,cf hi⟩;obtain⟨y,aL⟩:∃y,e[i]? =some y:=⟨_,cf hv⟩;have cE:∀h,(d[i]'h)=x:=fun h=>by rw[cf hi]at ae;exact fj ae
   have eG:∀h,(e[i]'h)=y:=fun h=>by rw[cf hv]at aL;exact fj aL
   have y6:d.drop i=x::d.drop (i+1):=by rw[k6 hi,cE]
   have y7:e.drop i=y::e.drop (i+1):=by rw[k6 hv,eG]
   rw[y6,y7]at ao;rw[Ub]at ao;simp[hi,hv,cE,eG];by_cases a6:ev x.v y.v=0
   ·rw[if_pos a6]at ao;by_cases bE:ep x.t y.t=0
    ·rw[if_pos bE]at ao;(with_reducible repeat' first|refine aj ?_|refine aD (nN _ _) ?_|refine aE (nN _ _) ?_|refine aD (AF _ _) ?_|refine aE (AF _ _) ?_|simp[cE,eG,hi,hv,a6,bE]);refine bO.whl (i+1) (by omega) ⟨by omega,by omega,by rw[bf];exact ao⟩ ?_;exact bW
    ·rw[if_neg bE]at ao;((with_reducible repeat' first|refine aj ?_|refine aD (nN _ _) ?_|refine aE (nN _ _) ?_|refine aD (AF _ _) ?_|refine aE (AF _ _) ?_|simp[cE,eG,hi,hv,a6,bE]|((first|apply bL|apply bQ|apply bP)<;>intro h<;>try simp at h))<;>(try exact cq));simp[bz,CP,aW,aX,aV];exact ao
   ·rw[if_neg a6]at ao;((with_reducible repeat' first|refine aj ?_|refine aD (nN _ _) ?_|refine aE (nN _ _) ?_|simp[cE,eG,hi,hv,a6]|((first|apply bL|apply bQ|apply bP)<;>intro h<;>try simp at h))<;>(try exact cq));simp[bz,CP,aW,aX,aV];exact ao
  ·have:ev d.length e.length=R:=by rw[←ao,eu,Ci _ _ _ (.inr (List.drop_eq_nil_of_le (by omega)))];rw[←Uc d.length e.length i];simp only[r7];congr 1<;>omega
   simp[hi,hv];(with_reducible repeat' first|refine aj ?_|refine aD (nN _ _) ?_|refine aE (nN _ _) ?_|simp[hi,hv]);simp[bz,CP,aW,aX,aV];exact this
 ·have:ev d.length e.length=R:=by rw[←ao,eu,Ci _ _ _ (.inl (List.drop_eq_nil_of_le (by omega)))];rw[←Uc d.length e.length i];simp only[r7];congr 1<;>omega
  simp[hi];(with_reducible repeat' first|refine aj ?_|refine aD (nN _ _) ?_|refine aE (nN _ _) ?_|simp[hi]);simp[bz,CP,aW,aX,aV];exact this
theorem Wt(a b:List ar)(bt:a.length≤1000000):bF al 169 [.slice 5 .no (a.map ar.e),.slice 5 .no (b.map ar.e)] (.bool (decide (a=b))):=by
 by_cases av:a.length=b.length;rotate_left
 ·have bA:decide (a=b)=false:=by simp only[gz];rintro rfl;exact av rfl
  have sB:((a.length:Int) !=(b.length:Int))=true:=by simp;omega
  have nz:¬(a.length:Int)=b.length:=by omega
  rw[bA];refine bm qK Qi TY fun aQ=>?_;unfold HC;exact b5
 ·generalize bf:decide (a=b)=R;refine bm qK Qi TY fun aQ=>?_;unfold HC;simp;(with_reducible repeat' first|refine aj ?_|simp[av]);refine dI [0,1,12] (fun i (_:Unit)=>[(13,.int .i64 i)]) b.length (fun i (_:Unit)=> ∀k,k<i→a[k]? =b[k]?) () bW (fun k ab=>by omega) (fun _ af _=>?_) (fun i _ hi af _=>?_)
  ·have:R=true:=by
    rw[←bf,fk];apply List.ext_getElem?;intro k;by_cases ab:k<b.length
    ·exact af k ab
    ·rw[p5 (by omega),p5 (by omega)]
   rw[this];exact b5
  ·obtain⟨x,ae⟩:∃x,a[i]? =some x:=⟨_,cf (by omega)⟩;obtain⟨y,aL⟩:∃y,b[i]? =some y:=⟨_,cf hi⟩;have ga:i<a.length:=by omega
   have cE:∀h,(a[i]'h)=x:=fun h=>by rw[cf ga]at ae;exact fj ae
   have eG:∀h,(b[i]'h)=y:=fun h=>by rw[cf hi]at aL;exact fj aL
   have eS:x≠y→R=false:=fun h=>by rw[←bf,gz];rintro rfl;rw[ae]at aL;cases aL;exact h rfl
   simp[hi,ga,cE,eG];by_cases a6:x.v=y.v
   ·have sW:(x.v !=y.v)=false:=by simp[a6]
    by_cases bE:x.t=y.t
    ·(with_reducible repeat' first|refine aj ?_|refine aD (qL _ _) ?_|refine aE (qL _ _) ?_|simp[cE,eG,hi,ga,a6,sW,bE]);refine bO.rng () hi (fun k ab=>?_) ?_
     ·rcases(by omega:k<i∨k=i)with h|rfl
      ·exact af k h
      ·rw[ae,aL];cases x;cases y;simp_all
     ·exact bW
    ·rw[eS (fun e=>bE (by rw[e]))];(with_reducible repeat' first|refine aj ?_|refine aD (qL _ _) ?_|refine aE (qL _ _) ?_|simp[cE,eG,hi,ga,a6,sW,bE]);simp[bz,UF,aW,aX,aV]
   ·have sW:(x.v !=y.v)=true:=by simp[a6]
    rw[eS (fun e=>a6 (by rw[e]))];exact b5
def iG(l:List (List ar))(e:List ar):Bool:=l.all fun d=>decide (d=e)|| !mY d e
theorem afa{l aZ:List (List ar)}(h:∀x,x∈l↔x∈aZ)(e:List ar):iG l e=iG aZ e:=by rw[p3,iG,iG,gh,gh];exact⟨fun J x ae=>J x ((h x).2 ae),fun J x ae=>J x ((h x).1 ae)⟩
def kH(l:List (List ar)):List (List ar):=(asc eu l).filter (iG l)
theorem zI{l:List (List ar)}{x:List ar}:x∈kH l↔x∈l∧iG l x=true:=by rw[kH,nl,Tv]
theorem TC(l:List (List ar)):hH eu (kH l):=(Hm lz l).filter _
theorem TD{l aZ:List (List ar)}(bt:hH eu aZ)(hm:∀x,x∈aZ↔x∈l∧iG l x=true):kH l=aZ:=(TC l).ext lz bt fun x=>by rw[hm,zI]
structure dN where
 n:Int
 b:List ar
 d:List (List ar)
 k:List bJ
 m:List bj
 deriving DecidableEq,Inhabited
noncomputable def gF(b:List ar)(k:List bJ)(m:List bj):List (List ar)→aY (List (List ar))
 |[]=>some []
 |d::r=>match mgu b (hD d)with
  |none=>gF b k m r
  |some x=>if fW x k []=none∨fX x m []=none then gF b k m r else if gy b x=[]then none else(gF b k m r).map (gy b x:: ·)
def ks(k:List bJ)(x:bj):Bool:=kZ k x.v !=some 3
noncomputable def nf(s:dN):aY dN:=match fW s.b s.k []with
 |none=>none
 |some k=>match fX s.b s.m []with
  |none=>none
  |some m=>match gF s.b k (m.filter (ks k)) s.d with
   |none=>none
   |some L=>if(kH L).length≤30 then some ⟨s.n,s.b,kH L,k,m.filter (ks k)⟩else none
def wM(t:T)(n:Int):Prop:= ∀v,t.occ v=true→v<n
def pt(l:List ar)(n:Int):Prop:= ∀b∈l,b.v<n∧wM b.t n
structure uP (s:dN):Prop where
 n:0≤s.n∧s.n≤100000
 b:eD s.b
 d:∀x∈s.d,eD x
 k:iW s.k
 m:ik s.m
 bb:pt s.b s.n
 db:∀x∈s.d,pt x s.n
 kb:∀x∈s.k,x.v<s.n
 mb:∀x∈s.m,x.v<s.n
def GF(s:dN):Prop:=uP s∧nf s=some s
theorem Ao{s:List ar}(ag:eD s){v:Int}(aG:0≤v∧v≤100000):(bR s v).ok=true:=by have:=Gw ag.ok (t:= .var v) (by simpa[T.ok]using aG);exact this
theorem Gf{s:List ar}(ag:eD s):∀{l acc a:List bJ},(∀x∈l,(0≤x.v∧x.v≤100000)∧(x.k=2∨x.k=3))→iW acc→fW s l acc=some a→iW a
 |[],acc,a,_,h,he=>by simp only[fW,dG]at he;rw[←he];exact h
 |x::r,acc,a,av,h,he=>by
  simp only[fW]at he;split at he
  ·rename_i bC ak;have ae:=av x (by simp);exact Gf ag (fun y aL=>av y (by simp[aL])) (Hf h (Ao ag ae.1) ae.2 ak) he
  ·cases he
theorem Gg{s:List ar}(ag:eD s):∀{l acc a:List bj},(∀x∈l,(0≤x.v∧x.v≤100000)∧jA x.s=true)→ik acc→fX s l acc=some a→ik a
 |[],acc,a,_,h,he=>by simp only[fX,dG]at he;rw[←he];exact h
 |x::r,acc,a,av,h,he=>by
  simp only[fX]at he;split at he
  ·rename_i bC ak;have ae:=av x (by simp);exact Gg ag (fun y aL=>av y (by simp[aL])) (Hh h (Ao ag ae.1) ae.2 ak) he
  ·cases he
def nJ(G:List (List dz))(l:List bj):Prop:= ∀x∈l,x.s∈G
theorem Hi{G:List (List dz)}{l aZ:List bj}{t:T}{s:List dz}(h:nJ G l)(ag:s∈G)(he:lI l t s=some aZ):nJ G aZ:=fun x ae=>by
 rcases(Cp he x).1 ae with J|⟨J,_⟩
 ·exact h x J
 ·rw[J];exact ag
theorem Lt{G:List (List dz)}{s:List ar}:∀{l acc a:List bj},nJ G l→nJ G acc→fX s l acc=some a→nJ G a
 |[],acc,a,_,h,he=>by simp only[fX,dG]at he;rw[←he];exact h
 |x::r,acc,a,av,h,he=>by
  simp only[fX]at he;split at he
  ·rename_i bC ak;exact Lt (fun y aL=>av y (by simp[aL])) (Hi h (av x (by simp)) ak) he
  ·cases he
theorem ais{α:Type}[DecidableEq α]:∀{G:List α} {l:List (Nat×α)},l.Nodup→(∀x∈l,x.1<100001∧x.2∈G)→l.length≤100001*G.length:=by
 intro G l aA h;have:=MK aA (l₂:=(List.range 100001).flatMap fun i=>G.map fun g=>(i,g)) (fun x ae=>by obtain⟨J,U⟩:=h x ae;rw[List.mem_flatMap];exact⟨x.1,List.mem_range.2 J,iP.2 ⟨x.2,U,rfl⟩⟩)
 have e:((List.range 100001).flatMap fun i=>G.map fun g=>(i,g)).length=100001*G.length:=by
  generalize 100001=n;induction n with
  |zero=>simp
  |succ n bU=>rw[List.range_succ,List.flatMap_append,pf,bU];simp[Nat.succ_mul]
 omega
theorem Cn{G:List (List dz)}{l:List bj}(h:ik l)(a1:nJ G l):l.length≤100001*G.length:=by
 have J:(l.map fun x=>(x.v.toNat,x.s)).Nodup:=by rw[List.nodup_iff_pairwise_ne,List.pairwise_map];refine amq (fun{a b} bt ad cF e=>cF ?_) (h.asc.nodup lA);have:=(h.at' a bt).1;have:=(h.at' b ad).1;simp only[jm]at e;cases a;cases b;simp only[bj.mk.injEq];simp only at*;exact⟨by omega,e.2⟩
 have:=ais (G:=G) J fun x ae=>by obtain⟨y,aL,rfl⟩:=iP.1 ae;have:=(h.at' y aL).1;exact⟨by simp;omega,a1 y aL⟩
 simpa using this
def s8(m:List bj):Prop:= ∃G:List (List dz),G.length≤687000∧nJ G m
theorem s8.len{m:List bj}(h:s8 m)(hm:ik m):m.length≤68719470000:=by obtain⟨G,J,U⟩:=h;have:=Cn hm U;omega
theorem s8.of{m:List bj}(h:m.length≤687000):s8 m:=⟨m.map (·.s),by simpa using h,fun _ ae=>List.mem_map_of_mem ae⟩
theorem ajR{s:List ar}(h:eD s)(p:ar→Bool):eD (s.filter p):=by
 have mU:∀b∈s.filter p,b∈s:=fun b ad=>(nl.1 ad).1;have aA:∀w,df s w=none→df (s.filter p) w=none:=fun w hw=>by rw[uZ]at hw⊢;exact fun b ad=>hw b (mU b ad)
 exact⟨fun b ad=>h.ok b (mU b ad),⟨W0 p h.sol.asc,fun b ad w hw=>aA w (h.sol.free b (mU b ad) w hw),fun b ad=>h.sol.ori b (mU b ad)⟩,
  j8 (List.length_filter_le _ _) h.fits.1,fun b ad=>h.fits.2 b (mU b ad)⟩
theorem FG{b x:List ar}(h:eD x):eD (gy b x):=ajR h _
theorem agi{b x:List ar}(ad:fB b)(ae:fB x)(aJ:gi x)(h:∀aN,gL x aN→gL b aN):iw b (hD (gy b x)) (some x):=by
 refine⟨⟨ae,aJ⟩,fun aN=>⟨fun hk=>⟨h aN hk,fun e he=>?_⟩,fun⟨J,U⟩ c au=>?_⟩⟩
 ·obtain⟨c,au,rfl⟩:=iP.1 he;exact hk c (nl.1 au).1
 ·have kk:∀c∈x,df b c.v=none→aN c.v=c.t.ap aN:=fun c au aA=>by have:=U (.var c.v,c.t) (iP.2 ⟨c,nl.2 ⟨au,by simp[aA]⟩,rfl⟩);exact this
  have xe:∀w,df b w=none→(bR x w).ap aN=aN w:=fun w hw=>by
   unfold bR;cases e:df x w with
   |none=>rfl
   |some t=>have hm:=jI e;exact(kk _ hm hw).symm
  cases e:df b c.v with
  |none=>exact kk c au e
  |some t=>
   have ak:aN c.v=t.ap aN:=J _ (jI e);have aC:=h (bR x) (yc ae) _ (jI e);simp only at aC;have bk:bR x c.v=c.t:=by unfold bR;rw[tA ae.asc au];rfl
   rw[bk]at aC;rw[ak,aC,AU];exact tx fun w hw=>(xe w (ad.free _ (jI e) w hw)).symm
theorem afW{s:List ar}(ag:fB s)(aJ:gi s){E:List (T×T)}{x:List ar}(h:mgu s E=some x):∀aN,gL x aN↔gL s aN∧jr E aN:=by have:=FD ag aJ E;rw[h]at this;exact this.2
theorem afT{s:List ar}(ag:fB s)(aJ:gi s){E:List (T×T)}{x:List ar}(h:mgu s E=some x):mgu s (hD (gy s x))=some x:=rG (agi ag (zH ag aJ h).1 (zH ag aJ h).2 fun aN hk=>((afW ag aJ h aN).1 hk).1)
theorem afV(p:Int→Prop){E:List (T×T)}:∀{s ai:List ar},fB s→gi s→(∀b∈s,p b.v∧∀w,b.t.occ w=true→p w)→(∀e∈E,(∀w,e.1.occ w=true→p w)∧∀w,e.2.occ w=true→p w)→mgu s E=some ai→∀b∈ai,p b.v∧∀w,b.t.occ w=true→p w:=by
 induction E with
 |nil=>intro s ai ag aJ J _ h;rw[Kt ag aJ]at h;cases h;exact J
 |cons e E bU=>
  intro s ai ag aJ J U h;rw[Ks ag aJ]at h;split at h
  ·rename_i s1 ak;obtain⟨V,jY⟩:∃V,V=s.flatMap (fun b=>b.v::ni b.t)++ni e.1++ni e.2:=⟨_,rfl⟩;have Q7:∀w∈V,p w:=by
    intro w hw;rw[jY]at hw;simp only[ky,List.mem_flatMap,fY]at hw;rcases hw with(⟨b,ad,rfl|hw⟩|hw)|hw
    ·exact(J b ad).1
    ·exact(J b ad).2 w (Dn.1 hw)
    ·exact(U e (by simp)).1 w (Dn.1 hw)
    ·exact(U e (by simp)).2 w (Dn.1 hw)
   obtain⟨n,o,iL,jl,pZ⟩:=Wh V _ _ s e.1 e.2 ag aJ (fun c au=>⟨by rw[jY];simp only[ky,List.mem_flatMap];exact .inl (.inl ⟨c,au,by simp⟩),fun w hw=>by rw[jY];simp only[ky,List.mem_flatMap];exact .inl (.inl ⟨c,au,by simp[xM hw]⟩)⟩)
    (fun w hw=>by rw[jY];simp only[ky];exact .inl (.inr (xM hw))) (fun w hw=>by rw[jY];simp only[ky];exact .inr (xM hw)) rfl rfl
   have yj:=rG jl;rw[ak]at yj;subst yj;obtain⟨Wg,_⟩:=pZ s1 rfl;have o3:=zH ag aJ ak;exact bU o3.1 o3.2 (fun b ad=>⟨Q7 _ (Wg b ad).1,fun w hw=>Q7 w ((Wg b ad).2 w hw)⟩) (fun fG he=>U fG (by simp[he])) h
  ·cases h
theorem ajY{s:List ar}(ag:fB s){v n:Int}(h:bR s v= .var n):df s n=none:=by have:=LQ ag (t:= .var v) (w:=n) (by show(bR s v).occ n=true;rw[h];simp[T.occ]);exact this
theorem MX{l aZ:List bJ}{t:T}{k:Int}(h:ka l t k=some aZ):∀x∈aZ,x∈l∨t= .var x.v:=by
 unfold ka at h;split at h
 ·rename_i n;split at h
  ·split at h
   ·cases h;exact fun x ae=>.inl ae
   ·cases h
  ·cases h;intro x ae;rcases FC.1 ae with rfl|ae
   ·exact .inr rfl
   ·exact .inl ae
 ·split at h
  ·cases h;exact fun x ae=>.inl ae
  ·cases h
theorem Vc{s:List ar}(ag:fB s):∀{l acc a:List bJ},(∀x∈acc,df s x.v=none)→fW s l acc=some a→∀x∈a,df s x.v=none
 |[],acc,a,h,he=>by simp only[fW,dG]at he;rw[←he];exact h
 |y::r,acc,a,h,he=>by
  simp only[fW]at he;split at he
  ·rename_i bC ak;refine Vc ag (fun x ae=>?_) he;rcases MX ak x ae with J|J
   ·exact h x J
   ·exact ajY ag J
  ·cases he
theorem Sn{x:bJ}:∀{l:List bJ},(∀y∈l,y.v<x.v)→lv x l=l++[x]
 |[],_=>rfl
 |y::l,h=>by simp only[lv,if_pos (h y (by simp)),Sn (l:=l) fun z bp=>h z (by simp[bp]),bV]
theorem Vd{s:List ar}:∀{l acc:List bJ},(acc++l).Pairwise (fun x y=>x.v<y.v)→(∀x∈l,df s x.v=none)→fW s l acc=some (acc++l)
 |[],acc,_,_=>by simp[fW]
 |x::r,acc,bt,aJ=>by
  have J:∀y∈acc,y.v<x.v:=fun y aL=>(List.pairwise_append.1 bt).2.2 y aL x (by simp);have U:kZ acc x.v=none:=xF.2 fun y aL=>by have:=J y aL;omega
  have ao:ka acc (bR s x.v) x.k=some (acc++[x]):=by rw[Am (aJ x (by simp))];simp only[ka,U];rw[Sn J]
  simp only[fW,ao];rw[Vd (by simpa using bt) fun y aL=>aJ y (by simp[aL])];simp
theorem Vf{s:List ar}(ag:fB s):∀{l acc a:List bj},(∀x∈acc,df s x.v=none)→fX s l acc=some a→∀x∈a,df s x.v=none
 |[],acc,a,h,he=>by simp only[fX,dG]at he;rw[←he];exact h
 |y::r,acc,a,h,he=>by
  simp only[fX]at he;split at he
  ·rename_i bC ak;refine Vf ag (fun x ae=>?_) he;rcases(Cp ak x).1 ae with J|⟨_,J⟩
   ·exact h x J
   ·exact LQ ag (t:= .var y.v) J
  ·cases he
theorem Vg{s:List ar}:∀{l acc:List bj},hH e7 (acc++l)→(∀x∈l,df s x.v=none)→fX s l acc=some (acc++l)
 |[],acc,_,_=>by simp[fX]
 |x::r,acc,bt,aJ=>by
  have ao:lI acc (bR s x.v) x.s=some (acc++[x]):=by
   rw[Am (aJ x (by simp))];refine Hg rfl (arN ?_ bt) fun z=>?_
   ·simp
   ·simp only[ky,List.mem_singleton,T.occ,dO];refine or_congr_right ⟨fun h=>by rw[h];exact⟨rfl,rfl⟩,fun⟨J,U⟩=>?_⟩;cases z;cases x;simp_all
  simp only[fX,ao];rw[Vg (by simpa using bt) fun y aL=>aJ y (by simp[aL])];simp
def Dd(b:List ar)(k:List bJ)(m:List bj)(d:List ar):Prop:= ∃x,mgu b (hD d)=some x∧¬(fW x k []=none∨fX x m []=none)∧gy b x=d∧d≠[]
theorem Ft{b:List ar}(ad:eD b){k:List bJ}{m:List bj}:∀{l L:List (List ar)},gF b k m l=some L→∀d∈L,Dd b k m d
 |[],L,h=>by simp only[gF,dG]at h;rw[←h];simp
 |d0::r,L,h=>by
  simp only[gF]at h;split at h
  ·exact Ft ad h
  ·rename_i x ae;split at h
   ·exact Ft ad h
   ·rename_i ab;split at h
    ·cases h
    ·rename_i aA;rw[gJ]at h;obtain⟨MR,J,rfl⟩:=h;intro d aP;rcases fY.1 aP with rfl|aP
     ·exact⟨x,afT ad.sol ad.fits ae,ab,rfl,aA⟩
     ·exact Ft ad J d aP
theorem Tb{b:List ar}{k:List bJ}{m:List bj}:∀{L:List (List ar)},(∀d∈L,Dd b k m d)→gF b k m L=some L
 |[],_=>rfl
 |d::L,h=>by obtain⟨x,J,U,ao,ba⟩:=h d (by simp);simp only[gF,J,if_neg U,ao,if_neg ba,Tb (L:=L) fun e he=>h e (by simp[he]),nQ]
theorem Fs{b:List ar}(ad:eD b){k:List bJ}{m:List bj}:∀{l L:List (List ar)},(∀d∈l,eD d)→gF b k m l=some L→∀d∈L,eD d
 |[],L,_,h=>by simp only[gF,dG]at h;rw[←h];simp
 |d0::r,L,av,h=>by
  simp only[gF]at h;split at h
  ·exact Fs ad (fun d aP=>av d (by simp[aP])) h
  ·rename_i x ae;split at h
   ·exact Fs ad (fun d aP=>av d (by simp[aP])) h
   ·split at h
    ·cases h
    ·rw[gJ]at h;obtain⟨MR,J,rfl⟩:=h;intro d aP;rcases fY.1 aP with rfl|aP
     ·exact FG (ad.mgu (fun e he=>by obtain⟨c,au,rfl⟩:=iP.1 he;have:=(av d0 (by simp)).ok c au;exact⟨by simpa[T.ok]using this.1,this.2⟩) ae)
     ·exact Fs ad (fun d aP=>av d (by simp[aP])) J d aP
theorem Fq{b:List ar}(ad:eD b){n:Int}(aA:pt b n){k:List bJ}{m:List bj}:∀{l L:List (List ar)},(∀d∈l,pt d n)→gF b k m l=some L→∀d∈L,pt d n
 |[],L,_,h=>by simp only[gF,dG]at h;rw[←h];simp
 |d0::r,L,av,h=>by
  simp only[gF]at h;split at h
  ·exact Fq ad aA (fun d aP=>av d (by simp[aP])) h
  ·rename_i x ae;split at h
   ·exact Fq ad aA (fun d aP=>av d (by simp[aP])) h
   ·split at h
    ·cases h
    ·rw[gJ]at h;obtain⟨MR,J,rfl⟩:=h;intro d aP;rcases fY.1 aP with rfl|aP
     ·have:=afV (fun v=>v<n) ad.sol ad.fits aA (fun e he=>by obtain⟨c,au,rfl⟩:=iP.1 he;have:=av d0 (by simp) c au;exact⟨fun w hw=>by simp[T.occ]at hw;subst hw;exact this.1,this.2⟩) ae
      exact fun c au=>this c (nl.1 au).1
     ·exact Fq ad aA (fun d aP=>av d (by simp[aP])) J d aP
theorem afZ{L:List (List ar)}:kH (kH L)=kH L:=TD (TC L) fun x=>by rw[zI,and_assoc];refine⟨fun⟨J,U⟩=>⟨J,U,?_⟩,fun⟨J,U,_⟩=>⟨J,U⟩⟩;rw[iG,gh]at U⊢;exact fun d aP=>U d (zI.1 aP).1
theorem SC{b:List ar}(ad:eD b){n:Int}(aA:pt b n){v w:Int}(aG:v<n)(h:(bR b v).occ w=true):w<n:=by
 unfold bR at h;cases e:df b v with
 |none=>rw[e]at h;simp[T.occ]at h;omega
 |some t=>rw[e]at h;exact(aA _ (jI e)).2 w h
theorem Vb{b:List ar}(ad:eD b){n:Int}(aA:pt b n):∀{l acc a:List bJ},(∀x∈l,x.v<n)→(∀x∈acc,x.v<n)→fW b l acc=some a→∀x∈a,x.v<n
 |[],acc,a,_,h,he=>by simp only[fW,dG]at he;rw[←he];exact h
 |y::r,acc,a,av,h,he=>by
  simp only[fW]at he;split at he
  ·rename_i bC ak;refine Vb ad aA (fun x ae=>av x (by simp[ae])) (fun x ae=>?_) he;rcases MX ak x ae with J|J
   ·exact h x J
   ·exact SC ad aA (av y (by simp)) (by rw[J];simp[T.occ])
  ·cases he
theorem Ve{b:List ar}(ad:eD b){n:Int}(aA:pt b n):∀{l acc a:List bj},(∀x∈l,x.v<n)→(∀x∈acc,x.v<n)→fX b l acc=some a→∀x∈a,x.v<n
 |[],acc,a,_,h,he=>by simp only[fX,dG]at he;rw[←he];exact h
 |y::r,acc,a,av,h,he=>by
  simp only[fX]at he;split at he
  ·rename_i bC ak;refine Ve ad aA (fun x ae=>av x (by simp[ae])) (fun x ae=>?_) he;rcases(Cp ak x).1 ae with J|⟨_,J⟩
   ·exact h x J
   ·exact SC ad aA (av y (by simp)) J
  ·cases he
theorem ajV{s ai:dN}(h:uP s)(he:nf s=some ai):GF ai∧ai.n=s.n∧ai.b=s.b:=by
 unfold nf at he;split at he
 ·cases he
 rename_i k ab;split at he
 ·cases he
 rename_i m hm;split at he
 ·cases he
 rename_i L ju;split at he;rotate_left
 ·cases he
 rename_i lb;cases he;have aU:=Gf h.b h.k.at' ⟨by simp,by simp⟩ ab;have m1:=Gg h.b h.m.at' ⟨by simp,by simp[hH]⟩ hm;have m2:ik (m.filter (ks k)):=⟨fun x ae=>m1.at' x (nl.1 ae).1,W0 _ m1.asc⟩;have da:=Ft h.b ju;have xu:=Fs h.b h.d ju;refine⟨⟨⟨h.n,h.b,fun x ae=>xu x (zI.1 ae).1,aU,m2,h.bb,fun x ae=>Fq h.b h.bb h.db ju x (zI.1 ae).1,Vb h.b h.bb h.kb (by simp) ab,fun x ae=>Ve h.b h.bb h.mb (by simp) hm x (nl.1 ae).1⟩,?_⟩,rfl,rfl⟩;unfold nf;have ak:fW s.b k []=some k:=Vd (acc:=[]) aU.asc (Vc h.b.sol (by simp) ab);have aC:fX s.b (m.filter (ks k)) []=some (m.filter (ks k)):=Vg (acc:=[]) m2.asc fun x ae=>Vf h.b.sol (by simp) hm x (nl.1 ae).1;have bk:(m.filter (ks k)).filter (ks k)=m.filter (ks k):=by rw[List.filter_filter];simp
 have dc:gF s.b k (m.filter (ks k)) (kH L)=some (kH L):=Tb fun d aP=>da d (zI.1 aP).1;simp only[ak,aC,bk,dc,afZ,if_pos lb]
theorem sN{α:Type}{s:List α}{i:Nat}{t:α}(h:s[i]? =some t):s.drop i=t::s.drop (i+1):=by obtain⟨hi,e⟩:=fi.1 h;rw[k6 hi,e]
def pU(L:List (List ar))(a:List (List ar))(e:List ar):List (List ar):=if iG L e=true then j2 eu e a else a
theorem Ku{L:List (List ar)}:∀(xs:List (List ar)) {a:List (List ar)},hH eu a→hH eu (xs.foldl (pU L) a)
 |[],_,h=>h
 |x::xs,a,h=>Ku xs (a:=pU L a x) (by unfold pU;split<;>first|exact JL lz h|exact h)
theorem TF{L:List (List ar)}{x:List ar}:∀(xs:List (List ar)) {a:List (List ar)},x∈xs.foldl (pU L) a↔x∈a∨(x∈xs∧iG L x=true)
 |[],a=>by simp
 |y::xs,a=>by
  rw[List.foldl_cons,TF xs,fY];unfold pU;by_cases ab:iG L y=true
  ·rw[if_pos ab,FB lz];constructor
   ·rintro((rfl|h)|h)
    ·exact .inr ⟨.inl rfl,ab⟩
    ·exact .inl h
    ·exact .inr ⟨.inr h.1,h.2⟩
   ·rintro(h|⟨rfl|J,U⟩)
    ·exact .inl (.inr h)
    ·exact .inl (.inl rfl)
    ·exact .inr ⟨J,U⟩
  ·rw[if_neg ab];constructor
   ·rintro(h|h)
    ·exact .inl h
    ·exact .inr ⟨.inr h.1,h.2⟩
   ·rintro(h|⟨rfl|J,U⟩)
    ·exact .inl h
    ·exact absurd U ab
    ·exact .inr ⟨J,U⟩
theorem TE{L:List (List ar)}:∀(xs a:List (List ar)),(xs.foldl (pU L) a).length≤a.length+xs.length
 |[],a=>by simp
 |y::xs,a=>by
  have J:=TE (L:=L) xs (pU L a y);have U:(pU L a y).length≤a.length+1:=by
   unfold pU;split
   ·exact JN _ _
   ·omega
  simp only[List.foldl_cons,p6];omega
theorem af1(L:List (List ar)):kH L=L.foldl (pU L) []:=TD (Ku L (by simp[hH])) fun x=>by rw[TF];simp
def xD(L:List (List ar))(i:Nat)(a:List (List ar)):Prop:=a=(L.take i).foldl (pU L) []
theorem xD.step{L:List (List ar)}{i:Nat}{a:List (List ar)}(h:xD L i a){e:List ar}(he:L[i]? =some e):xD L (i+1) (pU L a e):=by rw[xD,qI he,List.foldl_append,h];rfl
def vK(e d:List ar):Bool:=decide (d=e)|| !mY d e
def pL(L:List (List ar))(e:List ar)(j:Nat)(k:Bool):Prop:=k=(L.take j).all (vK e)
theorem pL.step{L:List (List ar)}{e:List ar}{j:Nat}{k:Bool}(h:pL L e j k){d:List ar}(aP:L[j]? =some d):pL L e (j+1) (k&&vK e d):=by rw[pL,qI aP,List.all_append,h];simp
def Fb(a:List (List ar))(e:List ar)(k:Nat):Prop:=k≤a.length∧∀c,a[k]? =some c→0≤eu c e
theorem Fb.fin{a:List (List ar)}{e:List ar}{k:Nat}(h:Fb a e k)(bt:hH eu a)(au:∀d,0<k→a[k-1]? =some d→eu d e<0):j2 eu e a=if(match a[k]? with|some y=>decide (eu y e=0)|none=>false)=true then a else a.take k++e::a.drop k:=
 (JM lz e a k (fun i c hi jZ=>by
  have ab:=h.1;obtain⟨d,aP⟩:∃d,a[k-1]? =some d:=⟨_,cf (by omega)⟩;have J:=au d (by omega) aP;rcases Nat.lt_or_ge i (k-1)with U|U
  ·have sx:=(fi.1 jZ);have ma:=(fi.1 aP);have:=pj.1 bt i (k-1) sx.1 ma.1 U;rw[sx.2,ma.2]at this;exact lz.ltr this (by omega)
  ·have:i=k-1:=by omega
   subst this;rw[aP]at jZ;cases jZ;exact J) h.2 h.1).trans (by cases a[k]?<;>rfl)
theorem SF(L:List (List ar))(e:List ar):iG L e=L.all (vK e):=rfl
theorem VO{l:List (List ar)}{x:List ar}:x∈oy eu l↔x∈l:=(yd eu l).mem_iff
theorem af0(l:List (List ar)):kH l=(cG none (oy eu l)).filter (iG (oy eu l)):=by have h:iG l=iG (oy eu l):=funext fun e=>afa (fun x=>VO.symm) e;rw[kH,h];rfl
def ml(s:List (List ar))(i:Nat)(acc:List (List ar)):Prop:=acc++(cG (if i=0 then none else s[i-1]?) (s.drop i)).filter (iG s)=(cG none s).filter (iG s)
def qO:dN:=⟨0,[],[],[],[]⟩
noncomputable def Al(s:dN):dN:=match fW s.b s.k []with
 |none=>qO
 |some k=>match fX s.b s.m []with
  |none=>qO
  |some m=>match gF s.b k (m.filter (ks k)) s.d with
   |none=>qO
   |some L=>⟨s.n,s.b,kH L,k,m.filter (ks k)⟩
theorem ajW{s ai:dN}(h:nf s=some ai):Al s=ai:=by
 unfold nf at h;unfold Al;cases J:fW s.b s.k []with
 |none=>rw[J]at h;cases h
 |some k=>
  rw[J]at h;simp only at h⊢;cases U:fX s.b s.m []with
  |none=>rw[U]at h;cases h
  |some m=>
   rw[U]at h;simp only at h⊢;cases ao:gF s.b k (m.filter (ks k)) s.d with
   |none=>rw[ao]at h;cases h
   |some L=>
    rw[ao]at h;simp only at h⊢;split at h
    ·cases h;rfl
    ·cases h
theorem Xr{k:List bJ}(ab:iW k)(v:Int):(ka k (.var v) 2).isSome=(kZ k v !=some 3):=by
 unfold ka;simp only;cases h:kZ k v with
 |none=>simp
 |some x=>have:=(ab.at' _ (SM h)).2;simp only at this;rcases this with rfl|rfl<;>simp
theorem Xv{k:List bJ}(bt:k.Pairwise fun x y=>x.v<y.v)(v:Int):(k.any fun x=>x.v==v&&x.k==3)=(kZ k v==some 3):=by
 rw[p3,List.any_eq_true,dO];constructor
 ·rintro⟨x,ae,h⟩;simp only[cC,dO]at h;have:=Fj bt ae;rw[h.1,h.2]at this;exact this
 ·intro h;exact⟨_,SM h,by simp⟩
theorem J8{b:List ar}{k:List bJ}{m:List bj}{d:List ar}{r:List (List ar)}(h:mgu b (hD d)=none):gF b k m (d::r)=gF b k m r:=by rw[gF,h]
theorem J7{b:List ar}{k:List bJ}{m:List bj}{d x:List ar}{r:List (List ar)}(h:mgu b (hD d)=some x)(ab:fW x k []=none∨fX x m []=none):gF b k m (d::r)=gF b k m r:=by rw[gF,h];simp only[if_pos ab]
theorem J6{b:List ar}{k:List bJ}{m:List bj}{d x:List ar}{r:List (List ar)}(h:mgu b (hD d)=some x)(ab:¬(fW x k []=none∨fX x m []=none))(aA:gy b x=[]):gF b k m (d::r)=none:=by rw[gF,h];simp only[if_neg ab,if_pos aA]
theorem J9{b:List ar}{k:List bJ}{m:List bj}{d x:List ar}{r:List (List ar)}(h:mgu b (hD d)=some x)(ab:¬(fW x k []=none∨fX x m []=none))(aA:gy b x≠[]):gF b k m (d::r)=(gF b k m r).map (gy b x:: ·):=by rw[gF,h];simp only[if_neg ab,if_neg aA]
def pM(b:List ar)(k:List bJ)(m:List bj)(D:List (List ar))(i:Nat)(a:List (List ar)):Prop:=a.length≤i∧(∀x∈a,eD x)∧(gF b k m (D.drop i)).map (a++ ·)=gF b k m D
def iy(n:Int):T→Bool
 | .var v=>decide (v<n)
 | .pair a b=>iy n a&&iy n b
 |_=>true
theorem Ht{n:Int}:∀{t:T},iy n t=true↔wM t n
 | .var v=>by simp[iy,wM,T.occ]
 | .pair a b=>by simp only[iy,cC,Ht (t:=a),Ht (t:=b),wM,T.occ,mA];exact⟨fun h v aG=>aG.elim (h.1 v) (h.2 v),fun h=>⟨fun v aG=>h v (.inl aG),fun v aG=>h v (.inr aG)⟩⟩
 | .nil=>by simp[iy,wM,T.occ]
 | .sym _=>by simp[iy,wM,T.occ]
 | .num _=>by simp[iy,wM,T.occ]
def kC(n:Int)(b:ar):Bool:=decide (b.v<n)&&iy n b.t
theorem u0{n:Int}{s:List ar}:s.all (kC n)=true↔pt s n:=by simp[gh,kC,pt,Ht]
def rZ(v m:Int):Int:=if m<v+1 then v+1 else m
theorem Mx{n:Int}:∀(t:T) (m:Int),t.fold rZ m≤n↔m≤n∧iy n t=true
 | .var v,m=>by simp only[T.fold,rZ,iy,fk];split<;>omega
 | .pair a b,m=>by simp only[T.fold,Mx b,Mx a,iy,cC,and_assoc]
 | .nil,m=>by simp[T.fold,iy]
 | .sym _,m=>by simp[T.fold,iy]
 | .num _,m=>by simp[T.fold,iy]
def Dq(v m:Int):aY Int:=if 0≤v∧v≤100000 then some (rZ v m)else none
theorem Mw:∀(t:T) (m:Int),t.ok=true→t.foldO Dq m=some (t.fold rZ m)
 | .var v,m,h=>by
  have:0≤v∧v≤100000:=by simpa[T.ok]using h
  simp[T.foldO,T.fold,Dq,this]
 | .pair a b,m,h=>by
  have J:a.ok=true∧b.ok=true:=by simpa[T.ok]using h
  simp[T.foldO,T.fold,Mw a m J.1,Mw b _ J.2]
 | .nil,m,_=>rfl
 | .sym _,m,_=>rfl
 | .num _,m,_=>rfl
structure h2 where
 n:Int
 b:List cI
 d:List (List cI)
 k:List bJ
 m:List bj
def dN.r(s:dN):h2:=⟨s.n,s.b.map ar.b,s.d.map fun x=>x.map ar.b,s.k,s.m⟩
def rT(r:h2):Prop:= ∃s:dN,r=s.r∧GF s
def jX(n:Int)(x:List cI):Prop:= ∃s:List ar,x=s.map ar.b∧eD s∧pt s n
structure Lr (r:h2):Prop where
 n:0≤r.n∧r.n≤100000
 b:jX r.n r.b
 d:∀x∈r.d,jX r.n x
 k:iW r.k
 m:ik r.m
 kb:∀x∈r.k,x.v<r.n
 mb:∀x∈r.m,x.v<r.n
theorem rT.raw{r:h2}(h:rT r):Lr r:=by obtain⟨s,rfl,J,_⟩:=h;exact⟨J.n,⟨s.b,rfl,J.b,J.bb⟩,fun x ae=>by obtain⟨y,aL,rfl⟩:=iP.1 ae;exact⟨y,rfl,J.d y aL,J.db y aL⟩,J.k,J.m,J.kb,J.mb⟩
theorem ps:∀{a b:List ar},a.map ar.b=b.map ar.b→a=b
 |[],b,h=>by cases b<;>simp at h⊢
 |x::a,[],h=>by simp at h
 |x::a,y::b,h=>by simp only[hf,p4,ar.b,cI.mk.injEq]at h;rw[ps h.2];have:=Wb h.1.2;obtain⟨⟨J,_⟩,_⟩:=h;cases x;cases y;simp_all
theorem Nf:∀{a b:List (List ar)},(a.map fun x=>x.map ar.b)=(b.map fun x=>x.map ar.b)→a=b
 |[],b,h=>by cases b<;>simp at h⊢
 |x::a,[],h=>by simp at h
 |x::a,y::b,h=>by rw[hf,hf,p4]at h;rw[Nf h.2,ps h.1]
theorem dN.r_inj{s t:dN}(h:s.r=t.r):s=t:=by obtain⟨n,b,d,k,m⟩:=s;obtain⟨n',b1,cc,bK,hn⟩:=t;simp only[dN.r,h2.mk.injEq]at h;obtain⟨J,U,ao,ba,b2⟩:=h;rw[J,ps U,Nf ao,ba,b2]
theorem PU{n:Int}:∀{d:List (List cI)},(∀x∈d,jX n x)→∃D:List (List ar),d=(D.map fun x=>x.map ar.b)∧(∀x∈D,eD x)∧∀x∈D,pt x n
 |[],_=>⟨[],rfl,by simp,by simp⟩
 |x::d,h=>by
  obtain⟨D,J,U,ao⟩:=PU (d:=d) fun y aL=>h y (by simp[aL]);obtain⟨s,ak,aC,bk⟩:=h x (by simp);refine⟨s::D,by rw[J,ak];rfl,fun y aL=>?_,fun y aL=>?_⟩
  ·rcases fY.1 aL with rfl|aL
   ·exact aC
   ·exact U y aL
  ·rcases fY.1 aL with rfl|aL
   ·exact bk
   ·exact ao y aL
theorem VQ{s:dN}(h:uP s):rT s.r↔nf s=some s:=by
 constructor
 ·rintro⟨t,e,_,U⟩;rw[dN.r_inj e];exact U
 ·intro U;exact⟨s,rfl,h,U⟩
theorem wj{l:List cI}:Hb l↔∃s:List ar,l=s.map ar.b∧eD s:=⟨fun⟨s,J,U,ao,ba⟩=>⟨s,J,U,ao,ba⟩,fun⟨s,J,U⟩=>⟨s,J,U.ok,U.sol,U.fits⟩⟩
def qX{α:Type}(a b:List α)(i:Nat)(_:Unit):Prop:= ∀k,k<i→a[k]? =b[k]?
theorem qX.fin{α:Type}{a b:List α}(h:qX a b b.length ())(av:a.length=b.length):a=b:=by
 apply List.ext_getElem?;intro k;by_cases ab:k<b.length
 ·exact h k ab
 ·rw[p5 (by omega),p5 (by omega)]
theorem qX.step{α:Type}{a b:List α}{i:Nat}(h:qX a b i ()){x:α}(bt:a[i]? =some x)(ad:b[i]? =some x):qX a b (i+1) ():=fun k ab=>by
 rcases(by omega:k<i∨k=i)with J|rfl
 ·exact h k J
 ·rw[bt,ad]
def rA{α:Type}(p:α→Prop)(s:List α)(i:Nat)(_:Unit):Prop:= ∀k b,k<i→s[k]? =some b→p b
theorem rA.step{α:Type}{p:α→Prop}{s:List α}{i:Nat}(h:rA p s i ()){b:α}(ad:s[i]? =some b)(bI:p b):rA p s (i+1) ():=fun k c ab au=>by
 rcases(by omega:k<i∨k=i)with J|rfl
 ·exact h k c J au
 ·rw[ad]at au;cases au;exact bI
theorem rA.fin{α:Type}{p:α→Prop}{s:List α}(h:rA p s s.length ()):∀b∈s,p b:=fun b ad=>by obtain⟨k,ab,e⟩:=nk ad;exact h k b ab (by rw[cf ab,e])
def NB:C:=(aa [be 2 false] (.seq (aa [I 5 0,cb 6 5,bS 7 0] (fe 8 7 6 (.seq (.block 1 (aa [I 9 7,cj 10 2 5 7,a7 11 2 10,cU (.alloc 4 none (.agg [.int .i64 0,.int .i64 0])),I 3 9,bM 2 4 11] (.seq (.drawn true 46 [aF 12 0 1 4,aw 13 1 12,aT 14 .lss 13 0,I 15 14,aq 15 false (aF 16 0 1 4),aq 15 false (aw 17 1 16),aq 15 false (aT 18 .gtr 17 100000),c2 19 15 18,I 20 19,aq 20 false (aF 21 1 1 4),aq 20 false (aw 22 1 21),aq 20 false (aT 23 .neq 22 2),bZ 20 false 24 23,aq 24 true (aF 25 1 1 4),aq 24 true (aw 26 1 25),aq 24 true (aT 27 .neq 26 3),aq 20 false (dy 28 24 27),c2 29 20 28,I 30 29,bZ 30 false 31 3,aq 30 false (aT 32 .gtr 31 0),bZ 30 false 33 32,bZ 33 true 34 0,bZ 33 true 35 3,aq 33 true (aT 36 .sub 35 1),aq 33 true (cj 37 2 34 36),aq 33 true (aF 38 0 1 37),aq 33 true (aw 39 1 38),aq 33 true (aF 40 0 1 4),aq 33 true (aw 41 1 40),aq 33 true (bh 42 .geq 39 41),aq 30 false (dy 43 33 42),c2 44 30 43]) (aS 44 (aa [be 2 false] .ret) .skip)))) (.region [aT 45 .add 7 1,I 7 45])))) (aa [be 2 true] .ret)))
@[simp] def Uv:List bu:=[.tmp 2]
def NC:C:=(aa [be 2 false] (.seq (aa [I 5 0,cb 6 5,bS 7 0] (fe 8 7 6 (.seq (.block 1 (aa [I 9 7,cj 10 2 5 7,a7 11 2 10,cU (.alloc 4 none (.agg [.int .i64 0,.str []])),I 3 9,bM 2 4 11] (.seq (.drawn true 41 [aF 12 0 1 4,aw 13 1 12,aT 14 .lss 13 0,I 15 14,aq 15 false (aF 16 0 1 4),aq 15 false (aw 17 1 16),aq 15 false (aT 18 .gtr 17 100000),c2 19 15 18,I 20 19,aq 20 false (aF 21 1 1 4),aq 20 false (aw 22 1 21),aq 20 false (cM 23 160 22),aq 20 false (cx 24 23),c2 25 20 24,I 26 25,bZ 26 false 27 3,aq 26 false (aT 28 .gtr 27 0),bZ 26 false 29 28,bZ 29 true 30 0,bZ 29 true 31 3,aq 29 true (aT 32 .sub 31 1),aq 29 true (cj 33 2 30 32),aq 29 true (a7 34 2 33),aq 29 true (a7 35 2 4),aq 29 true (b4 36 161 34 35),aq 29 true (cx 37 36),aq 26 false (dy 38 29 37),c2 39 26 38]) (aS 39 (aa [be 2 false] .ret) .skip)))) (.region [aT 40 .add 7 1,I 7 40])))) (aa [be 2 true] .ret)))
@[simp] def K2:List bu:=[.tmp 2]
def qf:C:=(aa [cN 6 2,eQ 8 2,be 9 false] (.seq (aa [I 15 0,cM 16 86 15,cx 17 16,I 18 17,aq 18 false (a7 19 4 6),aq 18 false (cM 20 64 19),aq 18 false (cx 21 20),c2 22 18 21,I 23 22,bZ 23 false 24 1,aq 23 false (cM 25 87 24),aq 23 false (cx 26 25),c2 27 23 26,I 28 27,bZ 28 false 29 3,aq 28 false (aT 30 .neq 29 2),bZ 28 false 31 30,bZ 31 true 32 3,aq 31 true (aT 33 .neq 32 3),aq 28 false (dy 34 31 33),c2 35 28 34] (aS 35 (aa [eQ 8 2,be 9 false] .ret) .skip)) (aa [I 37 0,a7 38 4 6,b4 39 69 37 38,I 36 39,cH 40 0 36,cH 41 1 36,dh 10 dt,bM 4 10 40,I 11 41] (.seq (aa [I 42 11,cx 43 42] (aS 43 (aa [eQ 8 2,be 9 false] .ret) .skip)) (aa [cU (.bslm 44 (some 803) 2 98 []),I 45 1,cU (.appm 46 none 2 98 (.t 44) (.t 45)),cU (.alloc 12 (some 804) (.slice 2 .nil [])),bM 1 12 46] (.seq (aa [aF 47 0 1 10,aw 48 1 47,aT 49 .neq 48 1] (aS 49 (.seq (aa [aF 50 0 1 10,aw 51 1 50,I 52 3,bh 53 .neq 51 52] (aS 53 (aa [eQ 8 2,be 9 false] .ret) .skip)) (.seq (.pubB 12 (.region [aw 54 1 12,I 8 54,be 9 true])) .ret)) .skip)) (.seq (aa [I 55 1,cb 56 55,bS 57 0] (fe 58 57 56 (.seq (.block 1 (aa [cj 59 2 55 57,a7 60 2 59,cU (.alloc 14 none (.agg [.int .i64 0,.int .i64 0])),bM 2 14 60] (aa [aF 61 0 1 14,aw 62 1 61,aF 63 1 1 10,aw 64 1 63,bh 65 .eql 62 64] (aS 65 (.seq (aa [aF 66 1 1 14,aw 67 1 66,I 68 3,bh 69 .neq 67 68] (aS 69 (aa [eQ 8 2,be 9 false] .ret) .skip)) (.seq (.pubB 12 (.region [aw 70 1 12,I 8 70,be 9 true])) .ret)) .skip)))) (.region [aT 71 .add 57 1,I 57 71])))) (aa [aw 72 1 12,aF 73 1 1 10,aw 74 1 73,I 75 3,b7 76 (.build [.int .i64 0,.int .i64 0] [(0,1,(.t 74)),(1,1,(.t 75))]),fD 77 2 98 [.t 76],cU (.appm 78 none 2 98 (.t 72) (.t 77)),bM 1 12 78] (aa [aw 79 1 12,b7 80 (.mkif 48 (.t 79)),b7 81 (.mkf 183 [.t 12]),b4 82 182 80 81] (.seq (.pubB 12 (.region [aw 83 1 12,I 8 83,be 9 true])) .ret))))))))))
@[simp] def jP:List bu:=[.tmp 8,.tmp 9]
def DP:C:=(aa [cN 6 2,cU (.box 7 (some 811) (.t 3)),eQ 8 2,be 9 false] (.seq (aa [I 17 0,cM 18 86 17,cx 19 18,I 20 19,aq 20 false (a7 21 4 6),aq 20 false (cM 22 64 21),aq 20 false (cx 23 22),c2 24 20 23,I 25 24,bZ 25 false 26 1,aq 25 false (cM 27 88 26),aq 25 false (cx 28 27),c2 29 25 28,I 30 29,aq 30 false (aw 31 1 7),aq 30 false (cM 32 160 31),aq 30 false (cx 33 32),c2 34 30 33] (aS 34 (aa [eQ 8 2,be 9 false] .ret) .skip)) (aa [I 36 0,a7 37 4 6,b4 38 69 36 37,I 35 38,cH 39 0 35,cH 40 1 35,dh 10 dt,bM 4 10 39,I 11 40] (.seq (aa [I 41 11,cx 42 41,I 43 42,aq 43 false (a7 44 4 10),aq 43 false (aw 45 1 7),aq 43 false (b4 46 177 44 45),c2 47 43 46] (aS 47 (aa [eQ 8 2,be 9 false] .ret) .skip)) (aa [cU (.mkmap 48 (some 812)),cU (.alloc 12 (some 813) (.junk)),bM 1 12 48] (.seq (aa [I 49 1,cb 50 49,bS 51 0] (fe 52 51 50 (.seq (.block 1 (aa [cj 53 2 49 51,a7 54 2 53,cU (.alloc 14 none (.agg [.int .i64 0,.str []])),bM 2 14 54] (.region [aw 55 1 12,a7 56 2 14,cU (.mput (.a [false,true]) (.t 55) (.t 56) (.c (.bool true)))]))) (.region [aT 57 .add 51 1,I 51 57])))) (aa [a7 58 4 10,b7 59 (.mkf 184 [.t 12,.t 7]),b4 60 134 58 59] (aa [cU (.bslm 61 (some 814) 2 100 []),cU (.alloc 15 (some 815) (.slice 2 .nil [])),bM 1 15 61] (.seq (aa [aw 62 1 12,cU (.range 63 none (.t 62))] (.block 2 (.loop (aa [⟨none,.next 64 (.t 63)⟩,cH 65 0 64] (.seq (aS 65 .skip (.exit 2)) (.block 3 (aa [b7 66 (.ment (.t 63)),cH 67 0 66,cU (.alloc 16 none (.agg [.int .i64 0,.str []])),bM 2 16 67] (.region [aw 68 1 15,a7 69 2 16,fD 70 2 100 [.t 69],cU (.appm 71 none 2 100 (.t 68) (.t 70)),bM 1 15 71])))))))) (aa [aw 72 1 15,b7 73 (.mkif 49 (.t 72)),b7 74 (.mkf 185 [.t 15]),b4 75 182 73 74] (.seq (.pubB 15 (.region [aw 76 1 15,I 8 76,be 9 true])) .ret)))))))))))
@[simp] def FY:List bu:=[.tmp 8,.tmp 9]
def DQ:C:=(aa [cN 2 0,cN 3 1,be 4 false] (aa [aF 5 0 1 2,aw 6 1 5,aF 7 0 1 3,aw 8 1 7,bh 9 .lss 6 8,I 10 9,aq 10 false (aF 11 0 1 2),aq 10 false (aw 12 1 11),aq 10 false (aF 13 0 1 3),aq 10 false (aw 14 1 13),aq 10 false (bh 15 .eql 12 14),bZ 10 false 16 15,aq 16 true (aF 17 1 1 2),aq 16 true (aw 18 1 17),aq 16 true (aF 19 1 1 3),aq 16 true (aw 20 1 19),aq 16 true (bh 21 .lss 18 20),aq 10 false (dy 22 16 21),c2 23 10 22,I 4 23] .ret))
@[simp] def aiI:List bu:=[.tmp 4]
def DS:C:=(aa [cN 2 0,be 4 false] (.seq (aa [aF 5 0 1 2,aw 6 1 5,aT 7 .eql 6 4] (aS 7 (aa [aF 8 3 1 2,aw 9 1 8,jG 10 4 9 0,a7 11 4 10,I 12 1,b4 13 177 11 12,I 14 13,aq 14 false (aF 15 3 1 2),aq 14 false (aw 16 1 15),aq 14 false (jG 17 4 16 1),aq 14 false (a7 18 4 17),bZ 14 false 19 1,aq 14 false (b4 20 177 18 19),c2 21 14 20,I 4 21] .ret) .skip)) (aa [aF 22 0 1 2,aw 23 1 22,aT 24 .eql 23 2,I 25 24,aq 25 true (aF 26 2 1 2),aq 25 true (aw 27 1 26),bZ 25 true 28 1,aq 25 true (bh 29 .eql 27 28),dy 30 25 29,I 4 30] .ret)))
@[simp] def F4:List bu:=[.tmp 4]
def Nx:C:=(aa [be 5 false] (.seq (.drawn true 17 [aw 6 1 2,I 7 0,cj 8 2 6 7,aF 9 0 1 8,aw 10 1 9,aw 11 1 2,I 12 1,cj 13 2 11 12,aF 14 0 1 13,aw 15 1 14,bh 16 .lss 10 15,I 5 16]) .ret))
@[simp] def Us:List bu:=[.tmp 5]
def Nv:C:=(.region [aw 4 1 1,I 5 0,aw 6 1 2,b7 7 (.build [.int .i64 0,.str []] [(0,1,(.t 5)),(1,1,(.t 6))]),cU (.mput (.a [false,true]) (.t 4) (.t 7) (.c (.bool true)))])
@[simp] def Uq:List bu:=[]
def Nw:C:=(aa [be 5 false] (.seq (.drawn true 15 [aw 6 1 2,I 7 0,cj 8 2 6 7,a7 9 2 8,aw 10 1 2,I 11 1,cj 12 2 10 11,a7 13 2 12,b4 14 161 9 13,I 5 14]) .ret))
@[simp] def Ur:List bu:=[.tmp 5]
def tc:List (Nat×dA):=[
 (3,⟨1,8,.int .i64,.int .i64 0⟩),
 (9,⟨1,16,.str,.str []⟩),
 (27,⟨1,24,.slice 30,.slice 4 .nil []⟩),
 (30,⟨4,56,.struct [(0,3),(1,3),(2,9),(3,27)],.agg [.int .i64 0,.int .i64 0,.str [],.slice 4 .nil []]⟩),
 (48,⟨1,24,.slice 98,.slice 2 .nil []⟩),
 (49,⟨1,24,.slice 100,.slice 2 .nil []⟩),
 (98,⟨2,16,.struct [(0,3),(1,3)],.agg [.int .i64 0,.int .i64 0]⟩),
 (100,⟨2,24,.struct [(0,3),(1,9)],.agg [.int .i64 0,.str []]⟩),
 (165,⟨1,8,.map 100 4,.junk⟩)]
theorem jR:fL al tc=true:=by kernel_rfl
theorem ags:b0 tc NB Uv 1 Tryz.f87=true:=by kernel_rfl
theorem ZW:al.funcs[(87:Nat)]? =some Tryz.f87:=Tryz.func87
theorem agt:b0 tc NC K2 1 Tryz.f88=true:=by kernel_rfl
theorem ZX:al.funcs[(88:Nat)]? =some Tryz.f88:=Tryz.func88
theorem rI:b0 tc qf jP 4 Tryz.f118=true:=by kernel_rfl
theorem q1:al.funcs[(118:Nat)]? =some Tryz.f118:=Tryz.func118
theorem KE:b0 tc DP FY 4 Tryz.f120=true:=by kernel_rfl
theorem Ih:al.funcs[(120:Nat)]? =some Tryz.f120:=Tryz.func120
theorem KF:b0 tc DQ aiI 2 Tryz.f161=true:=by kernel_rfl
theorem Ii:al.funcs[(161:Nat)]? =some Tryz.f161:=Tryz.func161
theorem KH:b0 tc DS F4 2 Tryz.f177=true:=by kernel_rfl
theorem Ik:al.funcs[(177:Nat)]? =some Tryz.f177:=Tryz.func177
theorem ago:b0 tc Nx Us 3 Tryz.f183=true:=by kernel_rfl
theorem ZS:al.funcs[(183:Nat)]? =some Tryz.f183:=Tryz.func183
theorem agm:b0 tc Nv Uq 3 Tryz.f184=true:=by kernel_rfl
theorem ZQ:al.funcs[(184:Nat)]? =some Tryz.f184:=Tryz.func184
theorem agn:b0 tc Nw Ur 3 Tryz.f185=true:=by kernel_rfl
theorem ZR:al.funcs[(185:Nat)]? =some Tryz.f185:=Tryz.func185
def lT(x:bJ):Prop:=(0≤x.v∧x.v≤100000)∧(x.k=2∨x.k=3)
def mW(x y:bJ):Prop:=x.v<y.v
theorem Fi{l:List bJ}:iW l↔∀i,i<l.length→h3 lT mW l i:=by rw[MY (p:=lT) (r:=mW) (fun a b c J U=>by unfold mW at*;omega)];exact⟨fun h=>⟨h.at',h.asc⟩,fun h=>⟨h.1,h.2⟩⟩
def j3(x:bj):Prop:=(0≤x.v∧x.v≤100000)∧jA x.s=true
def kr(x y:bj):Prop:=e7 x y<0
theorem Fy{l:List bj}:ik l↔∀i,i<l.length→h3 j3 kr l i:=by rw[MY (p:=j3) (r:=kr) (fun a b c J U=>by unfold kr at*;exact lA.ltr J (Int.le_of_lt U))];exact⟨fun h=>⟨h.at',h.asc⟩,fun h=>⟨h.1,h.2⟩⟩
open Classical in
theorem Wl(l:List bJ):bF al 87 [.slice 2 .no (l.map bJ.e)] (.bool (decide (iW l))):=by
 generalize bf:decide (iW l)=R;refine bm jR ZW ags fun aQ=>?_;unfold NB;have eY:l.length≤68719476736:=by simp[ez,dZ,eo,lim]at aQ;omega
 simp;refine dI [0,5,6] (fun i (_:Unit)=>[(7,.int .i64 i)]) l.length (fun i _=> ∀j,j<i→h3 lT mW l j) () bW (fun k ab=>by omega) (fun _ af _=>?_) (fun i _ hi af _=>?_)
 ·have:R=true:=by rw[←bf,fk,Fi];exact af
  rw[this];exact b5
 ·obtain⟨b,ad⟩:∃b,l[i]? =some b:=⟨_,cf hi⟩;obtain⟨c,au⟩:∃c,l[i-1]? =some c:=⟨_,cf (by omega)⟩;have cy:∀h,(l[i]'h)=b:=fun h=>by rw[cf hi]at ad;exact fj ad
  have cB:¬h3 lT mW l i→R=false:=fun h=>by rw[←bf,gz];exact fun ca=>h (Fi.1 ca i hi)
  have da:h3 lT mW l i→∀j,j<i+1→h3 lT mW l j:=fun h j jh=>by
   by_cases e:j=i
   ·rw[e];exact h
   ·exact af j (by omega)
  simp[hi,cy,au];((with_reducible repeat' first|refine aj ?_|simp[cy,au,hi]|((first|apply bL|apply bQ|apply bP)<;>intro h<;>try simp at h))<;>(try exact cq));all_goals first
   |(have aA:¬h3 lT mW l i:=by(intro ca;have J:=ca b ad;have U:=J.2 c;have ao:=J.1;unfold lT mW at*;first|omega|(have ba:=U (by omega) au;omega)|(simp_all;done)|(simp_all;omega))
     rw[cB aA]
     simp[bz,Uv,aW,aX,aV]
     done)
   |(refine bO.rng () hi (da fun b1 fP=>?_) ?_
     ·rw[ad]at fP;cases fP
      refine⟨?_,fun cr bA hq=>?_⟩
      ·unfold lT;first|(simp_all;done)|(simp_all;omega)
      ·rw[au]at hq;cases hq;unfold mW;simp_all
     ·exact bW)
theorem AD(a b:bj):bF al 161 [a.e,b.e] (.bool (hG e7 a b)):=by
 rw[←TJ];have bf:sR a b=(decide (a.v<b.v)||(a.v==b.v&&ho a.s b.s)):=rfl;rcases Int.lt_trichotomy a.v b.v with h|h|h
 ·have:sR a b=true:=by rw[bf];simp[h]
  rw[this];refine bm jR Ii KF fun aQ=>?_;unfold DQ;exact b5
 ·have J:¬a.v<b.v:=by omega
  have U:(a.v==b.v)=true:=by simp[h]
  have:sR a b=ho a.s b.s:=by rw[bf];simp[h]
  rw[this];refine bm jR Ii KF fun aQ=>?_;unfold DQ;exact b5
 ·have J:¬a.v<b.v:=by omega
  have U:¬a.v=b.v:=by omega
  have ao:(a.v==b.v)=false:=by simp[U]
  have:sR a b=false:=by rw[bf];simp[J,U]
  rw[this];refine bm jR Ii KF fun aQ=>?_;unfold DQ;exact b5
end Go.Proofs.YtahlgcidhnjlbaaGreat
namespace Go.Proofs.YtahlgcidhnjlbaaGreat
open Go Go.Pv
open Classical in
theorem Wn(l:List bj):bF al 88 [.slice 2 .no (l.map bj.e)] (.bool (decide (ik l))):=by
 generalize bf:decide (ik l)=R;refine bm jR ZX agt fun aQ=>?_;unfold NC;have eY:l.length≤68719476736:=by simp[ez,dZ,eo,lim]at aQ;omega
 simp;refine dI [0,5,6] (fun i (_:Unit)=>[(7,.int .i64 i)]) l.length (fun i _=> ∀j,j<i→h3 j3 kr l j) () bW (fun k ab=>by omega) (fun _ af _=>?_) (fun i _ hi af _=>?_)
 ·have:R=true:=by rw[←bf,fk,Fy];exact af
  rw[this];exact b5
 ·obtain⟨b,ad⟩:∃b,l[i]? =some b:=⟨_,cf hi⟩;obtain⟨c,au⟩:∃c,l[i-1]? =some c:=⟨_,cf (by omega)⟩;have cy:∀h,(l[i]'h)=b:=fun h=>by rw[cf hi]at ad;exact fj ad
  have cB:¬h3 j3 kr l i→R=false:=fun h=>by rw[←bf,gz];exact fun ca=>h (Fy.1 ca i hi)
  have da:h3 j3 kr l i→∀j,j<i+1→h3 j3 kr l j:=fun h j jh=>by
   by_cases e:j=i
   ·rw[e];exact h
   ·exact af j (by omega)
  have eS:∀p:Prop,(p→eK)→(h3 j3 kr l i→p)→R=false:=fun p J U=>cB fun h=>J (U h);have oY:h3 j3 kr l i→j3 b:=fun h=>(h b ad).1;have bD:h3 j3 kr l i→0<i→hG e7 c b=true:=fun h bA=>by simpa[hG,kr]using(h b ad).2 c bA au
  have eU:j3 b→(0<i→hG e7 c b=true)→h3 j3 kr l i:=fun J U b1 fP=>by rw[ad]at fP;cases fP;exact⟨J,fun cr bA hq=>by rw[au]at hq;cases hq;simpa[hG,kr]using U bA⟩
  unfold j3 at oY eU;by_cases g1:b.v<0
  ·rw[eS _ (fun h=>by omega) (fun h=>(oY h).1.1)];exact b5
  by_cases g2:100000<b.v
  ·rw[eS _ (fun h=>by omega) (fun h=>(oY h).1.2)];exact b5
  cases g3:jA b.s
  ·rw[eS _ (fun h=>by rw[h]at g3;cases g3) (fun h=>(oY h).2)];simp[hi,cy,au];(with_reducible repeat' first|refine aj ?_|refine aD (td _) ?_|refine aE (td _) ?_|simp[cy,au,hi,g1,g2,g3]);simp[bz,K2,aW,aX,aV]
  by_cases g4:0<i
  ·cases g5:hG e7 c b
   ·rw[eS _ (fun h=>by rw[h]at g5;cases g5) (fun h=>bD h g4)];simp[hi,cy,au];(with_reducible repeat' first|refine aj ?_|refine aD (td _) ?_|refine aE (td _) ?_|refine aD (AD _ _) ?_|refine aE (AD _ _) ?_|simp[cy,au,hi,g1,g2,g3,g4,g5]);simp[bz,K2,aW,aX,aV]
   ·simp[hi,cy,au];(with_reducible repeat' first|refine aj ?_|refine aD (td _) ?_|refine aE (td _) ?_|refine aD (AD _ _) ?_|refine aE (AD _ _) ?_|simp[cy,au,hi,g1,g2,g3,g4,g5]);exact bO.rng () hi (da (eU ⟨⟨by omega,by omega⟩,g3⟩ fun _=>g5)) bW
  ·obtain rfl:i=0:=by omega
   simp[hi,cy,au];(with_reducible repeat' first|refine aj ?_|refine aD (td _) ?_|refine aE (td _) ?_|simp[cy,au,hi,g1,g2,g3,g4]);exact bO.rng () hi (da (eU ⟨⟨by omega,by omega⟩,g3⟩ fun h=>by omega)) bW
theorem Wu(s:List dz):∀t:T,bF al 177 [t.e,.str s] (.bool (t.has s)):=by
 intro t;induction t with
 |pair a b dS dT=>
  refine bm jR Ik KH fun aQ=>?_;unfold DS;simp;cases bt:a.has s<;>cases ad:b.has s<;>rw[bt]at dS<;>rw[ad]at dT;all_goals(with_reducible repeat' first|refine aj ?_|refine aD dS ?_|refine aE dS ?_|refine aD dT ?_|refine aE dT ?_|simp)
  all_goals simp[bz,F4,aW,aX,aV]
  all_goals simp[T.has,bt,ad]
 |sym n=>
  refine bm jR Ik KH fun aQ=>?_;unfold DS;simp;(with_reducible repeat' first|refine aj ?_|simp);all_goals simp[bz,F4,aW,aX,aV]
  all_goals simp[T.has]
 |_=>
  refine bm jR Ik KH fun aQ=>?_;unfold DS;simp;(with_reducible repeat' first|refine aj ?_|simp);all_goals simp[bz,F4,aW,aX,aV]
  all_goals simp[T.has]
end Go.Proofs.YtahlgcidhnjlbaaGreat
namespace Go.Proofs.YtahlgcidhnjlbaaGreat
open Go Go.Pv
def OX:C:=(aa [cN 2 0] (aa [bS 4 20] (aa [I 8 4,bS 5 0,I 6 8] (.seq (.block 0 (.loop (.seq (aa [I 9 6,I 10 1,bh 11 .leq 9 10] (aS 11 .skip (.exit 0))) (.block 1 (aa [a7 12 2 2,I 13 5,I 14 6,dK 15 231 [.t 12,.t 13,.t 14]] (aa [I 16 6,I 5 16] (.region [I 17 6,I 18 4,bh 19 .add 17 18,I 6 19]))))))) (aa [a7 20 2 2,I 21 5,I 22 1,dK 23 231 [.t 20,.t 21,.t 22]] (.block 2 (.loop (.seq (aa [I 24 4,I 25 1,bh 26 .lss 24 25] (aS 26 .skip (.exit 2))) (.block 3 (aa [I 27 4,b7 28 (.bin .mul false (gr 2) (.t 27)),bS 5 0,I 6 28] (.seq (.block 4 (.loop (.seq (aa [I 29 6,I 30 1,bh 31 .leq 29 30] (aS 31 .skip (.exit 4))) (.block 5 (aa [a7 32 2 2,I 33 5,I 34 5,I 35 4,bh 36 .add 34 35,I 37 6,dK 38 232 [.t 32,.t 33,.t 36,.t 37]] (aa [I 39 6,I 5 39] (.region [I 40 6,I 41 4,b7 42 (.bin .mul false (gr 2) (.t 41)),bh 43 .add 40 42,I 6 43]))))))) (.seq (aa [I 44 5,I 45 4,bh 46 .add 44 45,I 7 46] (aa [I 47 7,I 48 1,bh 49 .lss 47 48] (aS 49 (.region [a7 50 2 2,I 51 5,I 52 7,I 53 1,dK 54 232 [.t 50,.t 51,.t 52,.t 53]]) .skip))) (.region [I 55 4,aT 56 .mul 55 2,I 4 56])))))))))))))
@[simp] def ajn:List bu:=[]
def HI:C:=(aa [cN 3 0] (aa [I 8 1,aT 9 .add 8 1,I 6 9] (.block 0 (.loop (.seq (aa [I 10 6,I 11 2,bh 12 .lss 10 11] (aS 12 .skip (.exit 0))) (.seq (.block 1 (aa [I 15 6,I 7 15] (.block 2 (.loop (.seq (aa [I 16 7,I 17 1,bh 18 .gtr 16 17,I 19 18,aq 19 true (aF 20 0 1 3),aq 19 true (aw 21 1 20),bZ 19 true 22 7,bZ 19 true 23 7,aq 19 true (aT 24 .sub 23 1),aq 19 true (gD 25 21 [.t 22,.t 24]),dy 26 19 25] (aS 26 .skip (.exit 2))) (.seq (.block 3 (.region [aF 29 1 1 3,aw 30 1 29,I 31 7,I 32 7,aT 33 .sub 32 1,gD 34 30 [.t 31,.t 33]])) (.region [I 27 7,aT 28 .sub 27 1,I 7 28]))))))) (.region [I 13 6,aT 14 .add 13 1,I 6 14])))))))
@[simp] def ajj:List bu:=[]
def DZ:C:=(aa [I 164 16,I 165 22,bh 166 .lss 164 165,I 167 166,bZ 167 true 168 22,bZ 167 true 169 3,aq 167 true (bh 170 .lss 168 169),dy 171 167 170] (aS 171 (.region [a7 172 2 4,I 173 16,I 174 22,I 175 3,dK 176 232 [.t 172,.t 173,.t 174,.t 175]]) .skip))
def D0:C:=(.seq (aa [I 151 1,I 152 18,bh 153 .lss 151 152,I 154 153,bZ 154 true 155 18,bZ 154 true 156 16,aq 154 true (bh 157 .lss 155 156),dy 158 154 157] (aS 158 (.region [a7 159 2 4,I 160 1,I 161 18,I 162 16,dK 163 232 [.t 159,.t 160,.t 161,.t 162]]) .skip)) DZ)
def HM:C:=(.seq (aa [I 138 18,I 139 2,bh 140 .lss 138 139,I 141 140,bZ 141 true 142 2,bZ 141 true 143 22,aq 141 true (bh 144 .lss 142 143),dy 145 141 144] (aS 145 (.region [a7 146 2 4,I 147 18,I 148 2,I 149 22,dK 150 251 [.t 146,.t 147,.t 148,.t 149]]) .skip)) D0)
def HN:C:=(aa [I 113 17,aT 114 .sub 113 1,I 20 114] (.seq (.block 8 (.loop (.seq (aa [I 115 18,I 116 19,bh 117 .lss 115 116] (aS 117 .skip (.exit 8))) (.block 9 (aa [I 118 18,I 119 19,bh 120 .add 118 119,b7 121 (.conv .u64 (.t 120)),b7 122 (.bin .shr false (.t 121) (.c (.int .u64 1))),b7 123 (.conv .i64 (.t 122)),I 21 123] (aa [aF 124 0 1 4,aw 125 1 124,I 126 20,I 127 21,bh 128 .sub 126 127,I 129 21,gD 130 125 [.t 128,.t 129],cx 131 130] (aS 131 (.region [I 132 21,aT 133 .add 132 1,I 18 133]) (.region [I 134 21,I 19 134])))))))) (aa [I 135 17,I 136 18,bh 137 .sub 135 136,I 22 137] HM)))
def OZ:C:=(aa [cN 4 0] (.seq (aa [I 23 2,I 24 1,bh 25 .sub 23 24,aT 26 .eql 25 1] (aS 26 (aa [I 27 2,I 8 27] (aa [I 28 3,I 9 28] (.seq (.block 0 (.loop (.seq (aa [I 29 8,I 30 9,bh 31 .lss 29 30] (aS 31 .skip (.exit 0))) (.block 1 (aa [I 32 8,I 33 9,bh 34 .add 32 33,b7 35 (.conv .u64 (.t 34)),b7 36 (.bin .shr false (.t 35) (.c (.int .u64 1))),b7 37 (.conv .i64 (.t 36)),I 10 37] (aa [aF 38 0 1 4,aw 39 1 38,I 40 10,I 41 1,gD 42 39 [.t 40,.t 41]] (aS 42 (.region [I 43 10,aT 44 .add 43 1,I 8 44]) (.region [I 45 10,I 9 45])))))))) (.seq (aa [I 46 1,I 11 46] (.block 2 (.loop (.seq (aa [I 47 11,I 48 8,aT 49 .sub 48 1,bh 50 .lss 47 49] (aS 50 .skip (.exit 2))) (.seq (.block 3 (.region [aF 53 1 1 4,aw 54 1 53,I 55 11,I 56 11,aT 57 .add 56 1,gD 58 54 [.t 55,.t 57]])) (.region [I 51 11,aT 52 .add 51 1,I 11 52])))))) .ret)))) .skip)) (.seq (aa [I 59 3,I 60 2,bh 61 .sub 59 60,aT 62 .eql 61 1] (aS 62 (aa [I 63 1,I 12 63] (aa [I 64 2,I 13 64] (.seq (.block 4 (.loop (.seq (aa [I 65 12,I 66 13,bh 67 .lss 65 66] (aS 67 .skip (.exit 4))) (.block 5 (aa [I 68 12,I 69 13,bh 70 .add 68 69,b7 71 (.conv .u64 (.t 70)),b7 72 (.bin .shr false (.t 71) (.c (.int .u64 1))),b7 73 (.conv .i64 (.t 72)),I 14 73] (aa [aF 74 0 1 4,aw 75 1 74,I 76 2,I 77 14,gD 78 75 [.t 76,.t 77],cx 79 78] (aS 79 (.region [I 80 14,aT 81 .add 80 1,I 12 81]) (.region [I 82 14,I 13 82])))))))) (.seq (aa [I 83 2,I 15 83] (.block 6 (.loop (.seq (aa [I 84 15,I 85 12,bh 86 .gtr 84 85] (aS 86 .skip (.exit 6))) (.seq (.block 7 (.region [aF 89 1 1 4,aw 90 1 89,I 91 15,I 92 15,aT 93 .sub 92 1,gD 94 90 [.t 91,.t 93]])) (.region [I 87 15,aT 88 .sub 87 1,I 15 88])))))) .ret)))) .skip)) (aa [I 95 1,I 96 3,bh 97 .add 95 96,b7 98 (.conv .u64 (.t 97)),b7 99 (.bin .shr false (.t 98) (.c (.int .u64 1))),b7 100 (.conv .i64 (.t 99)),I 16 100] (aa [I 101 16,I 102 2,bh 103 .add 101 102,I 17 103] (aa [bS 18 0,bS 19 0] (.seq (aa [I 104 2,I 105 16,bh 106 .gtr 104 105] (aS 106 (aa [I 107 17,I 108 3,bh 109 .sub 107 108,I 18 109] (.region [I 110 16,I 19 110])) (aa [I 111 1,I 18 111] (.region [I 112 2,I 19 112])))) HN)))))))
@[simp] def ajo:List bu:=[]
def OV:C:=(aa [cN 4 0] (aa [I 10 2,I 11 1,bh 12 .sub 10 11,I 8 12] (aa [I 13 3,I 14 2,bh 15 .sub 13 14,I 9 15] (.seq (.block 0 (.loop (.seq (aa [I 16 8,I 17 9,bh 18 .neq 16 17] (aS 18 .skip (.exit 0))) (.block 1 (aa [I 19 8,I 20 9,bh 21 .gtr 19 20] (aS 21 (aa [a7 22 2 4,I 23 2,I 24 8,bh 25 .sub 23 24,I 26 2,I 27 9,dK 28 270 [.t 22,.t 25,.t 26,.t 27]] (.region [I 29 8,I 30 9,bh 31 .sub 29 30,I 8 31])) (aa [a7 32 2 4,I 33 2,I 34 8,bh 35 .sub 33 34,I 36 2,I 37 9,bh 38 .add 36 37,I 39 8,bh 40 .sub 38 39,I 41 8,dK 42 270 [.t 32,.t 35,.t 40,.t 41]] (.region [I 43 9,I 44 8,bh 45 .sub 43 44,I 9 45])))))))) (.region [a7 46 2 4,I 47 2,I 48 8,bh 49 .sub 47 48,I 50 2,I 51 8,dK 52 270 [.t 46,.t 49,.t 50,.t 51]])))))
@[simp] def ajl:List bu:=[]
def OY:C:=(aa [cN 4 0] (aa [bS 8 0] (.block 0 (.loop (.seq (aa [I 9 8,I 10 3,bh 11 .lss 9 10] (aS 11 .skip (.exit 0))) (.seq (.block 1 (.region [aF 14 1 1 4,aw 15 1 14,I 16 1,I 17 8,bh 18 .add 16 17,I 19 2,I 20 8,bh 21 .add 19 20,gD 22 15 [.t 18,.t 21]])) (.region [I 12 8,aT 13 .add 12 1,I 8 13])))))))
@[simp] def UZ:List bu:=[]
def Ay:List (Nat×dA):=[
 (3,⟨1,8,.int .i64,.int .i64 0⟩),
 (143,⟨1,8,.other,.junk⟩),
 (181,⟨1,8,.other,.junk⟩),
 (185,⟨2,16,.struct [(0,143),(1,181)],.agg [.junk,.junk]⟩),
 (192,⟨1,8,.int .u64,.int .u64 0⟩)]
theorem Az:fL al Ay=true:=by kernel_rfl
theorem ahI:b0 Ay OX ajn 2 Tryz.f199=true:=by kernel_rfl
theorem abc:al.funcs[(199:Nat)]? =some Tryz.f199:=Tryz.func199
theorem T4:b0 Ay HI ajj 3 Tryz.f231=true:=by kernel_rfl
theorem Qo:al.funcs[(231:Nat)]? =some Tryz.f231:=Tryz.func231
theorem ahK:b0 Ay OZ ajo 4 Tryz.f232=true:=by kernel_rfl
theorem abe:al.funcs[(232:Nat)]? =some Tryz.f232:=Tryz.func232
theorem ahG:b0 Ay OV ajl 4 Tryz.f251=true:=by kernel_rfl
theorem aba:al.funcs[(251:Nat)]? =some Tryz.f251:=Tryz.func251
theorem ahJ:b0 Ay OY UZ 4 Tryz.f270=true:=by kernel_rfl
theorem abd:al.funcs[(270:Nat)]? =some Tryz.f270:=Tryz.func270
end Go.Proofs.YtahlgcidhnjlbaaGreat
namespace Go.Proofs.YtahlgcidhnjlbaaGreat
open Go Go.Pv
structure eW {α:Type} (S:List α→cK) (n:Nat) (g b8:Nat) (lc b3:List ah) (lt:α→α→Bool):Prop where
 ok:∀l,ed (S l)
 same:∀l aZ,l.length=n→aZ.length=n→Same (S l) (S aZ)
 klc:∀l,l.length=n→aI (inObs (S l)) lc
 ksc:∀l,l.length=n→aI (inObs (S l)) b3
 slc:cZ lc=lc
 ssc:cZ b3=b3
 le:n≤68719476736
 less:∀l,l.length=n→∀(i j:Nat) x y,l[i]? =some x→l[j]? =some y→bN al g (.int .i64 i:: .int .i64 j::lc) (S l) fun r ai=>r= .bool (lt x y)∧ai=S l
 swap:∀l,l.length=n→2≤n→∀i j:Nat,i<n→j<n→bN al b8 (.int .i64 i:: .int .i64 j::b3) (S l) fun r ai=>r= .tuple []∧ai=S (gY l i j)
variable {α:Type} {S:List α→cK} {n g b8:Nat} {lc b3:List ah} {lt:α→α→Bool}
def eN(g b8:Nat)(lc b3:List ah):ah:= .agg [.func g lc,.func b8 b3]
theorem IM(H:eW S n g b8 lc b3 lt)(l:List α)(av:l.length=n)(a b c:Nat)(anM:a+c≤b)(Rb:b+c≤n):
  bN al 270 [eN g b8 lc b3,.int .i64 a,.int .i64 b,.int .i64 c] (S l) fun r ai=>r= .tuple []∧∃aZ,ai=S aZ∧gk a (b+c) l aZ∧∀k,aZ[k]? =l[rU a b c k]?:=by
 have ag:=H.ok l;have aA:∀l m,Pv.look (.loc m) (S l).b=none:=fun l=>(H.ok l).obj.1;have hu:∀l m cs,cA (.loc m) cs (S l).b=(S l).b++[(.loc m,cs)]:=fun l m cs=>jT (aA l m);have ax:∀m,aH.loc m∉cV (S l):=jO ag.obj;have hle:=H.le;refine bN.mk mixed Az abd ahJ (by simp) ag.obj fun aQ cL=>?_;unfold OY;simp[eN,hu,ax,cJ,aA,H.slc,H.ssc];refine iA (fun i (lk:List α)=>⟨[(1,.int .i64 a),(2,.int .i64 b),(3,.int .i64 c),(4,.ptr (.loc 0) 0),(8,.int .i64 i)],[(.loc 0,[.func g lc,.func b8 b3])]++(S lk).b,(S lk).e,1,cV (S l)⟩) c (fun i lk=>lk.length=n∧gk a (b+c) l lk∧∀k,lk[k]? =l[rU a b i k]?) l
  (ix.obL ag (Same.refl _) (by simp[aB]) (by simp[cJ,aA,aB,aI,zO (H.klc l av),zO (H.ksc l av)]) aR aR) ⟨av,.refl _,fun k=>by simp[rU];split<;>(try split)<;>(try rfl)<;>(exfalso;omega)⟩ ?_ ?_
 ·rintro lk ⟨J,U,ao⟩ _;simp;refine cT.at (S lk) (.inr rfl) (H.ok lk) (H.same _ _ av J) aR aR ?_;simp[cY,UZ,aW,aX,aV];exact⟨lk,rfl,U,ao⟩
 ·rintro i lk hi ⟨J,U,ao⟩ _;have ak:((a:Int)+i)=(a+i:Nat):=by omega
  have aC:((b:Int)+i)=(b+i:Nat):=by omega
  simp[hi,cJ,aA,H.ssc];(with_reducible repeat' first|refine aj ?_|simp);rw[ak,aC];refine c6.ob (H.swap lk J (by omega) (a+i) (b+i) (by omega) (by omega)) (H.ok lk) aR aR (by simp[H.ksc lk J]) ?_;rintro r ai ⟨rfl,rfl⟩;refine⟨H.same _ _ J (by simp[J]),?_⟩;simp[gR,im,cz,aA];(with_reducible repeat' first|refine aj ?_|simp);refine bO.rng (gY lk (a+i) (b+i)) hi ⟨by simp[J],.step U (by omega) (by omega) (by omega) (by omega) (by omega) (by omega),fun k=>?_⟩ (ix.obL (L:=[(.loc 0,[.func g lc,.func b8 b3])]) (H.ok _) (H.same _ _ av (by simp[J])) (by simp[aB]) (by simp[cJ,aA,aB,aI,zO (H.klc (gY lk (a+i) (b+i)) (by simp[J])),zO (H.ksc (gY lk (a+i) (b+i)) (by simp[J]))]) aR aR);rw[zF _ _ _ _ (by omega) (by omega),ao,ao,ao];have:rU a b (i+1) k=if k=a+i then rU a b i (b+i)else if k=b+i then rU a b i (a+i)else rU a b i k:=by
   simp only[rU];repeat' split
   all_goals omega
  rw[this];split
  ·rfl
  ·split<;>rfl
section
variable (H:eW S n g b8 lc b3 lt)
include H
theorem eW.loc{l:List α}(m:Nat):Pv.look (.loc m) (S l).b=none:=(H.ok l).obj.1 m
theorem eW.weak{l lk:List α}(av:l.length=n)(ab:lk.length=n){st:bq}{dJ:List (Nat×ah)}(aO:∀x∈dJ,Pv.get x.1 st.t=x.2∧aB (lV (S lk) 1) x.2)(bA:Pv.look (.loc 0) st.b=some [.func g lc,.func b8 b3])
  (ad:∀k cs,Pv.look k (S lk).b=some cs→Pv.look k st.b=some cs) (he:∀k o,Pv.look k (S lk).e=some o→Pv.look k st.e=some o):
  ix (cV (S l)) st ⟨dJ,(.loc 0,[.func g lc,.func b8 b3])::(S lk).b,(S lk).e,1,cV (S l)⟩:=
 ix.obL (L:=[(.loc 0,[.func g lc,.func b8 b3])]) (H.ok _) (H.same _ _ av ab) aO (by simp[bA,aB,aI,zO (H.klc lk ab),zO (H.ksc lk ab)]) ad he
theorem eW.weakC{l lk:List α}(av:l.length=n)(ab:lk.length=n){t dJ:List (Nat×ah)}{q:Nat}{o:List aH}(aO:∀x∈dJ,Pv.get x.1 t=x.2∧aB (lV (S lk) 1) x.2):
  ix (cV (S l)) ⟨t,(.loc 0,[.func g lc,.func b8 b3])::(S lk).b,(S lk).e,q,o⟩ ⟨dJ,(.loc 0,[.func g lc,.func b8 b3])::(S lk).b,(S lk).e,1,cV (S l)⟩:=
 H.weak av ab aO (by simp[Pv.look]) (fun k cs ae=>by
  cases k with
  |loc m=>rw[H.loc m]at ae;cases ae
  |obj m=>simpa[Pv.look]using ae) (fun _ _ ae=>ae)
theorem eW.call{lk:List α}(J:lk.length=n){f:Nat}{args:List ah}{R:ah→List α→Prop}(aJ:bN al f args (S lk) fun r ai=> ∃aZ,ai=S aZ∧R r aZ)(bf:∀r aZ,R r aZ→aZ.length=n)(ab:aI (inObs (S lk)) args){t:List (Nat×ah)}{D:List ah}{o:List aH}{d:aY Nat}{K:bq→Prop}
  (h:∀r aZ,R r aZ→K ⟨eH d r t,(.loc 0,D)::(S aZ).b,(S aZ).e,1,o++cV (S aZ)⟩):c6 al f args ⟨t,(.loc 0,D)::(S lk).b,(S lk).e,1,o⟩ d K:=by
 refine c6.ob aJ (H.ok lk) (fun k cs ae=>?_) (fun _ _ ae=>ae) ab ?_
 ·cases k with
  |loc m=>rw[H.loc m]at ae;cases ae
  |obj m=>simpa[Pv.look]using ae
 ·rintro r ai ⟨aZ,rfl,aK⟩;refine⟨H.same _ _ J (bf _ _ aK),?_⟩;have ak:cz (S lk).b ((.loc 0,D)::(S lk).b)=[(.loc 0,D)]:=by have:=im (S lk).b [(aH.loc 0,D)] (S lk).b;rw[gR]at this;simpa[cz,H.loc]using this
  have aC:cz (S lk).e (S lk).e=[]:=gR _;have:=h _ _ aK;simp only[ak,aC];exact this
theorem eW.doSwap{lk:List α}(J:lk.length=n)(i j:Nat)(hi:i<n)(af:j<n)(U:2≤n){t:List (Nat×ah)}{D:List ah}{o:List aH}{d:aY Nat}{K:bq→Prop}
  (h:K ⟨eH d (.tuple []) t,(.loc 0,D)::(S (gY lk i j)).b,(S (gY lk i j)).e,1,o++cV (S (gY lk i j))⟩):c6 al b8 (.int .i64 i:: .int .i64 j::b3) ⟨t,(.loc 0,D)::(S lk).b,(S lk).e,1,o⟩ d K:=
 H.call J (R:=fun r aZ=>r= .tuple []∧aZ=gY lk i j) ((H.swap lk J U i j hi af).mono fun r ai ⟨ak,aC⟩=>⟨_,aC,ak,rfl⟩) (fun r aZ ⟨_,e⟩=>by rw[e];simp[J]) (by simp[aB,aI,H.ksc lk J]) (by rintro r aZ ⟨rfl,rfl⟩;exact h)
theorem eW.doLess{lk:List α}(J:lk.length=n)(i j:Nat){x y:α}(hi:lk[i]? =some x)(af:lk[j]? =some y){t:List (Nat×ah)}{D:List ah}{o:List aH}{d:aY Nat}{K:bq→Prop}
  (h:K ⟨eH d (.bool (lt x y)) t,(.loc 0,D)::(S lk).b,(S lk).e,1,o++cV (S lk)⟩):c6 al g (.int .i64 i:: .int .i64 j::lc) ⟨t,(.loc 0,D)::(S lk).b,(S lk).e,1,o⟩ d K:=
 H.call J (R:=fun r aZ=>r= .bool (lt x y)∧aZ=lk) ((H.less lk J i j x y hi af).mono fun r ai ⟨ak,aC⟩=>⟨_,aC,ak,rfl⟩) (fun r aZ ⟨_,e⟩=>by rw[e];exact J) (by simp[aB,aI,H.klc lk J]) (by rintro r aZ ⟨rfl,rfl⟩;exact h)
theorem eW.doFn{lk:List α}(J:lk.length=n){f:Nat}{args:List ah}{R:List α→Prop}(aJ:bN al f args (S lk) fun r ai=>r= .tuple []∧∃aZ,ai=S aZ∧R aZ)(bf:∀aZ,R aZ→aZ.length=n)(ab:aI (inObs (S lk)) args){t:List (Nat×ah)}{D:List ah}{o:List aH}{d:aY Nat}{K:bq→Prop}
  (h:∀aZ,R aZ→K ⟨eH d (.tuple []) t,(.loc 0,D)::(S aZ).b,(S aZ).e,1,o++cV (S aZ)⟩):c6 al f args ⟨t,(.loc 0,D)::(S lk).b,(S lk).e,1,o⟩ d K:=
 H.call J (R:=fun r aZ=>r= .tuple []∧R aZ) (aJ.mono fun r ai ⟨ak,aZ,aC,bk⟩=>⟨aZ,aC,ak,bk⟩) (fun r aZ h=>bf aZ h.2) ab (by rintro r aZ ⟨rfl,aK⟩;exact h aZ aK)
theorem eW.kdata{lk:List α}(J:lk.length=n):aB (inObs (S lk)) (eN g b8 lc b3):=by simp[eN,aB,aI,H.klc lk J,H.ksc lk J]
theorem eW.ret{l lk:List α}(av:l.length=n)(J:lk.length=n){Q:ah→cK→Prop}{e:Exit}(he:e= .ret∨e= .normal){t:List (Nat×ah)}{D:List ah}{q:Nat}{o:List aH}(br:Q (.tuple []) (S lk)):cT [] (S l) Q e ⟨t,(.loc 0,D)::(S lk).b,(S lk).e,q,o⟩:=by
 refine cT.at (S lk) he (H.ok lk) (H.same _ _ av J) (fun k cs ae=>?_) (fun _ _ ae=>ae) ?_
 ·cases k with
  |loc m=>rw[H.loc m]at ae;cases ae
  |obj m=>simpa[Pv.look]using ae
 ·simp[cY,aW,aV,aB,aI,br]
end
theorem h9(H:eW S n g b8 lc b3 lt):dq (eN g b8 lc b3)=eN g b8 lc b3:=by simp[eN,dq,cZ,H.slc,H.ssc]
theorem h4:ah.agg [.func g lc,.func b8 b3]=eN g b8 lc b3:=rfl
theorem acx(H:eW S n g b8 lc b3 lt)(l:List α)(av:l.length=n)(a m b:Nat)(Bv:a<m)(o0:m<b)(ad:b≤n):
  bN al 251 [eN g b8 lc b3,.int .i64 a,.int .i64 m,.int .i64 b] (S l) fun r ai=>r= .tuple []∧∃aZ,ai=S aZ∧gk a b l aZ∧∀k,aZ[k]? =l[hQ a m b k]?:=by
 have ag:=H.ok l;have aA:∀l m,Pv.look (.loc m) (S l).b=none:=fun l=>(H.ok l).obj.1;have hu:∀l m cs,cA (.loc m) cs (S l).b=(S l).b++[(.loc m,cs)]:=fun l m cs=>jT (aA l m);have ax:∀m,aH.loc m∉cV (S l):=jO ag.obj;have hle:=H.le;refine bN.mk mixed Az aba ahG (by simp) ag.obj fun aQ cL=>?_;unfold OV;simp[eN,hu,ax,cJ,aA];(with_reducible repeat' first|refine aj ?_|simp[hu,ax,cJ,aA]);refine n1 (fun(x:(Nat×Nat)×List α)=>⟨[(2,.int .i64 m),(4,.ptr (.loc 0) 0),(8,.int .i64 x.1.1),(9,.int .i64 x.1.2)],(.loc 0,[.func g lc,.func b8 b3])::(S x.2).b,(S x.2).e,1,cV (S l)⟩) (fun x=>x.1.1+x.1.2)
  (fun x=>x.2.length=n∧0<x.1.1∧0<x.1.2∧a+x.1.1≤m∧m+x.1.2≤b∧gk a b l x.2∧∀k,l[hQ a m b k]? =x.2[hQ (m-x.1.1) m (m+x.1.2) k]?) ((m-a,b-m),l)
  (H.weak av av (by simp[aB];omega) (by simp[cJ,aA]) aR aR) ⟨av,by simp;omega,by simp;omega,by simp;omega,by simp;omega,.refl _,fun k=>by simp[show m-(m-a)=a by omega,show m+(b-m)=b by omega]⟩ ?_
 rintro⟨⟨i,j⟩,lk⟩ ⟨J,hi,af,ga,EK,U,ao⟩ _;simp only at J hi af ga EK U ao;simp[Pv.look];((with_reducible repeat' first|refine aj ?_|simp[Pv.look]|((first|apply bL|apply bQ|apply bP)<;>intro h<;>try simp at h))<;>(try exact cq))
 ·have ak:((m:Int)-i)=(m-i:Nat):=by omega
  simp only[h9 H,H.slc,H.ssc,ak,h4];refine H.doFn J (IM H lk J (m-i) m j (by omega) (by omega)) (fun aZ h=>by rw[h.1.length];exact J) (by simp[aI,aB,H.kdata J]) ?_;rintro aZ ⟨a6,bE⟩;have bX:aZ.length=n:=by rw[a6.length];exact J
  simp;((with_reducible repeat' first|refine aj ?_|simp|((first|apply bL|apply bQ|apply bP)<;>intro h<;>try simp at h))<;>(try exact cq));refine bO.whl ((i-j,j),aZ) (by simp;omega) ⟨bX,by simp;omega,af,by simp;omega,EK,U.trans (a6.mono (by omega) (by omega)),fun k=>?_⟩ (H.weakC av bX (by simp[aB];omega));rw[ao,bE];congr 1;simp only[hQ,rU];repeat' split
  all_goals omega
 ·have ak:((m:Int)-i)=(m-i:Nat):=by omega
  have aC:((m:Int)+j-i)=(m+j-i:Nat):=by omega
  simp only[h9 H,H.slc,H.ssc,ak,aC,h4];refine H.doFn J (IM H lk J (m-i) (m+j-i) i (by omega) (by omega)) (fun aZ h=>by rw[h.1.length];exact J) (by simp[aI,aB,H.kdata J]) ?_;rintro aZ ⟨a6,bE⟩;have bX:aZ.length=n:=by rw[a6.length];exact J
  simp;(with_reducible repeat' first|refine aj ?_|simp);refine bO.whl ((i,j-i),aZ) (by simp;omega) ⟨bX,hi,by simp;omega,ga,by simp;omega,U.trans (a6.mono (by omega) (by omega)),fun k=>?_⟩ (H.weakC av bX (by simp[aB];omega));rw[ao,bE];congr 1;simp only[hQ,rU];repeat' split
  all_goals omega
 ·have ak:((m:Int)-i)=(m-i:Nat):=by omega
  simp only[h9 H,H.slc,H.ssc,ak,h4];refine H.doFn J (IM H lk J (m-i) m i (by omega) (by omega)) (fun aZ h=>by rw[h.1.length];exact J) (by simp[aI,aB,H.kdata J]) ?_;rintro aZ ⟨a6,bE⟩;have bX:aZ.length=n:=by rw[a6.length];exact J
  simp;refine H.ret av bX (.inr rfl) ⟨rfl,aZ,rfl,U.trans (a6.mono (by omega) (by omega)),fun k=>?_⟩;rw[ao,bE];congr 1;simp only[hQ,rU];repeat' split
  all_goals omega
end Go.Proofs.YtahlgcidhnjlbaaGreat
namespace Go.Proofs.YtahlgcidhnjlbaaGreat
open Go Go.Pv
variable {α:Type} {S:List α→cK} {n g b8:Nat} {lc b3:List ah} {lt:α→α→Bool}
def tt(lt:α→α→Bool)(a b j:Nat)(l:List α):Prop:= ∀p q x y,a≤p→p<q→q<b→q≠j→l[p]? =some x→l[q]? =some y→lt y x=false
theorem tt.swap(bD:p9 lt){a b j:Nat}{l:List α}(h:tt lt a b (j+1) l)(Ra:a≤j)(EK:j+1<b)(af:j+1<l.length){x y:α}(ae:l[j+1]? =some x)(aL:l[j]? =some y)(hL:lt x y=true):tt lt a b j (gY l (j+1) j):=by
 intro p q u v bI kl br an1 hu aG;rw[zF _ _ _ _ af (by omega)]at hu aG;rw[if_neg (by omega:¬(q=j))]at aG;split at aG
 ·rename_i e;subst e;rw[aL]at aG;cases aG;split at hu
  ·omega
  ·split at hu
   ·rw[ae]at hu;cases hu;exact bD.asym _ _ hL
   ·exact h p j u y bI (by omega) (by omega) (by omega) hu aL
 ·split at hu
  ·rename_i e;subst e;rw[aL]at hu;cases hu;exact h j q y v Ra (by omega) br (by omega) aL aG
  ·split at hu
   ·rename_i e;subst e;rw[ae]at hu;cases hu;exact h (p+1) q x v (by omega) (by omega) br (by omega) ae aG
   ·exact h p q u v bI kl br (by omega) hu aG
theorem tt.done(bD:p9 lt){a b j:Nat}{l:List α}(h:tt lt a b (j+1) l)(Ra:a≤j)(EK:j+1<b){x y:α}(ae:l[j+1]? =some x)(aL:l[j]? =some y)(hL:lt x y=false):e4 lt a b l:=by
 intro p q u v bI kl br hu aG;by_cases e:q=j+1
 ·subst e;rw[ae]at aG;cases aG;by_cases aC:p=j
  ·subst aC;rw[aL]at hu;cases hu;exact hL
  ·exact bD.ntr _ _ _ (h p j u y bI (by omega) (by omega) (by omega) hu aL) hL
 ·exact h p q u v bI kl br e hu aG
theorem tt.first{a b:Nat}{l:List α}(h:tt lt a b a l):e4 lt a b l:=fun p q u v bI kl br hu aG=>h p q u v bI kl br (by omega) hu aG
theorem e4.but{a b:Nat}{l:List α}(h:e4 lt a b l):tt lt a (b+1) b l:=fun p q u v bI kl br Jp hu aG=>h p q u v bI kl (by omega) hu aG
theorem QM(H:eW S n g b8 lc b3 lt)(bD:p9 lt)(l:List α)(av:l.length=n)(a b:Nat)(mO:a≤b)(ad:b≤n):
  bN al 231 [eN g b8 lc b3,.int .i64 a,.int .i64 b] (S l) fun r ai=>r= .tuple []∧∃aZ,ai=S aZ∧gk a b l aZ∧e4 lt a b aZ:=by
 have ag:=H.ok l;have aA:∀l m,Pv.look (.loc m) (S l).b=none:=fun l=>(H.ok l).obj.1;have hu:∀l m cs,cA (.loc m) cs (S l).b=(S l).b++[(.loc m,cs)]:=fun l m cs=>jT (aA l m);have ax:∀m,aH.loc m∉cV (S l):=jO ag.obj;have hle:=H.le;refine bN.mk mixed Az Qo T4 (by simp) ag.obj fun aQ cL=>?_;unfold HI;simp[eN,hu,ax,cJ,aA];(with_reducible repeat' first|refine aj ?_|simp[hu,ax,cJ,aA]);refine n1 (fun(x:Nat×List α)=>⟨[(1,.int .i64 a),(2,.int .i64 b),(3,.ptr (.loc 0) 0),(6,.int .i64 x.1)],(.loc 0,[.func g lc,.func b8 b3])::(S x.2).b,(S x.2).e,1,cV (S l)⟩) (fun x=>b+1-x.1)
  (fun x=>x.2.length=n∧a<x.1∧x.1≤b+1∧(x.1≤b∨x.1=a+1)∧gk a b l x.2∧e4 lt a x.1 x.2) (a+1,l)
  (H.weak av av (by simp[aB]) (by simp[cJ,aA]) aR aR) ⟨av,by simp,by simp;omega,.inr rfl,.refl _,fun i j x y J U ao=>by simp at ao;omega⟩ ?_
 rintro⟨i,lk⟩ ⟨J,mP,za,sD,U,ao⟩ _;simp only at J mP za sD U ao;simp;((with_reducible repeat' first|refine aj ?_|simp|((first|apply bL|apply bQ|apply bP)<;>intro h<;>try simp at h))<;>(try exact cq))
 ·refine n1 (fun(x:Nat×List α)=>⟨[(1,.int .i64 a),(2,.int .i64 b),(3,.ptr (.loc 0) 0),(6,.int .i64 i),(7,.int .i64 x.1)],(.loc 0,[.func g lc,.func b8 b3])::(S x.2).b,(S x.2).e,1,cV (S l)⟩) (fun x=>x.1)
   (fun x=>x.2.length=n∧a≤x.1∧x.1≤i∧gk a b l x.2∧tt lt a (i+1) x.1 x.2) (i,lk)
   (H.weakC av J (by simp[aB])) ⟨J,by simp;omega,by simp,U,e4.but ao⟩ ?_
  rintro⟨j,Cj⟩ ⟨aU,ae9,afo,bG,b9⟩ _;simp only at aU ae9 afo bG b9;simp[Pv.look];((with_reducible repeat' first|refine aj ?_|simp[Pv.look]|((first|apply bL|apply bQ|apply bP)<;>intro h<;>try simp at h))<;>(try exact cq))
  ·obtain⟨dx,rfl⟩:∃dx,j=dx+1:=⟨j-1,by omega⟩;obtain⟨x,ae⟩:∃x,Cj[dx+1]? =some x:=⟨_,cf (by omega)⟩;obtain⟨y,aL⟩:∃y,Cj[dx]? =some y:=⟨_,cf (by omega)⟩;have ak:(((dx+1:Nat):Int)-1)=(dx:Nat):=by omega
   rw[H.slc,ak];refine H.doLess aU (dx+1) dx ae aL ?_;simp;cases hL:lt x y with
   |true=>
    simp[Pv.look];(with_reducible repeat' first|refine aj ?_|simp[Pv.look]);have bk:((dx:Int)+1)=(dx+1:Nat):=by omega
    rw[H.ssc,bk];refine H.doSwap aU (dx+1) dx (by omega) (by omega) (by omega) ?_;simp;(with_reducible repeat' first|refine aj ?_|simp);refine bO.whl (dx,gY Cj (dx+1) dx) (by simp) ⟨by simp[aU],by simp;omega,by simp;omega,.step bG (by omega) (by omega) (by omega) (by omega) (by omega) (by omega),b9.swap bD (by omega) (by omega) (by omega) ae aL hL⟩ (H.weakC av (by simp[aU]) (by simp[aB]))
   |false=>simp;((with_reducible repeat' first|refine aj ?_|simp|((first|apply bL|apply bQ|apply bP)<;>intro h<;>try simp at h))<;>(try exact cq));refine bO.whl (i+1,Cj) (by simp;omega) ⟨aU,by simp;omega,by simp;omega,by simp;omega,bG,b9.done bD (by omega) (by omega) ae aL hL⟩ (H.weakC av aU (by simp[aB]))
  ·obtain rfl:j=a:=by omega
   refine bO.whl (i+1,Cj) (by simp;omega) ⟨aU,by simp;omega,by simp;omega,by simp;omega,bG,b9.first⟩ (H.weakC av aU (by simp[aB]))
 ·refine H.ret av J (.inr rfl) ⟨rfl,lk,rfl,U,fun p q x y bI kl br=>ao p q x y bI kl (by omega)⟩
end Go.Proofs.YtahlgcidhnjlbaaGreat
namespace Go.Proofs.YtahlgcidhnjlbaaGreat
open Go Go.Pv
variable {α:Type} [Inhabited α] {S:List α→cK} {n g b8:Nat} {lc b3:List ah} {lt:α→α→Bool}
theorem yx{d:Array α}{i:Nat}(h:i<d.size):d.toList[i]? =some d[i]!:=by simp[getElem!_pos,h]
theorem Fx(d:Array α){i j:Nat}(hi:i<d.size)(af:j<d.size):gY d.toList i j=(Sort.swp d i j).toList:=by simp[gY,Sort.swp,yx hi,yx af]
section
variable (H:eW S n g b8 lc b3 lt)
include H
theorem eW.swapA{d:Array α}(J:d.size=n)(U:2≤n)(i j:Nat)(hi:i<n)(af:j<n){t:List (Nat×ah)}{D:List ah}{o:List aH}{cc:aY Nat}{K:bq→Prop}
  (h:∀o,K ⟨eH cc (.tuple []) t,(.loc 0,D)::(S (Sort.swp d i j).toList).b,(S (Sort.swp d i j).toList).e,1,o⟩):c6 al b8 (.int .i64 i:: .int .i64 j::b3) ⟨t,(.loc 0,D)::(S d.toList).b,(S d.toList).e,1,o⟩ cc K:=by
 refine H.doSwap (by simpa using J) i j hi af U ?_;rw[Fx d (by omega) (by omega)];exact h _
theorem eW.lessA{d:Array α}(J:d.size=n)(i j:Nat)(hi:i<n)(af:j<n){t:List (Nat×ah)}{D:List ah}{o:List aH}{cc:aY Nat}{K:bq→Prop}
  (h:∀o,K ⟨eH cc (.bool (lt d[i]! d[j]!)) t,(.loc 0,D)::(S d.toList).b,(S d.toList).e,1,o⟩):c6 al g (.int .i64 i:: .int .i64 j::lc) ⟨t,(.loc 0,D)::(S d.toList).b,(S d.toList).e,1,o⟩ cc K:=
 H.doLess (by simpa using J) i j (yx (by omega)) (yx (by omega)) (h _)
theorem eW.fnA{d d2:Array α}(J:d.size=n)(U:d2.size=n){f:Nat}{args:List ah}{r:ah}(aJ:bN al f args (S d.toList) fun eC ai=>eC=r∧ai=S d2.toList)(ab:aI (inObs (S d.toList)) args){t:List (Nat×ah)}{D:List ah}{o:List aH}{cc:aY Nat}{K:bq→Prop}
  (h:∀o,K ⟨eH cc r t,(.loc 0,D)::(S d2.toList).b,(S d2.toList).e,1,o⟩):c6 al f args ⟨t,(.loc 0,D)::(S d.toList).b,(S d.toList).e,1,o⟩ cc K:=
 H.call (by simpa using J) (R:=fun eC aZ=>eC=r∧aZ=d2.toList) (aJ.mono fun r ai ⟨ak,aC⟩=>⟨_,aC,ak,rfl⟩) (fun r aZ ⟨_,e⟩=>by rw[e];simpa using U) ab (by rintro eC aZ ⟨rfl,rfl⟩;exact h _)
end
section
variable (H:eW S n g b8 lc b3 lt)
include H
theorem eW.loopA{β:Type}{xI:List α}(av:xI.length=n){t:List (Nat×ah)}{b:List (aH×List ah)}{e:List (aH×fK)}{q:Nat}{o:List aH}(cd:List Nat)(cs:β→List (Nat×ah))(A:β→Array α)(mz:β→Nat)(gK:β→Prop)(a0:β)(bg:(A a0).size=n)(bA:gK a0)
  (vh:Pv.look (.loc 0) b=some [.func g lc,.func b8 b3]) (ad:∀k cs,Pv.look k (S (A a0).toList).b=some cs→Pv.look k b=some cs) (he:∀k o,Pv.look k (S (A a0).toList).e=some o→Pv.look k e=some o)
  (aO:∀x∈ue t cd++cs a0,Pv.get x.1 t=x.2∧aB (lV (S (A a0).toList) 1) x.2) {c:C} {Q:Exit→bq→Prop}
  (ag:∀a,gK a→cW al (cV (S xI)) c (bO (cV (S xI)) (AK (fun a=>⟨ue t cd++cs a,(.loc 0,[.func g lc,.func b8 b3])::(S (A a).toList).b,(S (A a).toList).e,1,cV (S xI)⟩) mz gK) (mz a) Q) ⟨ue t cd++cs a,(.loc 0,[.func g lc,.func b8 b3])::(S (A a).toList).b,(S (A a).toList).e,1,cV (S xI)⟩):
  cW al (cV (S xI)) (.loop c) Q ⟨t,b,e,q,o⟩:=
 n1 (fun a=>⟨ue t cd++cs a,(.loc 0,[.func g lc,.func b8 b3])::(S (A a).toList).b,(S (A a).toList).e,1,cV (S xI)⟩) mz gK a0 (H.weak av (by simpa using bg) aO vh ad he) bA fun a af _=>ag a af
theorem eW.callA0{lk:List α}(J:lk.length=n){f:Nat}{args:List ah}{R:ah→List α→Prop}(aJ:bN al f args (S lk) fun r ai=> ∃aZ,ai=S aZ∧R r aZ)(bf:∀r aZ,R r aZ→aZ.length=n)(ab:aI (inObs (S lk)) args){t:List (Nat×ah)}{D:List ah}{o:List aH}{d:aY Nat}{K:bq→Prop}
  (h:∀r aZ,R r aZ→∀o,K ⟨eH d r t,(.loc 0,D)::(S aZ).b,(S aZ).e,1,o⟩):c6 al f args ⟨t,(S lk).b++[(.loc 0,D)],(S lk).e,1,o⟩ d K:=by
 refine c6.ob aJ (H.ok lk) (fun k cs ae=>by rw[cJ,ae]) (fun _ _ ae=>ae) ab ?_;rintro r ai ⟨aZ,rfl,aK⟩;refine⟨H.same _ _ J (bf _ _ aK),?_⟩;have ak:cz (S lk).b ((S lk).b++[(.loc 0,D)])=[(.loc 0,D)]:=by rw[im,gR];simp[cz,H.loc]
 have aC:cz (S lk).e (S lk).e=[]:=gR _;have:=h _ _ aK (o++cV (S aZ));simp only[ak,aC];exact this
theorem eW.swapA0{d:Array α}(J:d.size=n)(U:2≤n)(i j:Nat)(hi:i<n)(af:j<n){t:List (Nat×ah)}{D:List ah}{o:List aH}{cc:aY Nat}{K:bq→Prop}
  (h:∀o,K ⟨eH cc (.tuple []) t,(.loc 0,D)::(S (Sort.swp d i j).toList).b,(S (Sort.swp d i j).toList).e,1,o⟩):c6 al b8 (.int .i64 i:: .int .i64 j::b3) ⟨t,(S d.toList).b++[(.loc 0,D)],(S d.toList).e,1,o⟩ cc K:=by
 refine H.callA0 (by simpa using J) (R:=fun r aZ=>r= .tuple []∧aZ=(Sort.swp d i j).toList) ((H.swap d.toList (by simpa using J) U i j hi af).mono fun r ai ⟨ak,aC⟩=>⟨_,aC,ak,Fx d (by omega) (by omega)⟩) (fun r aZ ⟨_,e⟩=>by rw[e];simp[Sort.swp,J]) (by simp[aB,aI,H.ksc d.toList (by simpa using J)]) ?_;rintro r aZ ⟨rfl,rfl⟩ o;exact h o
theorem eW.retA{l:List α}{d:Array α}(av:l.length=n)(J:d.size=n){Q:ah→cK→Prop}{e:Exit}(he:e= .ret∨e= .normal){t:List (Nat×ah)}{D:List ah}{q:Nat}{o:List aH}(br:Q (.tuple []) (S d.toList)):cT [] (S l) Q e ⟨t,(.loc 0,D)::(S d.toList).b,(S d.toList).e,q,o⟩:=H.ret av (by simpa using J) he br
theorem eW.retR{fc:List bu}{l:List α}{d:Array α}(av:l.length=n)(J:d.size=n){Q:ah→cK→Prop}{e:Exit}(he:e= .ret∨e= .normal){t:List (Nat×ah)}{D:List ah}{q:Nat}{o:List aH}(h:cY ⟨t,(.loc 0,D)::(S d.toList).b,(S d.toList).e,q,o⟩ fc fun r=>aB (inObs (S d.toList)) r∧Q r (S d.toList)):cT fc (S l) Q e ⟨t,(.loc 0,D)::(S d.toList).b,(S d.toList).e,q,o⟩:=by
 refine cT.at (S d.toList) he (H.ok _) (H.same _ _ av (by simpa using J)) (fun k cs ae=>?_) (fun _ _ ae=>ae) h;cases k with
 |loc m=>rw[H.loc m]at ae;cases ae
 |obj m=>simpa[Pv.look]using ae
end
theorem gH(d:Array α)(i j:Nat):(Sort.swp d i j).size=d.size:=by simp[Sort.swp]
end Go.Proofs.YtahlgcidhnjlbaaGreat
namespace Go.Proofs.YtahlgcidhnjlbaaGreat
open Go Go.Pv
def OG:C:=(aa [bS 2 0] (.seq (.cond (.c (.bool false)) (aa [I 3 0,b7 4 (.conv .u32 (.t 3)),cM 5 236 4,I 2 5] .ret) .skip) (aa [I 6 0,cM 7 237 6,I 2 7] .ret)))
@[simp] def ajh:List bu:=[.tmp 2]
def HJ:C:=(aa [a7 91 2 4,I 92 1,I 93 2,I 94 11,dK 95 244 [.t 91,.t 92,.t 93,.t 94],I 90 95,cH 96 0 90,cH 97 1 90,I 14 96,I 15 97] (aa [I 98 15,I 9 98] (aa [I 99 14,I 100 1,bh 101 .sub 99 100,I 102 2,I 103 14,bh 104 .sub 102 103,I 16 101,I 17 104] (aa [I 105 10,aT 106 .quo 105 8,I 18 106] (aa [I 107 16,I 108 17,bh 109 .lss 107 108] (aS 109 (aa [I 110 16,I 111 18,bh 112 .geq 110 111,I 8 112] (aa [a7 113 2 4,I 114 1,I 115 14,I 116 3,dK 117 214 [.t 113,.t 114,.t 115,.t 116]] (.region [I 118 14,aT 119 .add 118 1,I 1 119]))) (aa [I 120 17,I 121 18,bh 122 .geq 120 121,I 8 122] (aa [a7 123 2 4,I 124 14,aT 125 .add 124 1,I 126 2,I 127 3,dK 128 214 [.t 123,.t 125,.t 126,.t 127]] (.region [I 129 14,I 2 129])))))))))
def A0:C:=(.seq (aa [I 73 1,aT 74 .gtr 73 0,I 75 74,aq 75 true (aF 76 0 1 4),aq 75 true (aw 77 1 76),bZ 75 true 78 1,aq 75 true (aT 79 .sub 78 1),bZ 75 true 80 11,aq 75 true (gD 81 77 [.t 79,.t 80]),aq 75 true (cx 82 81),dy 83 75 82] (aS 83 (aa [a7 84 2 4,I 85 1,I 86 2,I 87 11,dK 88 243 [.t 84,.t 85,.t 86,.t 87],I 13 88] (aa [I 89 13,I 1 89] (.exit 1))) .skip)) HJ)
def HK:C:=(.seq (aa [I 61 8,I 62 61,bZ 62 true 63 9,dy 64 62 63,I 65 64,bZ 65 true 66 12,aq 65 true (aT 67 .eql 66 1),dy 68 65 67] (aS 68 (aa [a7 69 2 4,I 70 1,I 71 2,dK 72 242 [.t 69,.t 70,.t 71]] (aS 72 .ret .skip)) .skip)) A0)
def HL:C:=(aa [a7 43 2 4,I 44 1,I 45 2,dK 46 240 [.t 43,.t 44,.t 45],I 42 46,cH 47 0 42,cH 48 1 42,I 11 47,I 12 48] (.seq (aa [I 49 12,aT 50 .eql 49 2] (aS 50 (aa [a7 51 2 4,I 52 1,I 53 2,dK 54 241 [.t 51,.t 52,.t 53]] (aa [I 55 2,aT 56 .sub 55 1,I 57 11,I 58 1,bh 59 .sub 57 58,bh 60 .sub 56 59,I 11 60] (.region [bS 12 1]))) .skip)) HK))
def OT:C:=(aa [cN 4 0] (aa [be 8 true] (aa [be 9 true] (.block 0 (.loop (.block 1 (aa [I 19 2,I 20 1,bh 21 .sub 19 20,I 10 21] (.seq (aa [I 22 10,aT 23 .leq 22 12] (aS 23 (aa [a7 24 2 4,I 25 1,I 26 2,dK 27 231 [.t 24,.t 25,.t 26]] .ret) .skip)) (.seq (aa [I 28 3,aT 29 .eql 28 0] (aS 29 (aa [a7 30 2 4,I 31 1,I 32 2,dK 33 238 [.t 30,.t 31,.t 32]] .ret) .skip)) (.seq (aa [I 34 8,cx 35 34] (aS 35 (aa [a7 36 2 4,I 37 1,I 38 2,dK 39 239 [.t 36,.t 37,.t 38]] (.region [I 40 3,aT 41 .sub 40 1,I 3 41])) .skip)) HL))))))))))
@[simp] def UY:List bu:=[]
@[simp] def aqf:List bu:=[.tmp 2]
def OH:C:=(aa [bS 2 0] (.seq (aa [I 3 0,b7 4 (.bin .geq false (.t 3) (.c (.int .u64 4294967296)))] (aS 4 (aa [I 5 0,b7 6 (.bin .shr false (.t 5) (.c (.int .u64 32))),I 0 6] (.region [bS 2 32])) .skip)) (.seq (aa [I 7 0,b7 8 (.bin .geq false (.t 7) (.c (.int .u64 65536)))] (aS 8 (aa [I 9 0,b7 10 (.bin .shr false (.t 9) (.c (.int .u64 16))),I 0 10] (.region [I 11 2,aT 12 .add 11 16,I 2 12])) .skip)) (.seq (aa [I 13 0,b7 14 (.bin .geq false (.t 13) (.c (.int .u64 256)))] (aS 14 (aa [I 15 0,b7 16 (.bin .shr false (.t 15) (.c (.int .u64 8))),I 0 16] (.region [I 17 2,aT 18 .add 17 8,I 2 18])) .skip)) (aa [I 19 2,I 20 0,b7 21 (.conv .u8 (.t 20)),b7 22 (.sidx (.c (.str [0,1,2,2,3,3,3,3,4,4,4,4,4,4,4,4,5,5,5,5,5,5,5,5,5,5,5,5,5,5,5,5,6,6,6,6,6,6,6,6,6,6,6,6,6,6,6,6,6,6,6,6,6,6,6,6,6,6,6,6,6,6,6,6,7,7,7,7,7,7,7,7,7,7,7,7,7,7,7,7,7,7,7,7,7,7,7,7,7,7,7,7,7,7,7,7,7,7,7,7,7,7,7,7,7,7,7,7,7,7,7,7,7,7,7,7,7,7,7,7,7,7,7,7,7,7,7,7,8,8,8,8,8,8,8,8,8,8,8,8,8,8,8,8,8,8,8,8,8,8,8,8,8,8,8,8,8,8,8,8,8,8,8,8,8,8,8,8,8,8,8,8,8,8,8,8,8,8,8,8,8,8,8,8,8,8,8,8,8,8,8,8,8,8,8,8,8,8,8,8,8,8,8,8,8,8,8,8,8,8,8,8,8,8,8,8,8,8,8,8,8,8,8,8,8,8,8,8,8,8,8,8,8,8,8,8,8,8,8,8,8,8,8,8,8,8,8,8,8,8,8,8,8,8,8,8])) (.t 21)),b7 23 (.conv .i64 (.t 22)),bh 24 .add 19 23,I 2 24] .ret)))))
@[simp] def Aa:List bu:=[.tmp 2]
def OL:C:=(aa [cN 3 0] (aa [I 11 1,I 6 11] (aa [bS 7 0] (aa [I 12 2,I 13 1,bh 14 .sub 12 13,I 8 14] (.seq (aa [I 15 8,aT 16 .sub 15 1,aT 17 .quo 16 2,I 9 17] (.block 0 (.loop (.seq (aa [I 18 9,aT 19 .geq 18 0] (aS 19 .skip (.exit 0))) (.seq (.block 1 (.region [a7 22 2 3,I 23 9,I 24 8,I 25 6,dK 26 252 [.t 22,.t 23,.t 24,.t 25]])) (.region [I 20 9,aT 21 .sub 20 1,I 9 21])))))) (aa [I 27 8,aT 28 .sub 27 1,I 10 28] (.block 2 (.loop (.seq (aa [I 29 10,aT 30 .geq 29 0] (aS 30 .skip (.exit 2))) (.seq (.block 3 (aa [aF 33 1 1 3,aw 34 1 33,I 35 6,I 36 6,I 37 10,bh 38 .add 36 37,gD 39 34 [.t 35,.t 38]] (.region [a7 40 2 3,I 41 7,I 42 10,I 43 6,dK 44 252 [.t 40,.t 41,.t 42,.t 43]]))) (.region [I 31 10,aT 32 .sub 31 1,I 10 32])))))))))))
@[simp] def aji:List bu:=[]
def OJ:C:=(aa [cN 3 0] (aa [I 11 2,I 12 1,bh 13 .sub 11 12,I 6 13] (aa [I 14 6,aT 15 .geq 14 8] (aS 15 (aa [I 16 6,b7 17 (.conv .u64 (.t 16)),cU (.alloc 7 (some 902) (.int .u64 0)),bM 1 7 17] (aa [I 18 6,cM 19 253 18,I 8 19] (aa [I 20 1,I 21 6,aT 22 .quo 21 4,aT 23 .mul 22 2,bh 24 .add 20 23,aT 25 .sub 24 1,I 9 25] (.block 0 (.loop (.seq (aa [I 26 9,I 27 1,I 28 6,aT 29 .quo 28 4,aT 30 .mul 29 2,bh 31 .add 27 30,aT 32 .add 31 1,bh 33 .leq 26 32] (aS 33 .skip (.exit 0))) (.seq (.block 1 (aa [cM 36 254 7,I 37 8,b7 38 (.bin .sub true (.t 37) (.c (.int .u64 1))),bh 39 .and 36 38,b7 40 (.conv .i64 (.t 39)),I 10 40] (.seq (aa [I 41 10,I 42 6,bh 43 .geq 41 42] (aS 43 (.region [I 44 10,I 45 6,bh 46 .sub 44 45,I 10 46]) .skip)) (.region [aF 47 1 1 3,aw 48 1 47,I 49 9,I 50 1,I 51 10,bh 52 .add 50 51,gD 53 48 [.t 49,.t 52]])))) (.region [I 34 9,aT 35 .add 34 1,I 9 35])))))))) .skip))))
@[simp] def UT:List bu:=[]
def OK:C:=(aa [cN 3 0,bS 6 0,bS 7 0] (aa [I 13 2,I 14 1,bh 15 .sub 13 14,I 8 15] (aa [cU (.alloc 9 (some 901) (.int .i64 0))] (aa [I 16 1,I 17 8,aT 18 .quo 17 4,aT 19 .mul 18 1,bh 20 .add 16 19,I 10 20] (aa [I 21 1,I 22 8,aT 23 .quo 22 4,aT 24 .mul 23 2,bh 25 .add 21 24,I 11 25] (aa [I 26 1,I 27 8,aT 28 .quo 27 4,aT 29 .mul 28 3,bh 30 .add 26 29,I 12 30] (.seq (aa [I 31 8,aT 32 .geq 31 8] (aS 32 (.seq (aa [I 33 8,aT 34 .geq 33 50] (aS 34 (aa [a7 35 2 3,I 36 10,dK 37 255 [.t 35,.t 36,.t 9],I 10 37] (aa [a7 38 2 3,I 39 11,dK 40 255 [.t 38,.t 39,.t 9],I 11 40] (.region [a7 41 2 3,I 42 12,dK 43 255 [.t 41,.t 42,.t 9],I 12 43]))) .skip)) (.region [a7 44 2 3,I 45 10,I 46 11,I 47 12,dK 48 256 [.t 44,.t 45,.t 46,.t 47,.t 9],I 11 48])) .skip)) (aa [aw 49 1 9] (.block 0 (aa [aT 52 .eql 49 0,I 51 52] (aS 51 (aa [I 53 11,I 6 53,bS 7 1] .ret) (aa [aT 55 .eql 49 12,I 54 55] (aS 54 (aa [I 56 11,I 6 56,bS 7 2] .ret) (aa [I 50 11,I 6 50,bS 7 0] .ret))))))))))))))
@[simp] def Lc:List bu:=[.tmp 6,.tmp 7]
def OU:C:=(aa [cN 3 0] (aa [I 8 1,I 6 8] (aa [I 9 2,aT 10 .sub 9 1,I 7 10] (.block 0 (.loop (.seq (aa [I 11 6,I 12 7,bh 13 .lss 11 12] (aS 13 .skip (.exit 0))) (.block 1 (aa [aF 14 1 1 3,aw 15 1 14,I 16 6,I 17 7,gD 18 15 [.t 16,.t 17]] (aa [I 19 6,aT 20 .add 19 1,I 6 20] (.region [I 21 7,aT 22 .sub 21 1,I 7 22]))))))))))
@[simp] def ajk:List bu:=[]
def OQ:C:=(aa [cN 3 0,be 6 false] (aa [I 11 1,aT 12 .add 11 1,I 7 12] (.seq (aa [bS 8 0] (.block 0 (.loop (.seq (aa [I 13 8,aT 14 .lss 13 5] (aS 14 .skip (.exit 0))) (.seq (.block 1 (.seq (.block 2 (.loop (.seq (aa [I 17 7,I 18 2,bh 19 .lss 17 18,I 20 19,aq 20 true (aF 21 0 1 3),aq 20 true (aw 22 1 21),bZ 20 true 23 7,bZ 20 true 24 7,aq 20 true (aT 25 .sub 24 1),aq 20 true (gD 26 22 [.t 23,.t 25]),aq 20 true (cx 27 26),dy 28 20 27] (aS 28 .skip (.exit 2))) (.block 3 (.region [I 29 7,aT 30 .add 29 1,I 7 30]))))) (.seq (aa [I 31 7,I 32 2,bh 33 .eql 31 32] (aS 33 (aa [be 6 true] .ret) .skip)) (.seq (aa [I 34 2,I 35 1,bh 36 .sub 34 35,aT 37 .lss 36 50] (aS 37 (aa [be 6 false] .ret) .skip)) (aa [aF 38 1 1 3,aw 39 1 38,I 40 7,I 41 7,aT 42 .sub 41 1,gD 43 39 [.t 40,.t 42]] (.seq (aa [I 44 7,I 45 1,bh 46 .sub 44 45,aT 47 .geq 46 2] (aS 47 (aa [I 48 7,aT 49 .sub 48 1,I 9 49] (.block 4 (.loop (.seq (aa [I 50 9,aT 51 .geq 50 1] (aS 51 .skip (.exit 4))) (.seq (.block 5 (.seq (aa [aF 54 0 1 3,aw 55 1 54,I 56 9,I 57 9,aT 58 .sub 57 1,gD 59 55 [.t 56,.t 58],cx 60 59] (aS 60 (.exit 4) .skip)) (.region [aF 61 1 1 3,aw 62 1 61,I 63 9,I 64 9,aT 65 .sub 64 1,gD 66 62 [.t 63,.t 65]]))) (.region [I 52 9,aT 53 .sub 52 1,I 9 53])))))) .skip)) (aa [I 67 2,I 68 7,bh 69 .sub 67 68,aT 70 .geq 69 2] (aS 70 (aa [I 71 7,aT 72 .add 71 1,I 10 72] (.block 6 (.loop (.seq (aa [I 73 10,I 74 2,bh 75 .lss 73 74] (aS 75 .skip (.exit 6))) (.seq (.block 7 (.seq (aa [aF 78 0 1 3,aw 79 1 78,I 80 10,I 81 10,aT 82 .sub 81 1,gD 83 79 [.t 80,.t 82],cx 84 83] (aS 84 (.exit 6) .skip)) (.region [aF 85 1 1 3,aw 86 1 85,I 87 10,I 88 10,aT 89 .sub 88 1,gD 90 86 [.t 87,.t 89]]))) (.region [I 76 10,aT 77 .add 76 1,I 10 77])))))) .skip)))))))) (.region [I 15 8,aT 16 .add 15 1,I 8 16])))))) (aa [be 6 false] .ret))))
@[simp] def F9:List bu:=[.tmp 6]
def OR:C:=(aa [cN 4 0,bS 8 0] (aa [aF 11 1 1 4,aw 12 1 11,I 13 1,I 14 3,gD 15 12 [.t 13,.t 14]] (aa [I 16 1,aT 17 .add 16 1,I 18 2,aT 19 .sub 18 1,I 9 17,I 10 19] (.seq (.block 0 (.loop (.block 1 (.seq (.block 2 (.loop (.seq (aa [I 20 9,I 21 10,bh 22 .leq 20 21,I 23 22,aq 23 true (aF 24 0 1 4),aq 23 true (aw 25 1 24),bZ 23 true 26 1,bZ 23 true 27 9,aq 23 true (gD 28 25 [.t 26,.t 27]),aq 23 true (cx 29 28),dy 30 23 29] (aS 30 .skip (.exit 2))) (.block 3 (.region [I 31 9,aT 32 .add 31 1,I 9 32]))))) (.seq (.block 4 (.loop (.seq (aa [I 33 9,I 34 10,bh 35 .leq 33 34,I 36 35,aq 36 true (aF 37 0 1 4),aq 36 true (aw 38 1 37),bZ 36 true 39 1,bZ 36 true 40 10,aq 36 true (gD 41 38 [.t 39,.t 40]),dy 42 36 41] (aS 42 .skip (.exit 4))) (.block 5 (.region [I 43 10,aT 44 .sub 43 1,I 10 44]))))) (.seq (aa [I 45 9,I 46 10,bh 47 .gtr 45 46] (aS 47 (.exit 0) .skip)) (aa [aF 48 1 1 4,aw 49 1 48,I 50 9,I 51 10,gD 52 49 [.t 50,.t 51]] (aa [I 53 9,aT 54 .add 53 1,I 9 54] (.region [I 55 10,aT 56 .sub 55 1,I 10 56]))))))))) (aa [I 57 9,I 8 57] .ret)))))
@[simp] def Le:List bu:=[.tmp 8]
def OS:C:=(aa [cN 4 0,bS 8 0,be 9 false] (aa [aF 12 1 1 4,aw 13 1 12,I 14 1,I 15 3,gD 16 13 [.t 14,.t 15]] (aa [I 17 1,aT 18 .add 17 1,I 19 2,aT 20 .sub 19 1,I 10 18,I 11 20] (.seq (.block 0 (.loop (.seq (aa [I 21 10,I 22 11,bh 23 .leq 21 22,I 24 23,aq 24 true (aF 25 0 1 4),aq 24 true (aw 26 1 25),bZ 24 true 27 10,bZ 24 true 28 1,aq 24 true (gD 29 26 [.t 27,.t 28]),dy 30 24 29] (aS 30 .skip (.exit 0))) (.block 1 (.region [I 31 10,aT 32 .add 31 1,I 10 32]))))) (.seq (.block 2 (.loop (.seq (aa [I 33 10,I 34 11,bh 35 .leq 33 34,I 36 35,aq 36 true (aF 37 0 1 4),aq 36 true (aw 38 1 37),bZ 36 true 39 11,bZ 36 true 40 1,aq 36 true (gD 41 38 [.t 39,.t 40]),aq 36 true (cx 42 41),dy 43 36 42] (aS 43 .skip (.exit 2))) (.block 3 (.region [I 44 11,aT 45 .sub 44 1,I 11 45]))))) (.seq (aa [I 46 10,I 47 11,bh 48 .gtr 46 47] (aS 48 (aa [aF 49 1 1 4,aw 50 1 49,I 51 11,I 52 1,gD 53 50 [.t 51,.t 52]] (aa [I 54 11,I 8 54,be 9 true] .ret)) .skip)) (aa [aF 55 1 1 4,aw 56 1 55,I 57 10,I 58 11,gD 59 56 [.t 57,.t 58]] (aa [I 60 10,aT 61 .add 60 1,I 10 61] (aa [I 62 11,aT 63 .sub 62 1,I 11 63] (.seq (.block 4 (.loop (.block 5 (.seq (.block 6 (.loop (.seq (aa [I 64 10,I 65 11,bh 66 .leq 64 65,I 67 66,aq 67 true (aF 68 0 1 4),aq 67 true (aw 69 1 68),bZ 67 true 70 10,bZ 67 true 71 1,aq 67 true (gD 72 69 [.t 70,.t 71]),dy 73 67 72] (aS 73 .skip (.exit 6))) (.block 7 (.region [I 74 10,aT 75 .add 74 1,I 10 75]))))) (.seq (.block 8 (.loop (.seq (aa [I 76 10,I 77 11,bh 78 .leq 76 77,I 79 78,aq 79 true (aF 80 0 1 4),aq 79 true (aw 81 1 80),bZ 79 true 82 11,bZ 79 true 83 1,aq 79 true (gD 84 81 [.t 82,.t 83]),aq 79 true (cx 85 84),dy 86 79 85] (aS 86 .skip (.exit 8))) (.block 9 (.region [I 87 11,aT 88 .sub 87 1,I 11 88]))))) (.seq (aa [I 89 10,I 90 11,bh 91 .gtr 89 90] (aS 91 (.exit 4) .skip)) (aa [aF 92 1 1 4,aw 93 1 92,I 94 10,I 95 11,gD 96 93 [.t 94,.t 95]] (aa [I 97 10,aT 98 .add 97 1,I 10 98] (.region [I 99 11,aT 100 .sub 99 1,I 11 100]))))))))) (aa [aF 101 1 1 4,aw 102 1 101,I 103 11,I 104 1,gD 105 102 [.t 103,.t 104]] (aa [I 106 11,I 8 106,be 9 false] .ret))))))))))))
@[simp] def CQ:List bu:=[.tmp 8,.tmp 9]
def OW:C:=(aa [cN 4 0] (aa [I 10 1,I 8 10] (.block 0 (.loop (.block 1 (aa [I 11 8,b7 12 (.bin .mul false (gr 2) (.t 11)),aT 13 .add 12 1,I 9 13] (.seq (aa [I 14 9,I 15 2,bh 16 .geq 14 15] (aS 16 (.exit 0) .skip)) (.seq (aa [I 17 9,aT 18 .add 17 1,I 19 2,bh 20 .lss 18 19,I 21 20,aq 21 true (aF 22 0 1 4),aq 21 true (aw 23 1 22),bZ 21 true 24 3,bZ 21 true 25 9,aq 21 true (bh 26 .add 24 25),bZ 21 true 27 3,bZ 21 true 28 9,aq 21 true (bh 29 .add 27 28),aq 21 true (aT 30 .add 29 1),aq 21 true (gD 31 23 [.t 26,.t 30]),dy 32 21 31] (aS 32 (.region [I 33 9,aT 34 .add 33 1,I 9 34]) .skip)) (.seq (aa [aF 35 0 1 4,aw 36 1 35,I 37 3,I 38 8,bh 39 .add 37 38,I 40 3,I 41 9,bh 42 .add 40 41,gD 43 36 [.t 39,.t 42],cx 44 43] (aS 44 .ret .skip)) (aa [aF 45 1 1 4,aw 46 1 45,I 47 3,I 48 8,bh 49 .add 47 48,I 50 3,I 51 9,bh 52 .add 50 51,gD 53 46 [.t 49,.t 52]] (.region [I 54 9,I 8 54])))))))))))
@[simp] def ajm:List bu:=[]
def OO:C:=(aa [b7 2 (.mov (.c (.int .u64 0)))] (aa [I 4 0,b7 5 (.conv .u64 (.t 4)),cM 6 213 5,b7 7 (.conv .u64 (.t 6)),I 3 7] (aa [I 8 3,b7 9 (.bin .shl false (.c (.int .u64 1)) (.t 8)),I 2 9] .ret)))
@[simp] def UX:List bu:=[.tmp 2]
def O0:C:=(aa [b7 2 (.mov (.c (.int .u64 0)))] (.seq (.drawn true 33 [I 3 0,fv 4 3,aw 5 1 4,I 6 0,fv 7 6,aw 8 1 7,b7 9 (.bin .shl false (.t 8) (.c (.int .u64 13))),bh 10 .xor 5 9,fv 11 3,bM 1 11 10]) (.seq (.drawn true 33 [I 12 0,fv 13 12,aw 14 1 13,I 15 0,fv 16 15,aw 17 1 16,b7 18 (.bin .shr false (.t 17) (.c (.int .u64 7))),bh 19 .xor 14 18,fv 20 12,bM 1 20 19]) (.seq (.drawn true 33 [I 21 0,fv 22 21,aw 23 1 22,I 24 0,fv 25 24,aw 26 1 25,b7 27 (.bin .shl false (.t 26) (.c (.int .u64 17))),bh 28 .xor 23 27,fv 29 21,bM 1 29 28]) (aa [I 30 0,fv 31 30,aw 32 1 31,I 2 32] .ret)))))
@[simp] def U0:List bu:=[.tmp 2]
def OM:C:=(aa [cN 3 0,bS 6 0] (aa [a7 7 2 3,I 8 1,aT 9 .sub 8 1,I 10 1,I 11 1,aT 12 .add 11 1,I 13 2,dK 14 256 [.t 7,.t 9,.t 10,.t 12,.t 13],I 6 14] .ret))
@[simp] def UU:List bu:=[.tmp 6]
def ON:C:=(aa [cN 5 0,bS 10 0] (aa [a7 12 2 5,I 13 1,I 14 2,I 15 4,dK 16 271 [.t 12,.t 13,.t 14,.t 15],I 11 16,cH 17 0 11,cH 18 1 11,I 1 17,I 2 18] (aa [a7 20 2 5,I 21 2,I 22 3,I 23 4,dK 24 271 [.t 20,.t 21,.t 22,.t 23],I 19 24,cH 25 0 19,cH 26 1 19,I 2 25,I 3 26] (aa [a7 28 2 5,I 29 1,I 30 2,I 31 4,dK 32 271 [.t 28,.t 29,.t 30,.t 31],I 27 32,cH 33 0 27,cH 34 1 27,I 1 33,I 2 34] (aa [I 35 2,I 10 35] .ret)))))
@[simp] def UW:List bu:=[.tmp 10]
def OP:C:=(aa [cN 4 0,bS 8 0,bS 9 0] (.seq (aa [aF 10 0 1 4,aw 11 1 10,I 12 2,I 13 1,gD 14 11 [.t 12,.t 13]] (aS 14 (aa [I 15 3,fv 16 15,aw 17 1 16,aT 18 .add 17 1,fv 19 15,bM 1 19 18] (aa [I 20 2,I 21 1,I 8 20,I 9 21] .ret)) .skip)) (aa [I 22 1,I 23 2,I 8 22,I 9 23] .ret)))
@[simp] def Ld:List bu:=[.tmp 8,.tmp 9]
def nh:List (Nat×dA):=[
 (3,⟨1,8,.int .i64,.int .i64 0⟩),
 (5,⟨1,1,.int .u8,.int .u8 0⟩),
 (9,⟨1,16,.str,.str []⟩),
 (143,⟨1,8,.other,.junk⟩),
 (181,⟨1,8,.other,.junk⟩),
 (185,⟨2,16,.struct [(0,143),(1,181)],.agg [.junk,.junk]⟩),
 (192,⟨1,8,.int .u64,.int .u64 0⟩),
 (206,⟨1,4,.int .u32,.int .u32 0⟩),
 (208,⟨1,8,.int .u64,.int .u64 0⟩),
 (222,⟨1,8,.int .u64,.int .u64 0⟩)]
theorem nK:fL al nh=true:=by kernel_rfl
theorem ahr:b0 nh OG ajh 1 Tryz.f213=true:=by kernel_rfl
theorem aaV:al.funcs[(213:Nat)]? =some Tryz.f213:=Tryz.func213
theorem ahE:b0 nh OT UY 4 Tryz.f214=true:=by kernel_rfl
theorem aa8:al.funcs[(214:Nat)]? =some Tryz.f214:=Tryz.func214
theorem ahs:b0 nh OH Aa 1 Tryz.f237=true:=by kernel_rfl
theorem aaW:al.funcs[(237:Nat)]? =some Tryz.f237:=Tryz.func237
theorem ahw:b0 nh OL aji 3 Tryz.f238=true:=by kernel_rfl
theorem aa0:al.funcs[(238:Nat)]? =some Tryz.f238:=Tryz.func238
theorem ahu:b0 nh OJ UT 3 Tryz.f239=true:=by kernel_rfl
theorem aaY:al.funcs[(239:Nat)]? =some Tryz.f239:=Tryz.func239
theorem ahv:b0 nh OK Lc 3 Tryz.f240=true:=by kernel_rfl
theorem aaZ:al.funcs[(240:Nat)]? =some Tryz.f240:=Tryz.func240
theorem ahF:b0 nh OU ajk 3 Tryz.f241=true:=by kernel_rfl
theorem aa9:al.funcs[(241:Nat)]? =some Tryz.f241:=Tryz.func241
theorem ahB:b0 nh OQ F9 3 Tryz.f242=true:=by kernel_rfl
theorem aa5:al.funcs[(242:Nat)]? =some Tryz.f242:=Tryz.func242
theorem ahC:b0 nh OR Le 4 Tryz.f243=true:=by kernel_rfl
theorem aa6:al.funcs[(243:Nat)]? =some Tryz.f243:=Tryz.func243
theorem ahD:b0 nh OS CQ 4 Tryz.f244=true:=by kernel_rfl
theorem aa7:al.funcs[(244:Nat)]? =some Tryz.f244:=Tryz.func244
theorem ahH:b0 nh OW ajm 4 Tryz.f252=true:=by kernel_rfl
theorem abb:al.funcs[(252:Nat)]? =some Tryz.f252:=Tryz.func252
theorem ahz:b0 nh OO UX 1 Tryz.f253=true:=by kernel_rfl
theorem aa3:al.funcs[(253:Nat)]? =some Tryz.f253:=Tryz.func253
theorem ahL:b0 nh O0 U0 1 Tryz.f254=true:=by kernel_rfl
theorem abf:al.funcs[(254:Nat)]? =some Tryz.f254:=Tryz.func254
theorem ahx:b0 nh OM UU 3 Tryz.f255=true:=by kernel_rfl
theorem aa1:al.funcs[(255:Nat)]? =some Tryz.f255:=Tryz.func255
theorem ahy:b0 nh ON UW 5 Tryz.f256=true:=by kernel_rfl
theorem aa2:al.funcs[(256:Nat)]? =some Tryz.f256:=Tryz.func256
theorem ahA:b0 nh OP Ld 4 Tryz.f271=true:=by kernel_rfl
theorem aa4:al.funcs[(271:Nat)]? =some Tryz.f271:=Tryz.func271
end Go.Proofs.YtahlgcidhnjlbaaGreat
