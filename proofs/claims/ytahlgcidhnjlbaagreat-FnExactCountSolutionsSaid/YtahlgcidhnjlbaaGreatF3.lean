/- made by mk2.py: the code of the functions, and the checks against the program's own form. -/
import Derived.Test.YtahlgcidhnjlbaaGreatProg
import Derived.Shelf.Sort.Plain
import Derived.Ground.NamesProg
import Derived.Sort.OwnSortedInts
import Derived.Lib.OwnBridge
import Derived.Sort.AssemblyPlain
import Derived.Sort.LotD5
import Derived.Test.YtahlgcidhnjlbaaGreatF2
set_option linter.all false
set_option maxHeartbeats 4000000
open Bool renaming and_eq_true→cC,eq_iff_iff→qq,false_eq_true→gX,or_eq_true→lX
open Go renaming Program→cE
open Go.IntKind renaming bits→od,i64→pQ,signed→sr,u64→hl,wrap→ss
open Go.IntWalk renaming i64_in→oe
open Go.Op renaming bytesLess→hv
open Go.Proofs.Tryz renaming prog→ao
open Go.Value renaming cells→pR
open List renaming all_eq_true→gn,cons_append→bX,drop→nF,drop_eq_getElem_cons→kP,getElem?_eq_getElem→bZ,getElem?_eq_none→qt,getElem?_eq_some_iff→e1,getElem?_map→ri,getElem_of_mem→nG,length_append→o5,length_cons→o6,length_drop→sw,map_cons→gO,mem_append→kQ,mem_cons→fR,mem_filter→nH,mem_map→h5,mem_of_getElem?→dK,nil_append→b2,pairwise_cons→mR,pairwise_iff_getElem→o7,take_of_length_le→hG
open List.Nodup renaming length_le_of_subset→NP
open List.Pairwise renaming filter→Yt,imp_of_mem→aom,sublist→atN
open List.Perm renaming eq_of_pairwise→NQ,swap→atO
open List.cons renaming injEq→qs
open Nat renaming le_refl→eR,le_trans→jT
open Ne renaming symm→k6
open Option renaming bind_eq_some_iff→mS,getD_none→nI,getD_some→ka,map_eq_some_iff→gz,map_some→oh
open Option.some renaming inj→eE,injEq→dL
open Prod.mk renaming injEq→jy
open _root_ renaming False→eQ,Option→aZ,UInt8→dE,beq_iff_eq→dQ,congrArg→eB,decide_eq_false→iB,decide_eq_false_iff_not→gI,decide_eq_true→gJ,decide_eq_true_eq→e2
namespace Go.Pv
open Go
structure bM where
 v:Int
 k:Int
 deriving DecidableEq,Inhabited
def bM.e(b:bM):ah:= .agg [.int .i64 b.v,.int .i64 b.k]
@[simp] theorem bM.eta(b:bM):bM.mk b.v b.k=b:=rfl
@[simp] theorem N7(v k:Int):ah.agg [.int .i64 v,.int .i64 k]=(bM.mk v k).e:=rfl
@[simp] theorem aqP(S:aI→Prop)(b:bM):aB S b.e=True:=by simp[bM.e,-N7]
@[simp] theorem att(b:bM):dm b.e=b.e:=by simp[bM.e,-N7]
theorem Ub(S:aI→Prop):∀l:List bM,aH S (l.map bM.e)
 |[]=>by simp[aH]
 |x::xs=>by simp[aH,Ub S xs]
@[simp] theorem aqy(S:aI→Prop)(l:List bM):aH S (l.map bM.e)=True:=eq_true (Ub S l)
@[simp] theorem M1:∀l:List bM,cR (l.map bM.e)=l.map bM.e
 |[]=>rfl
 |x::xs=>by simp[cR,M1 xs]
@[simp] theorem as3(b:bM):ec b.e=true:=rfl
@[simp] theorem aoZ(b:bM):cells b.e=[.int .i64 b.v,.int .i64 b.k]:=rfl
@[simp] theorem aqg(b:bM):Pv.isAgg 2 b.e:=⟨_,rfl,rfl⟩
@[simp] theorem apA(off:Nat)(e5:Bool)(sz:Nat)(b:bM):rC off e5 sz b.e=if e5 then some (off+sz≤2,.agg (([.int .i64 b.v,.int .i64 b.k].drop off).take sz))else(([.int .i64 b.v,.int .i64 b.k]:List ah)[off]?).map fun p=>(True,p):=rfl
@[simp] theorem apq(off:Nat)(e5:Bool)(sz:Nat)(b:bM):p0 off e5 sz (.eptr b.e)=if e5 then some (off+sz≤2,.eptr (.agg (([.int .i64 b.v,.int .i64 b.k].drop off).take sz)))else(([.int .i64 b.v,.int .i64 b.k]:List ah)[off]?).map fun p=>(ec p=true∧cells p=[p],.eptr p):=rfl
structure bm where
 v:Int
 s:List dE
 deriving DecidableEq,Inhabited
def bm.e(b:bm):ah:= .agg [.int .i64 b.v,.str b.s]
@[simp] theorem bm.eta(b:bm):bm.mk b.v b.s=b:=rfl
@[simp] theorem Ij(v:Int)(s:List dE):ah.agg [.int .i64 v,.str s]=(bm.mk v s).e:=rfl
@[simp] theorem agV(S:aI→Prop)(b:bm):aB S b.e=True:=by simp[bm.e,-Ij]
@[simp] theorem atx(b:bm):dm b.e=b.e:=by simp[bm.e,-Ij]
theorem K1(S:aI→Prop):∀l:List bm,aH S (l.map bm.e)
 |[]=>by simp[aH]
 |x::xs=>by simp[aH,K1 S xs]
@[simp] theorem Ud(S:aI→Prop)(l:List bm):aH S (l.map bm.e)=True:=eq_true (K1 S l)
@[simp] theorem M2:∀l:List bm,cR (l.map bm.e)=l.map bm.e
 |[]=>rfl
 |x::xs=>by simp[cR,M2 xs]
@[simp] theorem as7(b:bm):ec b.e=true:=rfl
@[simp] theorem ao3(b:bm):cells b.e=[.int .i64 b.v,.str b.s]:=rfl
@[simp] theorem aqi(b:bm):Pv.isAgg 2 b.e:=⟨_,rfl,rfl⟩
@[simp] theorem apB(off:Nat)(e5:Bool)(sz:Nat)(b:bm):rC off e5 sz b.e=if e5 then some (off+sz≤2,.agg (([.int .i64 b.v,.str b.s].drop off).take sz))else(([.int .i64 b.v,.str b.s]:List ah)[off]?).map fun p=>(True,p):=rfl
@[simp] theorem apr(off:Nat)(e5:Bool)(sz:Nat)(b:bm):p0 off e5 sz (.eptr b.e)=if e5 then some (off+sz≤2,.eptr (.agg (([.int .i64 b.v,.str b.s].drop off).take sz)))else(([.int .i64 b.v,.str b.s]:List ah)[off]?).map fun p=>(ec p=true∧cells p=[p],.eptr p):=rfl
def fe(x y:bm):Int:=if ey x.v y.v=0 then kL x.s y.s else ey x.v y.v
theorem lR:jz fe:=by
 refine⟨fun x y=>?_,fun x y z J U=>?_,fun x y=>?_⟩
 ·unfold fe;have:=km.neg x.v y.v;have:=Du.neg x.s y.s;by_cases e:ey x.v y.v=0
  ·rw[if_pos e,if_pos (by omega)];omega
  ·rw[if_neg e,if_neg (by omega)];omega
 ·unfold fe at J U⊢;by_cases ak:ey x.v y.v=0
  ·rw[if_pos ak]at J;rw[(km.zero _ _).1 ak];by_cases aE:ey y.v z.v=0
   ·rw[if_pos aE]at U⊢;exact Du.tr _ _ _ J U
   ·rw[if_neg aE]at U⊢;exact U
  ·rw[if_neg ak]at J;have bE:ey x.v y.v<0:=by omega
   by_cases aE:ey y.v z.v=0
   ·rw[←(km.zero _ _).1 aE,if_neg ak];exact J
   ·rw[if_neg aE]at U;have:=km.ltr bE U;rw[if_neg (by omega)];omega
 ·unfold fe;by_cases e:ey x.v y.v=0
  ·rw[if_pos e,Du.zero];have:=(km.zero _ _).1 e;cases x;cases y;simp_all
  ·rw[if_neg e];exact⟨fun h=>absurd h e,fun h=>by rw[h]at e;exact absurd (km.refl _) e⟩
def tk(x y:bm):Bool:=decide (x.v<y.v)||(x.v==y.v&&hv x.s y.s)
theorem Zm(a:List dE):hv a a=false:=by
 cases h:hv a a with
 |false=>rfl
 |true=>rw[Is a a h]at h;cases h
theorem UX(x y:bm):tk x y=hL fe x y:=by
 unfold tk hL fe;rw[qq];simp only[lX,e2,cC,dQ];by_cases e:x.v=y.v
 ·have:ey x.v y.v=0:=(km.zero _ _).2 e;rw[if_pos this];simp only[e,Int.lt_irrefl,false_or,true_and,kL];by_cases aE:x.s=y.s
  ·rw[if_pos aE,aE,Zm];simp
  ·rw[if_neg aE];split<;>simp_all
 ·have bn:¬ey x.v y.v=0:=fun h=>e ((km.zero _ _).1 h);rw[if_neg bn];simp only[e,false_and,or_false];unfold ey;(repeat' split)<;>omega
def h9{α:Type}(p:α→Prop)(r:α→α→Prop)(l:List α)(i:Nat):Prop:= ∀b,l[i]? =some b→p b∧∀c,0<i→l[i-1]? =some c→r c b
theorem N3{α:Type}{p:α→Prop}{r:α→α→Prop}(aK:∀a b c,r a b→r b c→r a c){l:List α}:(∀i,i<l.length→h9 p r l i)↔(∀b∈l,p b)∧l.Pairwise r:=by
 constructor
 ·intro h;refine⟨fun b ad=>?_,?_⟩
  ·obtain⟨i,hi,e⟩:=nG ad;exact(h i hi b (by rw[bZ hi,e])).1
  ·rw[o7];have hc:∀i (h:i+1<l.length),r l[i] l[i+1]:=fun i hi=>(h (i+1) hi l[i+1] (by simp[bZ hi])).2 l[i] (by omega) (by simp[bZ (show i<l.length by omega)]);have:∀(d i:Nat) (h:i+d+1<l.length),r l[i] l[i+d+1]:=by
    intro d;induction d with
    |zero=>intro i h;exact hc i h
    |succ d bO=>intro i h;exact aK _ _ _ (bO i (by omega)) (hc (i+d+1) (by omega))
   intro i j hi ae lF;have:=this (j-i-1) i (by omega);simpa[show i+(j-i-1)+1=j from by omega]using this
 ·rintro⟨J,U⟩ i hi b ad;refine⟨J b (dK ad),fun c bn au=>?_⟩;obtain⟨g1,ak⟩:=e1.1 au;obtain⟨g2,aE⟩:=e1.1 ad;have:=o7.1 U (i-1) i g1 g2 (by omega);rw[ak,aE]at this;exact this
def kk{α:Type}(c:α→α→Int)(x:α):List α→List α
 |[]=>[x]
 |y::l=>if c y x<0 then y::kk c x l else if c y x=0 then y::l else x::y::l
section
variable {α:Type} {c:α→α→Int}
theorem Gw(au:jz c){x z:α}:∀{l:List α},z∈kk c x l↔z=x∨z∈l
 |[]=>by simp[kk]
 |y::l=>by
  simp only[kk];split
  ·simp only[fR,Gw au (l:=l)];constructor
   ·rintro(h|h|h)
    ·exact .inr (.inl h)
    ·exact .inl h
    ·exact .inr (.inr h)
   ·rintro(h|h|h)
    ·exact .inr (.inl h)
    ·exact .inl h
    ·exact .inr (.inr h)
  ·split
   ·rename_i h;obtain rfl:=(au.zero _ _).1 h;simp
   ·simp
theorem KK(au:jz c){x:α}:∀{l:List α},hN c l→hN c (kk c x l)
 |[],_=>by simp[kk,hN]
 |y::l,h=>by
  obtain⟨J,U⟩:=mR.1 h;simp only[kk];split
  ·rename_i ar;refine mR.2 ⟨fun z br=>?_,KK au U⟩;rcases(Gw au).1 br with rfl|br
   ·exact ar
   ·exact J z br
  ·split
   ·exact h
   ·rename_i ar ba;have hR:c x y<0:=by have:=au.neg x y;omega
    refine mR.2 ⟨fun z br=>?_,h⟩;rcases fR.1 br with rfl|br
    ·exact hR
    ·exact au.ltr hR (by have:=J z br;omega)
theorem KM(x:α):∀l:List α,(kk c x l).length≤l.length+1
 |[]=>by simp[kk]
 |y::l=>by
  have:=KM x l;simp only[kk];split
  ·simp;omega
  ·split<;>simp
theorem KL(au:jz c)(x:α):∀(l:List α) (k:Nat),(∀i y,i<k→l[i]? =some y→c y x<0)→(∀y,l[k]? =some y→0≤c y x)→k≤l.length→kk c x l=if(match l[k]? with|some y=>decide (c y x=0)|none=>false)=true then l else l.take k++x::l.drop k
 |[],k,_,_,ab=>by simp at ab;subst ab;simp[kk]
 |y::l,0,_,U,_=>by
  have:=U y rfl;by_cases e:c y x=0
  ·simp[kk,e]
  ·have ar:¬c y x<0:=by omega
   simp[kk,ar,e]
 |y::l,k+1,J,U,ab=>by
  have bn:=J 0 y (by omega) rfl;simp only[kk,if_pos bn,List.take_succ_cons,List.drop_succ_cons,bX,List.getElem?_cons_succ];rw[KL au x l k (fun i d hi aQ=>J (i+1) d (by omega) (by simpa using aQ)) (fun d aQ=>U d (by simpa using aQ)) (by simpa using ab)];cases l[k]? with
  |none=>rfl
  |some z=>simp only[];split<;>rfl
end
structure fO (l:List bM):Prop where
 at':∀x∈l,(0≤x.v∧x.v≤100000)∧(x.k=2∨x.k=3)
 asc:l.Pairwise fun x y=>x.v<y.v
def ll(l:List bM)(v:Int):aZ Int:=(l.find? fun x=>x.v==v).map (·.k)
def lN(x:bM):List bM→List bM
 |[]=>[x]
 |y::l=>if y.v<x.v then y::lN x l else x::y::l
theorem Gx{x z:bM}:∀{l:List bM},z∈lN x l↔z=x∨z∈l
 |[]=>by simp[lN]
 |y::l=>by
  simp only[lN];split
  ·simp only[fR,Gx (l:=l)];constructor
   ·rintro(h|h|h)
    ·exact .inr (.inl h)
    ·exact .inl h
    ·exact .inr (.inr h)
   ·rintro(h|h|h)
    ·exact .inr (.inl h)
    ·exact .inl h
    ·exact .inr (.inr h)
  ·simp
theorem KN(x:bM):∀l:List bM,(lN x l).Perm (x::l)
 |[]=>.refl _
 |y::l=>by
  simp only[lN];split
  ·exact((KN x l).cons y).trans (atO _ _ _)
  ·exact .refl _
theorem F2{x:bM}:∀{l:List bM},l.Pairwise (fun x y=>x.v<y.v)→(∀y∈l,y.v≠x.v)→(lN x l).Pairwise fun x y=>x.v<y.v
 |[],_,_=>by simp[lN]
 |y::l,h,ay=>by
  obtain⟨J,U⟩:=mR.1 h;have aM:=ay y (by simp);simp only[lN];split
  ·rename_i ar;refine mR.2 ⟨fun z br=>?_,F2 U fun z br=>ay z (by simp[br])⟩;rcases Gx.1 br with rfl|br
   ·exact ar
   ·exact J z br
  ·refine mR.2 ⟨fun z br=>?_,h⟩;rcases fR.1 br with rfl|br
   ·omega
   ·have:=J z br;omega
theorem TA(x:bM):∀(l:List bM) (k:Nat),(∀i y,i<k→l[i]? =some y→y.v<x.v)→(∀y,l[k]? =some y→¬y.v<x.v)→k≤l.length→lN x l=l.take k++x::l.drop k
 |[],k,_,_,ab=>by simp at ab;subst ab;rfl
 |y::l,0,_,U,_=>by have:=U y rfl;simp[lN,this]
 |y::l,k+1,J,U,ab=>by have bn:=J 0 y (by omega) rfl;simp only[lN,if_pos bn,List.take_succ_cons,List.drop_succ_cons,bX];rw[TA x l k (fun i d hi aQ=>J (i+1) d (by omega) (by simpa using aQ)) (fun d aQ=>U d (by simpa using aQ)) (by simpa using ab)]
theorem TU{l a1:List bM}(bG:a1.Perm l)(aQ:l.Pairwise fun x y=>x.v<y.v)(ag:a1.Pairwise fun x y=>decide (y.v<x.v)=false):a1=l:=by
 refine NQ (le:=fun x y:bM=>x.v≤y.v) (fun x y af aM J U=>?_) (ag.imp (by simp)) (aQ.imp (by omega)) bG;have ih:x∈l:=bG.mem_iff.1 af;have rU:y∈l:=aM;obtain⟨i,hi,rfl⟩:=nG ih;obtain⟨j,ae,rfl⟩:=nG rU;have:=o7.1 aQ;rcases Nat.lt_trichotomy i j with h|h|h
 ·have:=this i j hi ae h;omega
 ·subst h;rfl
 ·have:=this j i ae hi h;omega
theorem yg{l:List bM}{v:Int}:ll l v=none↔∀x∈l,x.v≠v:=by simp[ll]
theorem T2{l:List bM}{v k:Int}(h:ll l v=some k):(⟨v,k⟩:bM)∈l:=by unfold ll at h;rw[gz]at h;obtain⟨x,J,rfl⟩:=h;have U:=List.find?_some J;simp at U;subst U;exact List.mem_of_find?_eq_some J
theorem Gf{l:List bM}(bz:l.Pairwise fun x y=>x.v<y.v){x:bM}(h:x∈l):ll l x.v=some x.k:=by
 induction l with
 |nil=>simp at h
 |cons y l bO=>
  obtain⟨J,U⟩:=mR.1 bz;rcases fR.1 h with rfl|h
  ·simp[ll]
  ·have:=J x h;have e:=bO U h;unfold ll at e⊢;rw[List.find?_cons_of_neg (by simp;omega)];exact e
def ko(l:List bM)(t:T)(k:Int):aZ (List bM):=match t with
 | .var n=>match ll l n with
  |some bS=>if bS=k then some l else none
  |none=>some (lN ⟨n,k⟩ l)
 |t=>if t.kind=k then some l else none
theorem Ic{l a1:List bM}{t:T}{k:Int}(h:fO l)(aK:t.ok=true)(ab:k=2∨k=3)(he:ko l t k=some a1):fO a1:=by
 unfold ko at he;split at he
 ·rename_i n;split at he
  ·split at he
   ·cases he;exact h
   ·cases he
  ·rename_i ay;cases he;rw[yg]at ay;refine⟨fun x af=>?_,F2 h.asc ay⟩;rcases Gx.1 af with rfl|af
   ·exact⟨by simpa[T.ok]using aK,ab⟩
   ·exact h.at' x af
 ·split at he
  ·cases he;exact h
  ·cases he
theorem td{l:List bM}(h:fO l):l.length≤100001:=by
 have J:(l.map (·.v)).Nodup:=by rw[List.nodup_iff_pairwise_ne,List.pairwise_map];exact h.asc.imp fun h e=>by omega
 have:=T0 J fun v aF=>by obtain⟨x,af,rfl⟩:=h5.1 aF;exact(h.at' x af).1
 simpa using this
def gh(s:List al):List bM→List bM→aZ (List bM)
 |[],acc=>some acc
 |x::r,acc=>match ko acc (bV s x.v) x.k with
  |some a=>gh s r a
  |none=>none
structure il (l:List bm):Prop where
 at':∀x∈l,(0≤x.v∧x.v≤100000)∧jJ x.s=true
 asc:hN fe l
def _root_.Go.Pv.T.has(s:List dE):T→Bool
 | .sym n=>n==s
 | .pair a b=>a.has s||b.has s
 |_=>false
def l0(l:List bm)(t:T)(s:List dE):aZ (List bm):=if t.has s then none else some (asc fe (l++(nD t).map fun v=>⟨v,s⟩))
theorem D8{t:T}{v:Int}:v∈nD t↔t.occ v=true:=by
 refine⟨fun h=>?_,yn⟩;induction t with
 |var n=>simp[nD]at h;simp[T.occ,h]
 |pair a b dX dY=>simp only[nD,kQ]at h;simp only[T.occ,lX];exact h.imp dX dY
 |_=>simp[nD]at h
theorem C9{l a1:List bm}{t:T}{s:List dE}(h:l0 l t s=some a1)(x:bm):x∈a1↔x∈l∨(x.s=s∧t.occ x.v=true):=by
 unfold l0 at h;split at h
 ·cases h
 ·cases h;rw[UI,kQ,h5];refine or_congr_right ?_;constructor
  ·rintro⟨v,aF,rfl⟩;exact⟨rfl,D8.1 aF⟩
  ·rintro⟨J,U⟩;exact⟨x.v,D8.2 U,by rw[←J]⟩
theorem Ie{l a1:List bm}{t:T}{s:List dE}(cw:t.has s=false)(bz:hN fe a1)(hm:∀x,x∈a1↔x∈l∨(x.s=s∧t.occ x.v=true)):l0 l t s=some a1:=by
 have h:l0 l t s=some (asc fe (l++(nD t).map fun v=>⟨v,s⟩)):=by unfold l0;rw[cw];rfl
 rw[h];congr 1;exact(Ik lR _).ext lR bz fun x=>by rw[hm,←C9 h]
theorem If{l a1:List bm}{t:T}{s:List dE}(h:il l)(aK:t.ok=true)(ag:jJ s=true)(he:l0 l t s=some a1):il a1:=by
 refine⟨fun x af=>?_,?_⟩
 ·rcases(C9 he x).1 af with J|⟨J,U⟩
  ·exact h.at' x J
  ·exact⟨w8 aK U,by rw[J];exact ag⟩
 ·unfold l0 at he;split at he
  ·cases he
  ·cases he;exact Ik lR _
def gi(s:List al):List bm→List bm→aZ (List bm)
 |[],acc=>some acc
 |x::r,acc=>match l0 acc (bV s x.v) x.s with
  |some a=>gi s r a
  |none=>none
end Go.Pv
namespace Go.Proofs.YtahlgcidhnjlbaaGreat
open Go Go.Pv
def OT:C:=(aa [cM 1 0,be 2 false] (aa [a6 3 4 1,dJ 4 131 [.t 3,(fQ 5000)],aS 5 .gtr 4 0,I 2 5] .ret))
@[simp] def VN:List bA:=[.tmp 2]
@[simp] def arZ:List bA:=[.tmp 2]
def Pm:C:=(aa [cW (.box 2 (some 201) (.t 0)),cM 3 1,dg 4 ds,be 5 false] (aa [a6 6 4 3,ca 7 (.mkf 138 [.t 2]),b3 8 137 6 7,cH 9 0 8,cH 10 1 8,bT 4 4 9,I 5 10] .ret))
@[simp] def V6:List bA:=[.cell 4 true 4,.tmp 5]
def Qs:C:=(aa [dg 2 ds] (aa [I 3 0,jQ 4 ds [(0,1,(fQ 1)),(1,1,(.t 3))],bT 4 2 4] .ret))
@[simp] def alh:List bA:=[.cell 2 true 4]
def zi:C:=(aa [cM 1 0,dg 2 ds] (aa [aG 6 0 1 1,av 7 1 6,aG 8 1 1 1,av 9 1 8,aG 10 2 1 1,av 11 1 10,jQ 12 ds [(0,1,(.t 7)),(1,1,(.t 9)),(2,1,(.t 11))],dg 3 ds,bT 4 3 12] (.seq (aa [aG 13 3 1 1,av 14 1 13,b7 15 14,bJ 16 0] (e0 17 16 15 (.seq (.block 1 (aa [cd 18 4 14 16,a6 19 4 18,dg 5 ds,bT 4 5 19] (.drawn true 29 [aG 20 3 1 3,av 21 1 20,a6 22 4 5,cJ 23 130 22,eD 24 4 30 [.t 23],hF 25 4 30 21 24,aG 26 3 1 3,bT 1 26 25]))) (.region [aS 27 .add 16 1,I 16 27])))) (aa [a6 28 4 3,bT 4 2 28] .ret))))
@[simp] def alg:List bA:=[.cell 2 true 4]
def Pg:C:=(aa [cM 2 0,bJ 4 0] (.seq (aa [I 7 1,aS 8 .lss 7 1] (aT 8 (aa [bJ 4 (-1)] .ret) .skip)) (.seq (aa [aG 9 0 1 2,av 10 1 9,aS 11 .neq 10 4] (aT 11 (.seq (aa [aG 12 3 1 2,av 13 1 12,b7 14 13,aS 15 .neq 14 0] (aT 15 (aa [bJ 4 (-1)] .ret) .skip)) (.seq (aa [aG 16 0 1 2,av 17 1 16] (.block 0 (aa [aS 19 .eql 17 0,I 18 19] (aT 18 (aa [aG 20 1 1 2,av 21 1 20,aS 22 .neq 21 0,I 23 22,aq 23 false (aG 24 2 1 2),aq 23 false (av 25 1 24),xa 23 false 26 (.bin .neq false (.t 25) (.c (.str []))),cY 27 23 26] (aT 27 (aa [bJ 4 (-1)] .ret) .skip)) (aa [aS 29 .eql 17 1,I 28 29] (aT 28 (aa [aG 30 1 1 2,av 31 1 30,aS 32 .lss 31 0,I 33 32,aq 33 false (aG 34 1 1 2),aq 33 false (av 35 1 34),aq 33 false (aS 36 .gtr 35 100000),cY 37 33 36,I 38 37,aq 38 false (aG 39 2 1 2),aq 38 false (av 40 1 39),xa 38 false 41 (.bin .neq false (.t 40) (.c (.str []))),cY 42 38 41] (aT 42 (aa [bJ 4 (-1)] .ret) .skip)) (aa [aS 44 .eql 17 2,I 43 44] (aT 43 (aa [aG 45 1 1 2,av 46 1 45,aS 47 .neq 46 0,I 48 47,aq 48 false (aG 49 2 1 2),aq 48 false (av 50 1 49),aq 48 false (cJ 51 160 50),aq 48 false (cy 52 51),cY 53 48 52] (aT 53 (aa [bJ 4 (-1)] .ret) .skip)) (aa [aS 55 .eql 17 3,I 54 55] (aT 54 (aa [aG 56 1 1 2,av 57 1 56,aS 58 .lss 57 (-1000000000),I 59 58,aq 59 false (aG 60 1 1 2),aq 59 false (av 61 1 60),aq 59 false (aS 62 .gtr 61 1000000000),cY 63 59 62,I 64 63,aq 64 false (aG 65 2 1 2),aq 64 false (av 66 1 65),xa 64 false 67 (.bin .neq false (.t 66) (.c (.str []))),cY 68 64 67] (aT 68 (aa [bJ 4 (-1)] .ret) .skip)) (aa [bJ 4 (-1)] .ret))))))))))) (aa [bJ 4 1] .ret))) .skip)) (.seq (aa [aG 69 1 1 2,av 70 1 69,aS 71 .neq 70 0,I 72 71,aq 72 false (aG 73 2 1 2),aq 72 false (av 74 1 73),xa 72 false 75 (.bin .neq false (.t 74) (.c (.str []))),cY 76 72 75,I 77 76,aq 77 false (aG 78 3 1 2),aq 77 false (av 79 1 78),aq 77 false (b7 80 79),aq 77 false (aS 81 .neq 80 2),cY 82 77 81] (aT 82 (aa [bJ 4 (-1)] .ret) .skip)) (aa [aG 83 3 1 2,av 84 1 83,jR 85 4 84 0,a6 86 4 85,I 87 1,aS 88 .sub 87 1,b3 89 131 86 88,I 5 89] (.seq (aa [I 90 5,aS 91 .lss 90 0] (aT 91 (aa [bJ 4 (-1)] .ret) .skip)) (aa [aG 92 3 1 2,av 93 1 92,jR 94 4 93 1,a6 95 4 94,I 96 1,aS 97 .sub 96 1,I 98 5,bg 99 .sub 97 98,b3 100 131 95 99,I 6 100] (.seq (aa [I 101 6,aS 102 .lss 101 0] (aT 102 (aa [bJ 4 (-1)] .ret) .skip)) (aa [I 103 5,ca 104 (.bin .add false (fQ 1) (.t 103)),I 105 6,bg 106 .add 104 105,I 4 106] .ret)))))))))
@[simp] def G1:List bA:=[.tmp 4]
def EI:C:=(aa [cM 2 0,cM 3 1,bJ 4 0] (.seq (aa [aG 6 0 1 2,av 7 1 6,aG 8 0 1 3,av 9 1 8,bg 10 .neq 7 9] (aT 10 (aa [aG 11 0 1 2,av 12 1 11,aG 13 0 1 3,av 14 1 13,b3 15 190 12 14,I 4 15] .ret) .skip)) (.seq (aa [aG 16 1 1 2,av 17 1 16,aG 18 1 1 3,av 19 1 18,bg 20 .neq 17 19] (aT 20 (aa [aG 21 1 1 2,av 22 1 21,aG 23 1 1 3,av 24 1 23,b3 25 190 22 24,I 4 25] .ret) .skip)) (.seq (aa [aG 26 2 1 2,av 27 1 26,aG 28 2 1 3,av 29 1 28,bg 30 .neq 27 29] (aT 30 (.seq (aa [aG 31 2 1 2,av 32 1 31,aG 33 2 1 3,av 34 1 33,bg 35 .lss 32 34] (aT 35 (aa [bJ 4 (-1)] .ret) .skip)) (aa [bJ 4 1] .ret)) .skip)) (.seq (aa [aG 36 0 1 2,av 37 1 36,aS 38 .neq 37 4] (aT 38 (aa [bJ 4 0] .ret) .skip)) (.seq (.seq (.drawn true 60 [aG 39 3 1 2,av 40 1 39,jR 41 4 40 0,a6 42 4 41,aG 43 3 1 3,av 44 1 43,jR 45 4 44 0,a6 46 4 45,b3 47 133 42 46,I 5 47]) (aa [I 48 5,aS 49 .neq 48 0] (aT 49 (aa [I 50 5,I 4 50] .ret) .skip))) (.seq (.drawn true 60 [aG 51 3 1 2,av 52 1 51,jR 53 4 52 1,a6 54 4 53,aG 55 3 1 3,av 56 1 55,jR 57 4 56 1,a6 58 4 57,b3 59 133 54 58,I 4 59]) .ret)))))))
@[simp] def G2:List bA:=[.tmp 4]
def xr:C:=(aa [cM 2 0] (.seq (aa [aG 4 0 1 2,av 5 1 4,aS 6 .eql 5 1] (aT 6 (.region [I 7 1,aG 8 1 1 2,av 9 1 8,gH 10 7 [.t 9]]) .skip)) (aa [aG 11 0 1 2,av 12 1 11,aS 13 .eql 12 4] (aT 13 (aa [aG 14 3 1 2,av 15 1 14,jR 16 4 15 0,a6 17 4 16,I 18 1,b3 19 134 17 18] (.region [aG 20 3 1 2,av 21 1 20,jR 22 4 21 1,a6 23 4 22,I 24 1,b3 25 134 23 24])) .skip))))
@[simp] def yB:List bA:=[]
@[simp] def ar0:List bA:=[]
def Pr:C:=(aa [eN 2 1] (aa [cW (.bslm 5 (some 306) 1 3 []),I 3 5] (.seq (aa [I 6 0,cW (.range 7 none (.t 6))] (.block 0 (.loop (aa [⟨none,.next 8 (.t 7)⟩,cH 9 0 8] (.seq (aT 9 .skip (.exit 0)) (.block 1 (aa [ca 10 (.ment (.t 7)),cH 11 0 10,I 4 11] (.region [I 12 3,I 13 4,eD 14 1 3 [.t 13],cW (.appm 15 none 1 3 (.t 12) (.t 14)),I 3 15])))))))) (aa [I 16 3,cJ 17 191 16] (.seq (.pub 3 (.region [I 18 3,I 2 18])) .ret)))))
@[simp] def V8:List bA:=[.tmp 2]
def Po:C:=(aa [cM 2 0,cW (.box 3 (some 202) (.t 1)),dg 4 ds,be 5 false] (aa [a6 7 4 2,ca 8 (.mkf 193 [.t 3]),b3 9 192 7 8,I 6 9] (.seq (aa [I 10 6,aS 11 .gtr 10 5000] (aT 11 (aa [jQ 12 ds [],bT 4 4 12,be 5 false] .ret) .skip)) (aa [a6 13 4 2,av 14 1 3,b3 15 194 13 14,bT 4 4 15,be 5 true] .ret))))
@[simp] def Me:List bA:=[.cell 4 true 4,.tmp 5]
def Pn:C:=(aa [dg 3 ds,be 4 false] (.seq (aa [av 6 1 1,I 7 0,b3 8 139 6 7,I 5 8] (aa [I 9 5,aS 10 .geq 9 0] (aT 10 (aa [av 11 1 1,I 12 5,cd 13 5 11 12,gD 14 1 4 13,a6 15 4 14,bT 4 3 15,be 4 true] .ret) .skip))) (aa [jQ 16 ds [],bT 4 3 16,be 4 false] .ret)))
@[simp] def Md:List bA:=[.cell 3 true 4,.tmp 4]
def Pa:C:=(aa [cW (.box 2 (some 101) (.t 0)),cW (.box 3 (some 102) (.t 1)),bJ 4 0] (aa [av 6 1 2,b7 7 6,ca 8 (.mkf 196 [.t 2,.t 3]),b3 9 195 7 8,I 5 9] (.seq (.seq (.drawn true 24 [I 10 5,av 11 1 2,b7 12 11,bg 13 .lss 10 12,I 14 13,aq 14 true (av 15 1 2),bW 14 true 16 5,aq 14 true (cd 17 5 15 16),aq 14 true (aG 18 0 1 17),aq 14 true (av 19 1 18),aq 14 true (av 20 1 3),aq 14 true (bg 21 .eql 19 20),du 22 14 21]) (aT 22 (aa [I 23 5,I 4 23] .ret) .skip)) (aa [bJ 4 (-1)] .ret))))
@[simp] def VZ:List bA:=[.tmp 4]
def O8:C:=(aa [cM 2 0,cM 3 1,be 4 false] (aa [a6 5 4 2,a6 6 4 3,b3 7 133 5 6,aS 8 .eql 7 0,I 4 8] .ret))
@[simp] def VX:List bA:=[.tmp 4]
def IB:C:=(aa [cM 1 0,dg 2 ds] (.seq (aa [aG 3 0 1 1,av 4 1 3,aS 5 .neq 4 4] (aT 5 (aa [aG 6 0 1 1,av 7 1 6,aG 8 1 1 1,av 9 1 8,aG 10 2 1 1,av 11 1 10,jQ 12 ds [(0,1,(.t 7)),(1,1,(.t 9)),(2,1,(.t 11))],bT 4 2 12] .ret) .skip)) (.seq (.drawn true 25 [aG 13 3 1 1,av 14 1 13,jR 15 4 14 0,a6 16 4 15,cJ 17 143 16,aG 18 3 1 1,av 19 1 18,jR 20 4 19 1,a6 21 4 20,cJ 22 143 21,eD 23 4 30 [.t 17,.t 22],jQ 24 ds [(0,1,(fQ 4)),(3,1,(.t 23))],bT 4 2 24]) .ret)))
@[simp] def akv:List bA:=[.cell 2 true 4]
def OU:C:=(aa [be 2 false] (.seq (aa [I 5 0,b7 6 5,aS 7 .gtr 6 400] (aT 7 (aa [be 2 false] .ret) .skip)) (.seq (aa [I 8 0,b7 9 8,bJ 10 0] (e0 11 10 9 (.seq (.block 1 (aa [I 12 10,cd 13 5 8 10,a6 14 5 13,dg 4 ik,I 3 12,bT 5 4 14] (.seq (.drawn true 45 [aG 15 0 1 4,av 16 1 15,aS 17 .lss 16 0,I 18 17,aq 18 false (aG 19 0 1 4),aq 18 false (av 20 1 19),aq 18 false (aS 21 .gtr 20 100000),cY 22 18 21,I 23 22,bW 23 false 24 3,aq 23 false (aS 25 .gtr 24 0),bW 23 false 26 25,bW 26 true 27 0,bW 26 true 28 3,aq 26 true (aS 29 .sub 28 1),aq 26 true (cd 30 5 27 29),aq 26 true (aG 31 0 1 30),aq 26 true (av 32 1 31),aq 26 true (aG 33 0 1 4),aq 26 true (av 34 1 33),aq 26 true (bg 35 .geq 32 34),aq 23 false (du 36 26 35),cY 37 23 36,I 38 37,aq 38 false (gD 39 1 4 4),aq 38 false (a6 40 4 39),aq 38 false (cJ 41 64 40),aq 38 false (cy 42 41),cY 43 38 42]) (aT 43 (aa [be 2 false] .ret) .skip)))) (.region [aS 44 .add 10 1,I 10 44])))) (aa [be 2 true] .ret))))
@[simp] def GV:List bA:=[.tmp 2]
def OK:C:=(aa [be 2 false] (.seq (aa [I 4 0,ca 5 (.slen (.t 4)),aS 6 .lss 5 1,I 7 6,bW 7 false 8 0,aq 7 false (ca 9 (.slen (.t 8))),aq 7 false (aS 10 .gtr 9 12),cY 11 7 10,I 12 11,bW 12 false 13 0,aq 12 false (ca 14 (.sidx (.t 13) (fQ 0))),aq 12 false (ca 15 (.bin .lss false (.t 14) (.c (.int .u8 97)))),cY 16 12 15,I 17 16,bW 17 false 18 0,aq 17 false (ca 19 (.sidx (.t 18) (fQ 0))),aq 17 false (ca 20 (.bin .gtr false (.t 19) (.c (.int .u8 122)))),cY 21 17 20] (aT 21 (aa [be 2 false] .ret) .skip)) (.seq (aa [bJ 3 1] (.block 0 (.loop (.seq (aa [I 22 3,I 23 0,ca 24 (.slen (.t 23)),bg 25 .lss 22 24] (aT 25 .skip (.exit 0))) (.seq (.block 1 (aa [I 28 0,I 29 3,ca 30 (.sidx (.t 28) (.t 29)),ca 31 (.bin .geq false (.t 30) (.c (.int .u8 97))),I 32 31,bW 32 true 33 0,bW 32 true 34 3,aq 32 true (ca 35 (.sidx (.t 33) (.t 34))),aq 32 true (ca 36 (.bin .leq false (.t 35) (.c (.int .u8 122)))),du 37 32 36,I 38 37,bW 38 false 39 0,bW 38 false 40 3,aq 38 false (ca 41 (.sidx (.t 39) (.t 40))),aq 38 false (ca 42 (.bin .geq false (.t 41) (.c (.int .u8 48)))),bW 38 false 43 42,bW 43 true 44 0,bW 43 true 45 3,aq 43 true (ca 46 (.sidx (.t 44) (.t 45))),aq 43 true (ca 47 (.bin .leq false (.t 46) (.c (.int .u8 57)))),aq 38 false (du 48 43 47),cY 49 38 48,I 50 49,bW 50 false 51 0,bW 50 false 52 3,aq 50 false (ca 53 (.sidx (.t 51) (.t 52))),aq 50 false (ca 54 (.bin .eql false (.t 53) (.c (.int .u8 45)))),cY 55 50 54,cy 56 55] (aT 56 (aa [be 2 false] .ret) .skip))) (.region [I 26 3,aS 27 .add 26 1,I 3 27])))))) (aa [be 2 true] .ret))))
@[simp] def GU:List bA:=[.tmp 2]
def Ps:C:=(aa [be 2 false] (.seq (aa [I 5 0,b7 6 5,bJ 7 0] (e0 8 7 6 (.seq (.block 1 (aa [cd 9 4 5 7,a6 10 4 9,dg 4 ds,bT 4 4 10] (aa [a6 11 4 4,cJ 12 64 11,cy 13 12] (aT 13 (aa [be 2 false] .ret) .skip)))) (.region [aS 14 .add 7 1,I 7 14])))) (aa [be 2 true] .ret)))
@[simp] def akw:List bA:=[.tmp 2]
def Qp:C:=(aa [cM 2 0,cM 3 1,dg 4 ds] (aa [a6 5 4 2,a6 6 4 3,eD 7 4 30 [.t 5,.t 6],jQ 8 ds [(0,1,(fQ 4)),(3,1,(.t 7))],bT 4 4 8] .ret))
@[simp] def Wk:List bA:=[.cell 4 true 4]
def Pj:C:=(aa [bJ 4 0] (.seq (aa [I 5 0,I 6 1,bg 7 .lss 5 6] (aT 7 (aa [bJ 4 (-1)] .ret) .skip)) (.seq (aa [I 8 0,I 9 1,bg 10 .gtr 8 9] (aT 10 (aa [bJ 4 1] .ret) .skip)) (aa [bJ 4 0] .ret))))
@[simp] def V4:List bA:=[.tmp 4]
def vA:C:=(aa [cM 2 0,bJ 4 0] (.seq (aa [aG 6 0 1 2,av 7 1 6] (.block 0 (aa [aS 9 .eql 7 1,I 8 9] (aT 8 (aa [I 10 1,aG 11 1 1 2,av 12 1 11,gH 13 10 [.t 12],ca 14 (.min2 (.t 13) (fQ 5001)),I 4 14] .ret) (aa [aS 16 .eql 7 4,I 15 16] (aT 15 (aa [aG 17 3 1 2,av 18 1 17,jR 19 4 18 0,a6 20 4 19,I 21 1,b3 22 192 20 21,I 5 22] (.seq (aa [I 23 5,aS 24 .gtr 23 5000] (aT 24 (aa [I 25 5,I 4 25] .ret) .skip)) (aa [I 26 5,ca 27 (.bin .add false (fQ 1) (.t 26)),aG 28 3 1 2,av 29 1 28,jR 30 4 29 1,a6 31 4 30,I 32 1,b3 33 192 31 32,bg 34 .add 27 33,ca 35 (.min2 (.t 34) (fQ 5001)),I 4 35] .ret))) .skip)))))) (aa [bJ 4 1] .ret)))
@[simp] def u7:List bA:=[.tmp 4]
def Pp:C:=(aa [bJ 3 0] (.seq (aa [av 7 1 1,I 8 0,gH 9 7 [.t 8],I 6 9,cH 10 0 6,cH 11 1 6,dg 4 ds,bT 4 4 10,I 5 11] (aa [I 12 5] (aT 12 (aa [a6 13 4 4,dJ 14 131 [.t 13,(fQ 5000)],I 3 14] .ret) .skip))) (aa [bJ 3 1] .ret)))
@[simp] def V7:List bA:=[.tmp 3]
def xt:C:=(aa [cM 2 0,dg 4 ds] (.seq (aa [aG 7 0 1 2,av 8 1 7] (.block 0 (aa [aS 10 .eql 8 1,I 9 10] (aT 9 (.seq (aa [I 12 1,aG 13 1 1 2,av 14 1 13,gH 15 12 [.t 14],I 11 15,cH 16 0 11,cH 17 1 11,dg 5 ds,bT 4 5 16,I 6 17] (aa [I 18 6] (aT 18 (aa [a6 19 4 5,cJ 20 143 19,bT 4 4 20] .ret) .skip))) (aa [a6 21 4 2,bT 4 4 21] .ret)) (aa [aS 23 .eql 8 4,I 22 23] (aT 22 (.seq (.drawn false 38 [aG 24 3 1 2,av 25 1 24,jR 26 4 25 0,a6 27 4 26,I 28 1,b3 29 194 27 28,aG 30 3 1 2,av 31 1 30,jR 32 4 31 1,a6 33 4 32,I 34 1,b3 35 194 33 34,b3 36 221 29 35,bT 4 4 36]) .ret) .skip)))))) (aa [a6 37 4 2,bT 4 4 37] .ret)))
@[simp] def yC:List bA:=[.cell 4 true 4]
def PS:C:=(aa [bJ 4 0] (aa [I 8 0,bJ 5 0,I 6 8] (.seq (.block 0 (.loop (.seq (aa [I 9 5,I 10 6,bg 11 .lss 9 10] (aT 11 .skip (.exit 0))) (.block 1 (aa [I 12 5,I 13 6,bg 14 .add 12 13,ca 15 (.conv .u64 (.t 14)),ca 16 (.bin .shr false (.t 15) (.c (.int .u64 1))),ca 17 (.conv .i64 (.t 16)),I 7 17] (aa [I 18 1,I 19 7,gH 20 18 [.t 19],cy 21 20] (aT 21 (.region [I 22 7,aS 23 .add 22 1,I 5 23]) (.region [I 24 7,I 6 24])))))))) (aa [I 25 5,I 4 25] .ret))))
@[simp] def V9:List bA:=[.tmp 4]
def Pb:C:=(aa [be 4 false] (.seq (.drawn true 12 [av 5 1 1,I 6 0,cd 7 5 5 6,aG 8 0 1 7,av 9 1 8,av 10 1 2,bg 11 .geq 9 10,I 4 11]) .ret))
@[simp] def V0:List bA:=[.tmp 4]
def Pk:C:=(aa [cM 2 0,cM 3 1,dg 4 ds] (aa [a6 5 4 2,a6 6 4 3,eD 7 4 30 [.t 5,.t 6],jQ 8 ds [(0,1,(fQ 4)),(3,1,(.t 7))],bT 4 4 8] .ret))
@[simp] def V5:List bA:=[.cell 4 true 4]
def bB:List (Nat×dF):=[
 (3,⟨1,8,.int .i64,.int .i64 0⟩),
 (9,⟨1,16,.str,.str []⟩),
 (27,⟨1,24,.slice 30,.slice 4 .nil []⟩),
 (30,⟨4,56,.struct [(0,3),(1,3),(2,9),(3,27)],.agg [.int .i64 0,.int .i64 0,.str [],.slice 4 .nil []]⟩),
 (46,⟨1,24,.slice 113,.slice 5 .nil []⟩),
 (76,⟨1,24,.slice 3,.slice 1 .nil []⟩),
 (113,⟨5,64,.struct [(0,3),(1,30)],.agg [.int .i64 0,.int .i64 0,.int .i64 0,.str [],.slice 4 .nil []]⟩),
 (136,⟨1,8,.map 3 4,.junk⟩),
 (141,⟨1,8,.other,.junk⟩),
 (192,⟨1,8,.int .u64,.int .u64 0⟩)]
theorem mixed:ao.follows .mixedOrders=true:=by kernel_rfl
theorem bh{bB:List (Nat×dF)}(aK:fP ao bB=true){f:FuncId}{fn:Func}(aL:ao.funcs[f]? =some fn){c:C}{fk:List bA}{n:Nat}(eY:b1 bB c fk n fn=true){args:List ah}{r:ah}(he:eu args→cZ ao [] c (bt fk r) ⟨kn 0 args,[],[],0,[]⟩)(aw:args.length≤n:=by simp)(aJ:aB (fun _=>eQ) r:=by simp[aB]):bH ao f args r:=bH.mk mixed aK aL eY aw aJ he
theorem fK:fP ao bB=true:=by kernel_rfl
theorem aid:b1 bB OT VN 1 Tryz.f64=true:=by kernel_rfl
theorem abB:ao.funcs[(64:Nat)]? =some Tryz.f64:=Tryz.func64
theorem aiG:b1 bB Pm V6 2 Tryz.f69=true:=by kernel_rfl
theorem ab3:ao.funcs[(69:Nat)]? =some Tryz.f69:=Tryz.func69
theorem ajK:b1 bB Qs alh 1 Tryz.f114=true:=by kernel_rfl
theorem ada:ao.funcs[(114:Nat)]? =some Tryz.f114:=Tryz.func114
theorem Dp:b1 bB zi alg 1 Tryz.f130=true:=by kernel_rfl
theorem BS:ao.funcs[(130:Nat)]? =some Tryz.f130:=Tryz.func130
theorem aiB:b1 bB Pg G1 2 Tryz.f131=true:=by kernel_rfl
theorem abY:ao.funcs[(131:Nat)]? =some Tryz.f131:=Tryz.func131
theorem LL:b1 bB EI G2 2 Tryz.f133=true:=by kernel_rfl
theorem Jm:ao.funcs[(133:Nat)]? =some Tryz.f133:=Tryz.func133
theorem AF:b1 bB xr yB 2 Tryz.f134=true:=by kernel_rfl
theorem zr:ao.funcs[(134:Nat)]? =some Tryz.f134:=Tryz.func134
theorem aiL:b1 bB Pr V8 1 Tryz.f136=true:=by kernel_rfl
theorem ab8:ao.funcs[(136:Nat)]? =some Tryz.f136:=Tryz.func136
theorem aiI:b1 bB Po Me 2 Tryz.f137=true:=by kernel_rfl
theorem ab5:ao.funcs[(137:Nat)]? =some Tryz.f137:=Tryz.func137
theorem aiH:b1 bB Pn Md 2 Tryz.f138=true:=by kernel_rfl
theorem ab4:ao.funcs[(138:Nat)]? =some Tryz.f138:=Tryz.func138
theorem aiv:b1 bB Pa VZ 2 Tryz.f139=true:=by kernel_rfl
theorem abS:ao.funcs[(139:Nat)]? =some Tryz.f139:=Tryz.func139
theorem ait:b1 bB O8 VX 2 Tryz.f142=true:=by kernel_rfl
theorem abQ:ao.funcs[(142:Nat)]? =some Tryz.f142:=Tryz.func142
theorem Vb:b1 bB IB akv 1 Tryz.f143=true:=by kernel_rfl
theorem Ru:ao.funcs[(143:Nat)]? =some Tryz.f143:=Tryz.func143
theorem aie:b1 bB OU GV 1 Tryz.f158=true:=by kernel_rfl
theorem abC:ao.funcs[(158:Nat)]? =some Tryz.f158:=Tryz.func158
theorem ah4:b1 bB OK GU 1 Tryz.f160=true:=by kernel_rfl
theorem abr:ao.funcs[(160:Nat)]? =some Tryz.f160:=Tryz.func160
theorem aiM:b1 bB Ps akw 1 Tryz.f172=true:=by kernel_rfl
theorem ab9:ao.funcs[(172:Nat)]? =some Tryz.f172:=Tryz.func172
theorem ajH:b1 bB Qp Wk 2 Tryz.f189=true:=by kernel_rfl
theorem ac7:ao.funcs[(189:Nat)]? =some Tryz.f189:=Tryz.func189
theorem aiD:b1 bB Pj V4 2 Tryz.f190=true:=by kernel_rfl
theorem ab0:ao.funcs[(190:Nat)]? =some Tryz.f190:=Tryz.func190
theorem yv:b1 bB vA u7 2 Tryz.f192=true:=by kernel_rfl
theorem xz:ao.funcs[(192:Nat)]? =some Tryz.f192:=Tryz.func192
theorem aiJ:b1 bB Pp V7 2 Tryz.f193=true:=by kernel_rfl
theorem ab6:ao.funcs[(193:Nat)]? =some Tryz.f193:=Tryz.func193
theorem AG:b1 bB xt yC 2 Tryz.f194=true:=by kernel_rfl
theorem zs:ao.funcs[(194:Nat)]? =some Tryz.f194:=Tryz.func194
theorem aja:b1 bB PS V9 2 Tryz.f195=true:=by kernel_rfl
theorem acA:ao.funcs[(195:Nat)]? =some Tryz.f195:=Tryz.func195
theorem aiw:b1 bB Pb V0 3 Tryz.f196=true:=by kernel_rfl
theorem abT:ao.funcs[(196:Nat)]? =some Tryz.f196:=Tryz.func196
theorem aiE:b1 bB Pk V5 2 Tryz.f221=true:=by kernel_rfl
theorem ab1:ao.funcs[(221:Nat)]? =some Tryz.f221:=Tryz.func221
def agu(s:List dE)(k:Nat)(st:bs):Prop:=∃i:Nat,1≤i∧i≤s.length∧k=s.length-i∧((s.drop 1).all mC=(s.drop i).all mC)∧st=⟨[(0,.str s),(3,.int .i64 i)],[],[],0,[]⟩
theorem tI(s:List dE):bH ao 160 [.str s] (.bool (jJ s)):=by
 refine bH.mk mixed fK abr ah4 (by simp) (by simp[aB]) fun ad=>?_;unfold OK;simp;(with_reducible repeat' first|((first|refine bP (fun h=>?_) fun h=>?_|refine bR (fun h=>?_) fun h=>?_|refine bQ (fun h=>?_) fun h=>?_)<;>try simp at h)|refine aj ?_|simp);case refine_1.refine_1.refine_1.refine_2=>
  have afw:jJ s=(s.drop 1).all mC:=by simp[jJ,low];omega
  rw[afw];refine ps (agu s) (s.length-1) _ ⟨by simp,by simp[gG],by simp[oV],by simp⟩ ⟨1,by omega,by omega,rfl,rfl,rfl⟩ ?_;rintro k st ⟨i,ie,hC,ab,lA,rfl⟩ kU cL;rw[lA];simp;refine bP (fun bE=>?_) (fun uz=>?_)
  ·simp at bE;have aQ:s.drop i=s[i]?.getD 0::s.drop (i+1):=by rw[kP bE];simp[bE]
   simp;(with_reducible repeat' first|((first|refine bP (fun h=>?_) fun h=>?_|refine bR (fun h=>?_) fun h=>?_|refine bQ (fun h=>?_) fun h=>?_)<;>try simp at h)|refine aj ?_|simp);all_goals first
    |(simp[bt,GU,aX,aY,aW,aQ,mC,low];omega)
    |(simp only[Ei];refine⟨s.length-(i+1),_,by omega,⟨by simp,by simp[gG],by simp[oV],by simp⟩,i+1,by omega,by omega,rfl,?_,rfl⟩;rw[lA,aQ];simp[mC,low];omega)
  ·simp at uz;have:s.drop i=[]:=by simp;omega
   simp[bt,GU,aX,aY,aW,this]
 all_goals simp[bt,GU,aX,aY,aW,jJ,low]
 all_goals omega
theorem X3(m:Nat):∀(t:bI),t.sz≤m→∀(room:Int),0≤room∧room≤10000→bH ao 131 [enc t,.int .i64 room] (.int .i64 (ft t room)):=by
 induction m with
 |zero=>intro t aK;cases t;simp[bI.sz]at aK
 |succ m bO=>
 rintro⟨k,n,s,args⟩ aK room rS;refine bh fK abY aiB fun aO=>?_;unfold Pg;simp[bI.kind,bI.num,bI.name,bI.args];(with_reducible repeat' first|((first|refine bP (fun h=>?_) fun h=>?_|refine bR (fun h=>?_) fun h=>?_|refine bQ (fun h=>?_) fun h=>?_)<;>try simp at h)|refine aj ?_|simp);all_goals try refine c8.val (by simp) (tI _) ?_
 all_goals try simp
 (with_reducible repeat' first|((first|refine bP (fun h=>?_) fun h=>?_|refine bR (fun h=>?_) fun h=>?_|refine bQ (fun h=>?_) fun h=>?_)<;>try simp at h)|refine aj ?_|simp);all_goals try simp[bt,G1,aX,aY,aW]
 case succ.refine_2.refine_2.refine_1.refine_1.refine_2=>
  rename_i bn J U ar;match args,h with
  |[a,b],_=>
  simp[bI.sz,bI.szL]at aK;subst J U ar;simp;(with_reducible repeat' first|((first|refine bP (fun h=>?_) fun h=>?_|refine bR (fun h=>?_) fun h=>?_|refine bQ (fun h=>?_) fun h=>?_)<;>try simp at h)|refine aj ?_|simp);refine c8.val (by simp) (bO a (by omega) (room-1) (by omega)) ?_;simp;have bz:=LA a (room-1);have nf:=Dg a (room-1);(with_reducible repeat' first|((first|refine bP (fun h=>?_) fun h=>?_|refine bR (fun h=>?_) fun h=>?_|refine bQ (fun h=>?_) fun h=>?_)<;>try simp at h)|refine aj ?_|simp)
  ·simp[bt,G1,aX,aY,aW];rw[Lz];simp;omega
  ·refine c8.val (by simp) (bO b (by omega) (room-1-ft a (room-1)) (by omega)) ?_;simp;have ad:=LA b (room-1-ft a (room-1));have fV:=Dg b (room-1-ft a (room-1));(with_reducible repeat' first|((first|refine bP (fun h=>?_) fun h=>?_|refine bR (fun h=>?_) fun h=>?_|refine bQ (fun h=>?_) fun h=>?_)<;>try simp at h)|refine aj ?_|simp);all_goals simp[bt,G1,aX,aY,aW]
   all_goals rw[Lz];simp;omega
 all_goals rw[Lz]
 all_goals simp_all[ln]
 all_goals first|omega|(split<;>simp at h⊢)
theorem HK(t:bI):bH ao 64 [enc t] (.bool t.fits):=by refine bh fK abB aid fun aO=>?_;unfold OT;simp;refine c8.val (by simp) (X3 t.sz t (eR _) 5000 (by omega)) ?_;simp;simp[bt,VN,aX,aY,aW];simp[bI.fits]
theorem amX(t:T):bH ao 64 [t.e] (.bool t.fit):=by have:=HK t.tm;rwa[jb,bI.fits_T]at this
theorem HS(a b:T):bH ao 221 [a.e,b.e] (T.pair a b).e:=by refine bh fK ab1 aiE fun aO=>?_;unfold Pk;simp;(with_reducible repeat' first|((first|refine bP (fun h=>?_) fun h=>?_|refine bR (fun h=>?_) fun h=>?_|refine bQ (fun h=>?_) fun h=>?_)<;>try simp at h)|refine aj ?_|simp);all_goals try simp[bt,V5,aX,aY,aW]
theorem HM(a b:T):bH ao 189 [a.e,b.e] (T.pair a b).e:=by refine bh fK ac7 ajH fun aO=>?_;unfold Qp;simp;(with_reducible repeat' first|((first|refine bP (fun h=>?_) fun h=>?_|refine bR (fun h=>?_) fun h=>?_|refine bQ (fun h=>?_) fun h=>?_)<;>try simp at h)|refine aj ?_|simp);all_goals try simp[bt,Wk,aX,aY,aW]
theorem tJ(t:T):bH ao 143 [t.e] t.e:=by
 induction t with
 |pair a b dX dY=>refine bh fK Ru Vb fun aO=>?_;unfold IB;exact bY
 |_=>refine bh fK Ru Vb fun aO=>?_;unfold IB;exact bY
theorem oc(a b:Int):bH ao 190 [.int .i64 a,.int .i64 b] (.int .i64 (ey a b)):=by
 refine bh fK ab0 aiD fun aO=>?_;unfold Pj;simp;((with_reducible repeat' first|refine aj ?_|simp|((first|apply bP|apply bR|apply bQ)<;>intro h<;>try simp at h))<;>(try exact cm));all_goals simp[bt,V4,aX,aY,aW]
 all_goals simp[ey]
 all_goals omega
theorem yW(a:T):∀b:T,bH ao 133 [a.e,b.e] (.int .i64 (dP a b)):=by
 induction a with
 |pair bD a2 F0 F1=>
  intro b;cases b with
  |pair cl b8=>
   refine bh fK Jm LL fun aO=>?_;unfold EI;simp;((with_reducible repeat' first|refine aj ?_|refine aC (F0 _) ?_|refine aD (F0 _) ?_|refine aC (F1 _) ?_|refine aD (F1 _) ?_|refine aC (oc _ _) ?_|refine aD (oc _ _) ?_|simp|((first|apply bP|apply bR|apply bQ)<;>intro h<;>try simp at h))<;>(try exact cm));all_goals simp[bt,G2,aX,aY,aW]
   all_goals simp_all[dP]
  |_=>
   refine bh fK Jm LL fun aO=>?_;unfold EI;simp;(with_reducible repeat' first|refine aj ?_|refine aC (oc _ _) ?_|refine aD (oc _ _) ?_|simp);all_goals simp[bt,G2,aX,aY,aW]
   all_goals simp_all[dP]
 |_=>
  intro b;cases b<;>
  (refine bh fK Jm LL fun aO=>?_;unfold EI
   simp
   (with_reducible repeat' first|((first|apply bP|apply bR|apply bQ)<;>intro h<;>try simp at h)|refine aj ?_|refine aC (oc _ _) ?_|refine aD (oc _ _) ?_|simp)
   all_goals simp[bt,G2,aX,aY,aW]
   all_goals simp_all[dP,kL])
theorem rb(a b:T):bH ao 142 [a.e,b.e] (.bool (decide (a=b))):=by
 refine bh fK abQ ait fun aO=>?_;unfold O8;simp;(with_reducible repeat' first|refine aj ?_|refine aC (yW _ _) ?_|refine aD (yW _ _) ?_|simp);all_goals simp[bt,VX,aX,aY,aW]
 have:=q2 a b;by_cases h:dP a b=0<;>simp_all
open Classical in
def agy(l:List cT)(k:Nat)(st:bs):Prop:=∃i:Nat,i≤l.length∧k=l.length-i∧(∀j,j<i→AE l j)∧st=⟨[(0,.slice 5 .no (l.map cT.e)),(8,.slice 5 .no (l.map cT.e)),(9,.int .i64 l.length),(10,.int .i64 i)],[],[],0,[]⟩
open Classical in
theorem Nq(l:List cT):bH ao 158 [.slice 5 .no (l.map cT.e)] (.bool (decide (vu l))):=by
 refine bh fK abC aie fun aO=>?_;unfold OU;simp;(with_reducible repeat' first|((first|apply bP|apply bR|apply bQ)<;>intro h<;>try simp at h)|refine aj ?_|simp)
 ·simp[bt,GV,aX,aY,aW];intro cb;have:=cb.1;omega
 ·refine ps (agy l) l.length _ ⟨by simp,by simp[gG],by simp[oV],by simp⟩ ⟨0,by omega,by omega,by simp,rfl⟩ ?_;rintro k st ⟨i,hi,ab,lA,rfl⟩ kU cL;simp;refine bP (fun bE=>?_) (fun uz=>?_)
  ·simp at bE;obtain⟨b,ad⟩:∃b,l[i]? =some b:=⟨_,bZ bE⟩;obtain⟨c,au⟩:∃c,l[i-1]? =some c:=⟨_,bZ (by omega)⟩;clear kU cL;simp[ad,au];((with_reducible repeat' first|refine aj ?_|refine aC (HK _) ?_|refine aD (HK _) ?_|simp[au]|((first|apply bP|apply bR|apply bQ)<;>intro h<;>try simp at h))<;>(try exact cm));all_goals first
    |(simp[bt,GV,aX,aY,aW];intro cb;have J:=cb.2 i bE b ad;have U:=J.2.1 c;have ar:=J.2.2;first|omega|(have:=U (by omega) au;omega)|(rw[ar]at h;cases h)|simp_all)
    |(simp only[Ei];refine⟨l.length-(i+1),_,by omega,⟨by simp,by simp[gG],by simp[oV],by simp⟩,i+1,by omega,rfl,fun j ae=>?_,rfl⟩
      by_cases e:j=i
      ·subst e;intro b5 fV;rw[ad]at fV;cases fV;refine⟨by omega,fun cu bn hy=>?_,by assumption⟩;rw[au]at hy;cases hy;omega
      ·exact lA j (by omega))
  ·simp at uz;simp[bt,GV,aX,aY,aW];exact⟨by omega,fun j ae=>lA j (by omega)⟩
def mg(p:Nat→Bool)(i j:Nat):Nat:=if i<j then(if p ((i+j)/2)then mg p i ((i+j)/2)else mg p ((i+j)/2+1) j)else i
termination_by j-i
def agx(s:cK)(n g:Nat)(dj:List ah)(p:Nat→Bool)(k:Nat)(st:bs):Prop:=∃i j:Nat,i≤j∧j≤n∧k=j-i∧mg p i j=mg p 0 n∧st=⟨[(1,.func g dj),(5,.int .i64 i),(6,.int .i64 j)],s.b,s.e,0,cX s⟩
theorem adP(s:cK)(ag:eh s)(n g:Nat)(ay:n≤1000000)(dj:List ah)(au:aH (inObs s) dj)(dd:cR dj=dj)(p:Nat→Bool)(aL:∀i:Nat,i<n→bU ao g (.int .i64 i::dj) s fun r ai=>r= .bool (p i)∧ai=s):
  bU ao 195 [.int .i64 n,.func g dj] s fun r ai=>r= .int .i64 (mg p 0 n)∧ai=s:=by
 refine bU.mk mixed fK acA aja (by simp) ag.obj fun aO cL=>?_;unfold PS;simp;refine ps (agx s n g dj p) n _ (iG.ob ag (by simp[au]) aR aR) ⟨0,n,by omega,by omega,rfl,rfl,rfl⟩ ?_;rintro k st ⟨i,j,lF,ae,ab,Kx,rfl⟩ kU cL;clear kU cL;simp;refine bP (fun bE=>?_) (fun uz=>?_)
 ·simp at bE;have hw:hl.wrap ((i:Int)+j)=i+j:=by simp[ss,od,sr];omega
  obtain⟨m,hm⟩:∃m,m=(i+j)/2:=⟨_,rfl⟩;have aQ:Int.fdiv ((i:Int)+j) 2=(m:Int):=by rw[Int.fdiv_eq_ediv_of_nonneg _ (by omega)];omega
  have oJ:pQ.wrap (m:Int)=m:=by rw[oe];omega
  have JW:hl.bits=64:=rfl;simp[hw,dd,JW,aQ,oJ];refine⟨by unfold ta;omega,?_⟩;refine c8.ob (aL m (by omega)) ag aR aR (by simp[au]) ?_;rintro r ai ⟨rfl,rfl⟩;refine⟨Same.refl _,?_⟩;simp[gW];(with_reducible repeat' first|((first|apply bP|apply bR|apply bQ)<;>intro h<;>try simp at h)|refine aj ?_|simp)
  ·simp only[Ei];refine⟨j-(m+1),_,by omega,iG.ob ag (by simp[au]) aR aR,m+1,j,by omega,by omega,rfl,?_,rfl⟩;rw[←Kx];conv=>rhs;unfold mg
   simp[bE,←hm,h]
  ·simp only[Ei];refine⟨m-i,_,by omega,iG.ob ag (by simp[au]) aR aR,i,m,by omega,by omega,rfl,?_,rfl⟩;rw[←Kx];conv=>rhs;unfold mg
   simp[bE,←hm,h]
 ·simp at uz;have:mg p 0 n=i:=by rw[←Kx];unfold mg;rw[if_neg (by omega)]
  rw[this];simp;refine cV.at s (.inl rfl) ag (Same.refl s) aR aR ?_;simp[c1,V9,aX,aY,aW]
def mZ(l:List al)(v:Int):Int:=
 let i:=mg (fun i=>match l[i]? with|some b=>decide (v≤b.v)|none=>false) 0 l.length
 match l[i]? with|some b=>if b.v=v then i else-1|none=> -1
theorem adV(l:List al)(v:Int)(i:Nat)(b:al)(ad:l[i]? =some b):bU ao 196 [.int .i64 i,.ptr (.obj 101) 0,.ptr (.obj 102) 0] ⟨[(.obj 101,[.slice 5 .no (l.map al.e)]),(.obj 102,[.int .i64 v])],[]⟩ fun r ai=>r= .bool (decide (v≤b.v))∧ai=⟨[(.obj 101,[.slice 5 .no (l.map al.e)]),(.obj 102,[.int .i64 v])],[]⟩:=by have ag:eh ⟨[(.obj 101,[.slice 5 .no (l.map al.e)]),(.obj 102,[.int .i64 v])],[]⟩:=(eh.of ⟨by intro m;simp[Pv.look],by intro m;simp[Pv.look]⟩ (by simp[aH,aB,inObs,Pv.look]) (by simp[aH,aB,inObs,Pv.look]));have bE:i<l.length:=(e1.1 ad).1;refine bU.mk mixed fK abT aiw (by simp) ag.obj fun aO cL=>?_;unfold Pb;simp[ad];(with_reducible repeat' first|refine aj ?_|simp);refine cV.at _ (.inl rfl) ag (Same.refl _) aR aR ?_;simp[c1,V0,aX,aY,aW]
theorem tK(l:List al)(v:Int)(aw:l.length≤1000000):bH ao 139 [.slice 5 .no (l.map al.e),.int .i64 v] (.int .i64 (mZ l v)):=by
 refine bh fK abS aiv fun aO=>?_;unfold Pa;simp;have ag:eh ⟨[(.obj 101,[.slice 5 .no (l.map al.e)]),(.obj 102,[.int .i64 v])],[]⟩:=(eh.of ⟨by intro m;simp[Pv.look],by intro m;simp[Pv.look]⟩ (by simp[aH,aB,inObs,Pv.look]) (by simp[aH,aB,inObs,Pv.look]));refine c8.ob (adP ⟨[(.obj 101,[.slice 5 .no (l.map al.e)]),(.obj 102,[.int .i64 v])],[]⟩ ag l.length 196 aw [.ptr (.obj 101) 0,.ptr (.obj 102) 0] (by simp[inObs]) (by simp) (fun i=>match l[i]? with|some b=>decide (v≤b.v)|none=>false) fun i hi=>?_) ag aR aR (by simp[inObs]) ?_
 ·obtain⟨b,ad⟩:∃b,l[i]? =some b:=⟨_,bZ hi⟩;simp only[ad];exact adV l v i b ad
 rintro r ai ⟨rfl,rfl⟩;refine⟨Same.refl _,?_⟩;unfold mZ;generalize mg _ 0 l.length=i;cases ad:l[i]? with
 |none=>
  have bE:¬i<l.length:=by simpa using ad
  simp[cz,bE];exact bY
 |some b=>
  have bE:i<l.length:=(e1.1 ad).1;simp[cz,ad,bE];((with_reducible repeat' first|refine aj ?_|simp[ad]|((first|apply bP|apply bR|apply bQ)<;>intro h<;>try simp at h))<;>(try exact cm));all_goals simp[bt,VZ,aX,aY,aW]
  all_goals simp_all
def r8(l:List al)(v:Int):aZ T:=if mZ l v<0 then none else(l[(mZ l v).toNat]?).map (·.t)
theorem RL(l:List al)(v:Int):mZ l v<l.length∧ -1≤mZ l v:=by
 unfold mZ;simp only;split
 ·rename_i b ad;have:=(e1.1 ad).1;split<;>omega
 ·omega
theorem R0(l:List al)(v:Int)(aw:l.length≤1000000)(o:aZ T)(ax:o=r8 l v):bU ao 138 [.int .i64 v,.ptr (.obj 201) 0] ⟨[(.obj 201,[.slice 5 .no (l.map al.e)])],[]⟩ fun r ai=>r= .tuple [(o.getD .nil).e,.bool o.isSome]∧ai=⟨[(.obj 201,[.slice 5 .no (l.map al.e)])],[]⟩:=by
 have ag:eh ⟨[(.obj 201,[.slice 5 .no (l.map al.e)])],[]⟩:=(eh.of ⟨by intro m;simp[Pv.look],by intro m;simp[Pv.look]⟩ (by simp[aH,aB,inObs,Pv.look]) (by simp[aH,aB,inObs,Pv.look]));have bE:=(RL l v).1;unfold r8 at ax;refine bU.mk mixed fK ab4 aiH (by simp) ag.obj fun aO cL=>?_;unfold Pn;simp;(with_reducible repeat' first|((first|apply bP|apply bR|apply bQ)<;>intro h<;>try simp at h)|refine aj ?_|refine aC (tK l v aw) ?_|refine aD (tK l v aw) ?_|simp)
 ·obtain⟨b,ad⟩:∃b,l[(mZ l v).toNat]? =some b:=⟨_,bZ (by omega)⟩;have fW:o=some b.t:=by rw[ax,if_neg (by omega),ad];rfl
  simp[ad];(with_reducible repeat' first|((first|apply bP|apply bR|apply bQ)<;>intro h<;>try simp at h)|refine aj ?_|simp[ad]);refine cV.at _ (.inl rfl) ag (Same.refl _) aR aR ?_;simp[c1,Md,aX,aY,aW];simp[fW]
 ·have fW:o=none:=by rw[ax,if_pos h]
  refine cV.at _ (.inl rfl) ag (Same.refl _) aR aR ?_;simp[c1,Md,aX,aY,aW];simp[fW]
theorem aec(s:cK)(ag:eh s)(g:Nat)(dj:List ah)(au:aH (inObs s) dj)(dd:cR dj=dj)(f:Int→Int)(Ci:∀v,-1≤f v)(t:T)(aL:∀v,t.occ v=true→bU ao g (.int .i64 v::dj) s fun r ai=>r= .int .i64 (f v)∧ai=s):
  bU ao 192 [t.e,.func g dj] s fun r ai=>r= .int .i64 (lp f t)∧ai=s:=by
 have ay:∀m,Pv.look (.loc m) s.b=none:=ag.obj.1;have hu:∀m cs,cB (.loc m) cs s.b=s.b++[(.loc m,cs)]:=fun m cs=>j8 (ay m);have ax:∀m,aI.loc m∉cX s:=j1 ag.obj;induction t with
 |pair a b dX dY=>
  have ap6:=Hu f Ci a;have ap9:=Hu f Ci b;refine bU.mk mixed fK xz yv (by simp) ag.obj fun aO cL=>?_;unfold vA;simp[hu,ax,cI,ay,dd];(with_reducible repeat' first|refine aj ?_|simp[hu,ax,cI,ay]);refine c8.ob (dX fun v aF=>aL v (by simp[T.occ,aF])) ag aR aR (by simp[au]) ?_;rintro r ai ⟨rfl,rfl⟩;refine⟨Same.refl _,?_⟩;simp[gW,iA,cz,ay];(with_reducible repeat' first|((first|apply bP|apply bR|apply bQ)<;>intro h<;>try simp at h)|refine aj ?_|simp[hu,ax,cI,ay])
  ·refine cV.at ai (.inl rfl) ag (Same.refl _) aR aR ?_;simp[c1,u7,aX,aY,aW];simp[lp];omega
  ·rw[dd];refine c8.ob (dY fun v aF=>aL v (by simp[T.occ,aF])) ag aR aR (by simp[au]) ?_;rintro r s2 ⟨rfl,rfl⟩;refine⟨Same.refl _,?_⟩;simp[gW,iA,cz,ay];(with_reducible repeat' first|((first|apply bP|apply bR|apply bQ)<;>intro h<;>try simp at h)|refine aj ?_|simp[hu,ax,cI,ay]);refine cV.at s2 (.inl rfl) ag (Same.refl _) aR aR ?_;simp[c1,u7,aX,aY,aW];simp[lp];omega
 |var n=>refine bU.mk mixed fK xz yv (by simp) ag.obj fun aO cL=>?_;unfold vA;simp[hu,ax,cI,ay,dd];(with_reducible repeat' first|refine aj ?_|simp[hu,ax,cI,ay]);refine c8.ob (aL n (by simp[T.occ])) ag aR aR (by simp[au]) ?_;rintro r ai ⟨rfl,rfl⟩;refine⟨Same.refl _,?_⟩;simp[gW,iA,cz,ay];refine cV.at ai (.inl rfl) ag (Same.refl _) aR aR ?_;simp[c1,u7,aX,aY,aW];simp[lp]
 |_=>refine bU.mk mixed fK xz yv (by simp) ag.obj fun aO cL=>?_;unfold vA;simp[hu,ax,cI,ay,dd];(with_reducible repeat' first|refine aj ?_|simp[hu,ax,cI,ay]);refine cV.at s (.inl rfl) ag (Same.refl _) aR aR ?_;simp[c1,u7,aX,aY,aW];simp[lp]
theorem adZ(s:cK)(ag:eh s)(g:Nat)(dj:List ah)(au:aH (inObs s) dj)(dd:cR dj=dj)(f:Int→aZ T)(t:T)(aL:∀v,t.occ v=true→bU ao g (.int .i64 v::dj) s fun r ai=>r= .tuple [((f v).getD .nil).e,.bool (f v).isSome]∧ai=s):
  bU ao 194 [t.e,.func g dj] s fun r ai=>r=(t.sub f).e∧ai=s:=by
 have ay:∀m,Pv.look (.loc m) s.b=none:=ag.obj.1;have cF:∀m,Pv.look (.loc m) s.e=none:=ag.obj.2;have hu:∀m cs,cB (.loc m) cs s.b=s.b++[(.loc m,cs)]:=fun m cs=>j8 (ay m);have ax:∀m,aI.loc m∉cX s:=j1 ag.obj;have lM:∀m p r,cB (.loc m) p (s.b++r)=s.b++cB (.loc m) p r:=fun m p r=>Bi (ay m);induction t with
 |pair a b dX dY=>refine bU.mk mixed fK zs AG (by simp) ag.obj fun aO cL=>?_;unfold xt;simp[hu,ax,cI,ay,cF,dd,lM];(with_reducible repeat' first|refine aj ?_|simp[hu,ax,cI,ay,cF,lM]);refine h6.ob (dX fun v aF=>aL v (by simp[T.occ,aF])) ag ag (Same.refl _) aR aR (by simp[au]) ?_;simp[gW,iA,cz,ay,dd];refine h6.ob (dY fun v aF=>aL v (by simp[T.occ,aF])) ag ag (Same.refl _) aR aR (by simp[au]) ?_;simp[gW,iA,cz,ay,dd];(with_reducible repeat' first|refine aj ?_|refine aC (HS _ _) ?_|refine aD (HS _ _) ?_|simp);refine cV.at s (.inl rfl) ag (Same.refl _) aR aR ?_;simp[c1,yC,aX,aY,aW,cI,ay];simp[T.sub]
 |var n=>
  refine bU.mk mixed fK zs AG (by simp) ag.obj fun aO cL=>?_;unfold xt;simp[hu,ax,cI,ay,dd,lM];(with_reducible repeat' first|refine aj ?_|simp[hu,ax,cI,ay,lM]);refine c8.ob (aL n (by simp[T.occ])) ag aR aR (by simp[au]) ?_;rintro r ai ⟨rfl,rfl⟩;refine⟨Same.refl _,?_⟩;simp[gW,iA,cz,ay,hu,ax,cI];(with_reducible repeat' first|((first|apply bP|apply bR|apply bQ)<;>intro h<;>try simp at h)|refine aj ?_|refine aC (tJ _) ?_|refine aD (tJ _) ?_|simp[hu,ax,cI,ay,lM]);all_goals refine cV.at ai (.inl rfl) ag (Same.refl _) aR aR ?_
  all_goals simp[c1,yC,aX,aY,aW,cI,ay]
  all_goals cases qQ:f n<;>simp_all[T.sub]
 |_=>refine bU.mk mixed fK zs AG (by simp) ag.obj fun aO cL=>?_;unfold xt;simp[hu,ax,cI,ay,dd,lM];(with_reducible repeat' first|((first|apply bP|apply bR|apply bQ)<;>intro h<;>try simp at h)|refine aj ?_|simp[hu,ax,cI,ay,lM]);refine cV.at s (.inl rfl) ag (Same.refl _) aR aR ?_;simp[c1,yC,aX,aY,aW,cI,ay];simp[T.sub]
def oj(l:List al):cK:=⟨[(.obj 201,[.slice 5 .no (l.map al.e)])],[]⟩
def rn(l:List al):cK:=⟨[(.obj 201,[.slice 5 .no (l.map al.e)]),(.obj 202,[.func 138 [.ptr (.obj 201) 0]])],[]⟩
theorem Bu(l:List al):eh (oj l):=by unfold oj;exact(eh.of ⟨by intro m;simp[Pv.look],by intro m;simp[Pv.look]⟩ (by simp[aH,aB,inObs,Pv.look]) (by simp[aH,aB,inObs,Pv.look]))
theorem HZ(l:List al):eh (rn l):=by unfold rn;exact(eh.of ⟨by intro m;simp[Pv.look],by intro m;simp[Pv.look]⟩ (by simp[aH,aB,inObs,Pv.look]) (by simp[aH,aB,inObs,Pv.look]))
def ui(l:List al)(v:Int):Int:=match r8 l v with|some x=>ft x.tm 5000|none=>1
theorem adI(l:List al)(v:Int): -1≤ui l v:=by
 unfold ui;split
 ·rename_i x _;rcases Dg x.tm 5000 with h|h<;>omega
 ·omega
theorem X4(t:T):bH ao 131 [t.e,.int .i64 5000] (.int .i64 (ft t.tm 5000)):=by have:=X3 t.tm.sz t.tm (eR _) 5000 (by omega);rwa[jb]at this
theorem ad9(l:List al)(v:Int)(aw:l.length≤1000000):bU ao 193 [.int .i64 v,.ptr (.obj 202) 0] (rn l) fun r ai=>r= .int .i64 (ui l v)∧ai=rn l:=by
 have ag:=HZ l;unfold rn at ag⊢;refine bU.mk mixed fK ab6 aiJ (by simp) ag.obj fun aO cL=>?_;unfold Pp;simp;refine c8.ob (R0 l v aw _ rfl) (Bu l) aR aR (by simp[inObs]) ?_;rintro r ai ⟨rfl,rfl⟩;refine⟨Same.refl _,?_⟩;simp[cz];(with_reducible repeat' first|((first|apply bP|apply bR|apply bQ)<;>intro h<;>try simp at h)|refine aj ?_|refine aC (X4 _) ?_|refine aD (X4 _) ?_|simp);all_goals refine cV.at _ (.inl rfl) ag (Same.refl _) aR aR ?_
 all_goals simp[c1,V7,aX,aY,aW]
 all_goals unfold ui
 all_goals cases bG:r8 l v<;>simp_all
def DB(l:List al)(t:T):T:=t.sub (r8 l)
def tq(l:List al)(t:T):Bool:=decide (lp (ui l) t≤5000)
theorem ad8(l:List al)(t:T)(aw:l.length≤1000000):bU ao 137 [t.e,.func 138 [.ptr (.obj 201) 0]] (oj l) fun r ai=>r= .tuple [(if tq l t then DB l t else .nil).e,.bool (tq l t)]∧ai=oj l:=by
 have ag:=Bu l;unfold oj at ag⊢;refine bU.mk mixed fK ab5 aiI (by simp) ag.obj fun aO cL=>?_;unfold Po;simp;refine c8.ob (aec (rn l) (HZ l) 193 [.ptr (.obj 202) 0] (by simp[inObs,rn]) (by simp) (ui l) (adI l) t fun v aF=>ad9 l v aw) (HZ l) (by unfold rn;exact aR) (by unfold rn;exact aR) (by simp[inObs,rn]) ?_;rintro r ai ⟨rfl,rfl⟩;refine⟨Same.refl _,?_⟩;unfold rn;simp[cz];(with_reducible repeat' first|((first|apply bP|apply bR|apply bQ)<;>intro h<;>try simp at h)|refine aj ?_|simp)
 ·refine cV.at _ (.inl rfl) ag (Same.refl _) aR aR ?_;simp[c1,Me,aX,aY,aW];have:tq l t=false:=by simp[tq];omega
  simp[this]
 ·refine c8.ob (adZ (oj l) (Bu l) 138 [.ptr (.obj 201) 0] (by simp[inObs,oj]) (by simp) (r8 l) t fun v aF=>R0 l v aw _ rfl) (Bu l) (by unfold oj;exact aR) (by unfold oj;exact aR) (by simp[inObs,oj]) ?_;rintro r ai ⟨rfl,rfl⟩;refine⟨Same.refl _,?_⟩;unfold oj;simp[cz];refine cV.at _ (.inl rfl) ag (Same.refl _) aR aR ?_;simp[c1,Me,aX,aY,aW];have:tq l t=true:=by simp[tq];omega
  simp[this,DB]
theorem anC(l:List al)(t:T)(aw:l.length≤1000000):bH ao 69 [.slice 5 .no (l.map al.e),t.e] (.tuple [(if tq l t then DB l t else .nil).e,.bool (tq l t)]):=by refine bh fK ab3 aiG fun aO=>?_;unfold Pm;simp;refine c8.ob (ad8 l t aw) (Bu l) (by unfold oj;exact aR) (by unfold oj;exact aR) (by simp[inObs,oj]) ?_;rintro r ai ⟨rfl,rfl⟩;refine⟨Same.refl _,?_⟩;unfold oj;simp[cz];simp[bt,V6,aX,aY,aW]
theorem MX(p:Nat→Bool)(n:Nat)(hm:∀k bS,k≤bS→bS<n→p k=true→p bS=true):∀(m i j:Nat),j-i≤m→i≤j→j≤n→(∀k,k<i→p k=false)→(∀k,j≤k→k<n→p k=true)→
  (i≤mg p i j∧mg p i j≤j)∧(∀k,k<mg p i j→p k=false)∧(∀k,mg p i j≤k→k<n→p k=true)
 |m,i,j,aQ,lF,ae,J,U=>by
  rw[mg];split
  ·rename_i bE;obtain⟨m,rfl⟩:∃ht,m=ht+1:=⟨m-1,by omega⟩;split
   ·rename_i bG;have:=MX p n hm m i ((i+j)/2) (by omega) (by omega) (by omega) J (fun k ab FD=>hm _ k ab FD bG);exact⟨⟨this.1.1,by omega⟩,this.2⟩
   ·rename_i bG;have:=MX p n hm m ((i+j)/2+1) j (by omega) (by omega) ae (fun k ab=>by
     by_cases nR:p k=true
     ·exact absurd (hm k ((i+j)/2) (by omega) (by omega) nR) bG
     ·simpa using nR) U
    exact⟨⟨by omega,this.1.2⟩,this.2⟩
  ·obtain rfl:i=j:=by omega
   exact⟨⟨eR _,eR _⟩,J,U⟩
theorem L2{l:List al}(ag:hH l)(v:Int):r8 l v=df l v:=by
 have bE:∀(i j:Nat) (x y:al),i<j→l[i]? =some x→l[j]? =some y→x.v<y.v:=by intro i j x y lF af aM;obtain⟨J,rfl⟩:=e1.1 af;obtain⟨U,rfl⟩:=e1.1 aM;exact o7.1 ag i j J U lF
 obtain⟨p,bG⟩:∃p:Nat→Bool,p=(fun i=>match l[i]? with|some b=>decide (v≤b.v)|none=>false):=⟨_,rfl⟩;have FM:∀i b,l[i]? =some b→p i=decide (v≤b.v):=fun i b ad=>by rw[bG];simp[ad]
 have hm:∀k bS,k≤bS→bS<l.length→p k=true→p bS=true:=by
  intro k bS ab nR h;have ak:l[k]? =some l[k]:=bZ (by omega);have aE:l[bS]? =some l[bS]:=bZ nR;rw[FM k _ ak]at h;rw[FM bS _ aE];simp only[e2]at h⊢;rcases Nat.lt_or_eq_of_le ab with vX|rfl
  ·have:=bE k bS _ _ vX ak aE;omega
  ·exact h
 obtain⟨⟨_,hle⟩,hbef,haft⟩:=MX p l.length hm l.length 0 l.length (by omega) (by omega) (eR _) (fun k ab=>by omega) (fun k J U=>by omega);have J5:mZ l v=(match l[mg p 0 l.length]? with|some b=>if b.v=v then((mg p 0 l.length:Nat):Int)else-1|none=> -1):=by rw[bG];rfl
 generalize mg p 0 l.length=r at hle hbef haft J5;by_cases hex:∃(k:Nat) (b:al),l[k]? =some b∧b.v=v
 ·obtain⟨k,b,ad,Ss⟩:=hex;have hK:k<l.length:=(e1.1 ad).1;have gf:r≤k:=by
   rcases Nat.lt_or_ge k r with h|h
   ·have:=hbef k h;rw[FM k b ad]at this;simp at this;omega
   ·exact h
  have aJ:l[r]? =some l[r]:=bZ (by omega);have zZ:=haft r (eR _) (by omega);rw[FM r _ aJ]at zZ;simp only[e2]at zZ;have afP:r=k:=by
   rcases Nat.lt_or_eq_of_le gf with h|h
   ·have:=bE r k _ _ h aJ ad;omega
   ·exact h
  subst afP;have J8:mZ l v=r:=by rw[J5,ad];simp[Ss]
  have J:r8 l v=some b.t:=by unfold r8;rw[J8,if_neg (by omega)];simp[ad]
  have U:l.find? (fun b=>b.v==v)=some b:=by
   rw[List.find?_eq_some_iff_getElem];refine⟨by simp[Ss],r,hK,?_,fun j ae=>?_⟩
   ·rw[bZ hK]at ad;simpa using ad
   ·have:=bE j r l[j] b ae (bZ (by omega)) ad;simp;omega
  rw[J];simp[df,U]
 ·have U:l.find? (fun b=>b.v==v)=none:=by rw[List.find?_eq_none];intro b ad;obtain⟨k,ab,rfl⟩:=List.mem_iff_getElem.1 ad;simp;intro e;exact hex ⟨k,l[k],bZ ab,e⟩
  have J8:mZ l v= -1:=by
   rw[J5];split
   ·rename_i b ad;rw[if_neg (fun e=>hex ⟨r,b,ad,e⟩)]
   ·rfl
  unfold r8;rw[J8];simp[df,U]
theorem RM{l:List al}(ag:hH l)(v:Int):mZ l v<0↔df l v=none:=by
 rw[←L2 ag v];unfold r8;have J:=RL l v;by_cases h:mZ l v<0
 ·simp[h]
 ·simp only[h,if_false,false_iff];intro e;rw[Option.map_eq_none_iff,List.getElem?_eq_none_iff]at e;omega
def xC(s:List al):Prop:= ∀b∈s,b.t.fit=true
theorem adH{l:List al}(ag:hH l)(h:xC l)(v:Int):ui l v=(bV l v).size:=by
 unfold ui bV;rw[L2 ag];cases ad:df l v with
 |none=>simp[T.size]
 |some x=>have:=h _ (jU ad);simp only[T.fit,cC,e2]at this;simp only[ka];rw[GD,if_pos ⟨this.1,by omega⟩]
theorem alS{l:List al}(ag:hH l)(h:xC l)(t:T):lp (ui l) t=cut (t.ap (bV l)).size:=by
 induction t with
 |var n=>simp only[lp,adH ag h,T.ap];rfl
 |pair a b dX dY=>have ad:=T.size_pos (b.ap (bV l));simp only[lp,dX,dY,T.ap,T.size];unfold cut;(repeat' split)<;>omega
 |_=>simp[lp,T.ap,T.size,cut]
theorem akf{l:List al}(ag:hH l)(h:xC l)(t:T):tq l t=decide ((t.ap (bV l)).size≤5000):=by unfold tq;rw[alS ag h];unfold cut;split<;>simp<;>omega
theorem akg{l:List al}(ag:hH l)(t:T):DB l t=t.ap (bV l):=by unfold DB;rw[Xd];exact tW fun v _=>by rw[L2 ag];rfl
theorem yX(l:List al)(t:T)(aw:l.length≤1000000)(ag:hH l)(h:xC l):bH ao 69 [.slice 5 .no (l.map al.e),t.e] (.tuple [(if(t.ap (bV l)).size≤5000 then t.ap (bV l)else .nil).e,.bool (decide ((t.ap (bV l)).size≤5000))]):=by have:=anC l t aw;rw[akf ag h,akg ag]at this;simpa using this
def C5(l:List (Int×T)):List ah:=jL (l.map fun x=>(x.1,x.2.e))
@[simp] theorem arb:C5 []=jL []:=rfl
@[simp] theorem asu(m:aI)(l:List (Int×T)):wR m (C5 l)=some (b9 l.length [] m):=by simp[C5]
@[simp] theorem arJ(l:List (Int×T)):hU (C5 l)=false:=rfl
@[simp] theorem arv(f:aI→aZ (List ah))(m:aI)(l:List (Int×T))(hm:f m=some (C5 l)):uZ f (.gmap m)=some (True,.int .i64 l.length):=by have:=ahM f m _ hm;simpa using this
end Go.Proofs.YtahlgcidhnjlbaaGreat
namespace Go.Proofs
open Go.Shelf
def Tryz.lays191_ren:Go.Shelf.Ren:=⟨fun|191=>191|189=>220|125=>213|257=>250|128=>236|129=>237|294=>261|295=>262|296=>263|297=>264|298=>265|299=>266|216=>267|300=>268|301=>269|328=>272|329=>273|330=>274|331=>275|332=>276|215=>277|343=>278|n=>n,fun|28=>76|0=>0|3=>3|46=>192|51=>206|53=>208|4=>4|183=>230|182=>229|131=>214|5=>5|9=>9|218=>238|222=>226|228=>241|229=>236|n=>n,fun|n=>n⟩
theorem Tryz.lays191:Go.Proofs.Lays.n191 ao Tryz.lays191_ren:={
 mixed:=by kernel_rfl
 f125:=Tryz.func213.trans (eB some (by kernel_rfl))
 f128:=Tryz.func236.trans (eB some (by kernel_rfl))
 f129:=Tryz.func237.trans (eB some (by kernel_rfl))
 f189:=Tryz.func220.trans (eB some (by kernel_rfl))
 f191:=Tryz.func191.trans (eB some (by kernel_rfl))
 f215:=Tryz.func277.trans (eB some (by kernel_rfl))
 f216:=Tryz.func267.trans (eB some (by kernel_rfl))
 f257:=Tryz.func250.trans (eB some (by kernel_rfl))
 f294:=Tryz.func261.trans (eB some (by kernel_rfl))
 f295:=Tryz.func262.trans (eB some (by kernel_rfl))
 f296:=Tryz.func263.trans (eB some (by kernel_rfl))
 f297:=Tryz.func264.trans (eB some (by kernel_rfl))
 f298:=Tryz.func265.trans (eB some (by kernel_rfl))
 f299:=Tryz.func266.trans (eB some (by kernel_rfl))
 f300:=Tryz.func268.trans (eB some (by kernel_rfl))
 f301:=Tryz.func269.trans (eB some (by kernel_rfl))
 f328:=Tryz.func272.trans (eB some (by kernel_rfl))
 f329:=Tryz.func273.trans (eB some (by kernel_rfl))
 f330:=Tryz.func274.trans (eB some (by kernel_rfl))
 f331:=Tryz.func275.trans (eB some (by kernel_rfl))
 f332:=Tryz.func276.trans (eB some (by kernel_rfl))
 f343:=Tryz.func278.trans (eB some (by kernel_rfl))
 t0:=Tryz.underlying0
 a0:=Tryz.isAgg0
 z0:=Tryz.sizeOf0
 v0:=Tryz.zeroValue0
 t3:=Tryz.underlying3
 a3:=Tryz.isAgg3
 z3:=Tryz.sizeOf3
 v3:=Tryz.zeroValue3
 t4:=Tryz.underlying4
 a4:=Tryz.isAgg4
 z4:=Tryz.sizeOf4
 v4:=Tryz.zeroValue4
 t5:=Tryz.underlying5
 a5:=Tryz.isAgg5
 z5:=Tryz.sizeOf5
 v5:=Tryz.zeroValue5
 t9:=Tryz.underlying9
 a9:=Tryz.isAgg9
 z9:=Tryz.sizeOf9
 v9:=Tryz.zeroValue9
 t28:=Tryz.underlying76
 a28:=Tryz.isAgg76
 z28:=Tryz.sizeOf76
 v28:=Tryz.zeroValue76
 t46:=Tryz.underlying192
 a46:=Tryz.isAgg192
 z46:=Tryz.sizeOf192
 v46:=Tryz.zeroValue192
 t51:=Tryz.underlying206
 a51:=Tryz.isAgg206
 z51:=Tryz.sizeOf206
 v51:=Tryz.zeroValue206
 t53:=Tryz.underlying208
 a53:=Tryz.isAgg208
 z53:=Tryz.sizeOf208
 v53:=Tryz.zeroValue208
 t131:=Tryz.underlying214
 a131:=Tryz.isAgg214
 z131:=Tryz.sizeOf214
 v131:=Tryz.zeroValue214
 t182:=Tryz.underlying229
 a182:=Tryz.isAgg229
 z182:=Tryz.sizeOf229
 v182:=Tryz.zeroValue229
 t183:=Tryz.underlying230
 a183:=Tryz.isAgg230
 z183:=Tryz.sizeOf230
 v183:=Tryz.zeroValue230
 t218:=Tryz.underlying238
 a218:=Tryz.isAgg238
 z218:=Tryz.sizeOf238
 v218:=Tryz.zeroValue238
 t222:=Tryz.underlying226
 a222:=Tryz.isAgg226
 z222:=Tryz.sizeOf226
 v222:=Tryz.zeroValue226
 t228:=Tryz.underlying241
 a228:=Tryz.isAgg241
 z228:=Tryz.sizeOf241
 v228:=Tryz.zeroValue241
 t229:=Tryz.underlying236
 a229:=Tryz.isAgg236
 z229:=Tryz.sizeOf236
 v229:=Tryz.zeroValue236}
end Go.Proofs

namespace Go.Proofs.YtahlgcidhnjlbaaGreat
open Go Go.Pv
def dA(xs:List Int):List ah:=xs.map (ah.int .i64)
theorem WE{w:World}{ν:bf}:∀{xs:List Int} {us:List Value},dB w ν 1 (dA xs) us→us=xs.map (Value.int .i64)
 |[],us,h=>by simpa[dA,dB]using h
 |x::xs,us,h=>by simp only[dA,gO,dB]at h;obtain⟨u,cn,rfl,⟨J,_,_⟩,U⟩:=h;simp only[bc]at J;subst J;rw[WE U];rfl
theorem TC(w:World)(ν:bf):∀xs:List Int,dB w ν 1 (dA xs) (xs.map (Value.int .i64))
 |[]=>by simp[dA,dB]
 |x::xs=>by simp only[dA,gO,dB];exact⟨.int .i64 x,_,rfl,⟨by simp[bc],rfl,by intro c au;simp[pR]at au;subst au;rfl⟩,TC w ν xs⟩
def mU(K:Nat)(xs:List Int):cK:=⟨[],[(.obj K,⟨xs.length,3,1,some (dA xs)⟩)]⟩
theorem tf(S:aI→Prop)(xs:List Int):aH S (dA xs):=by
 induction xs with
 |nil=>simp[dA,aH]
 |cons x r bO=>simp only[dA,gO,aH,aB];exact⟨trivial,bO⟩
theorem H4(K:Nat)(xs:List Int):eh (mU K xs):=by unfold mU;refine eh.of ⟨by intro m;simp[Pv.look],by intro m;simp[Pv.look]⟩ (by simp) ?_;intro x af ys aM;simp at af;subst af;simp at aM;subst aM;exact tf _ xs
def q6(xs:List Int):List Int:=xs.mergeSort fun x y=>decide (x≤y)
theorem W4(xs:List Int):(q6 xs).length=xs.length:=List.length_mergeSort xs
theorem aeh(K:Nat)(xs:List Int)(aw:xs.length≤1000000):bU ao 191 [.row 1 (.obj K) xs.length] (mU K xs) fun r ai=>r= .tuple []∧ai=mU K (q6 xs):=by
 refine bU.sem (H4 K xs).obj fun w ν aV kX aJ=>?_;refine .inl ⟨⟨Tryz.f191,Tryz.func191,by kernel_rfl,by kernel_rfl⟩,?_⟩;have rT:=aJ.slot 0;simp only[kn,Pv.get,if_true]at rT;have kV:Pv.look (.obj K) (mU K xs).e=some ⟨xs.length,3,1,some (dA xs)⟩:=by simp[mU,Pv.look]
 obtain⟨v,us,a8,bF,b0,c0⟩:=aJ.good.own (.obj K) _ kV;obtain⟨da,nZ,u5⟩:=c0 _ rfl;have qV:=WE nZ;subst qV;simp only[bc]at rT;obtain⟨⟨aoA,Zv,vO⟩,_,n',u,ak,aE,bj⟩:=rT;rw[a8]at ak;simp only[dL,jy]at ak;obtain⟨rfl,rfl⟩:=ak;have aF:=bj rfl;have af4:aV= #[v]:=by
  have J:aV.size=1:=by simpa using kX
  apply Array.ext (by simpa using J);intro i U ar;simp at ar;subst ar;rw[←aF];simp[Array.getD,J]
 have cF:v≠ .slice none 0 0:=by rw[←aF,vO];simp
 obtain⟨g,cap,rfl,_,qR,rM,ae2,Cl,B8⟩:=Lib.holds_of_ownsRow bF cF;have au:=Any.sort_Ints Tryz.lays191 g 0 cap xs w B8 qR (by omega);subst af4;refine au.mono ?_;rintro e w' ⟨rfl,n,os,rfl⟩;have p5:=W4 xs;have lH:=Lib.ownsRow_putRow (q:=n) (k:=xs.length) (ys:=q6 xs) bF p5 (eR _);rw[hG (by omega)]at lH;obtain⟨cP,dt,_⟩:=aJ.setRowM (w':=Sort.putRow (Value.int .i64) (Sort.ahead w n) g 0 (q6 xs).toArray) kV rfl a8 (bl:=g) rfl (v':= .slice (some ⟨g,0,none⟩) xs.length cap) rfl (xs':=dA (q6 xs)) (us:=(q6 xs).map (Value.int .i64)) (.inl ⟨by simp[dA,p5],rfl⟩) rfl rfl rfl
  (fun j ae=>by simp[Sort.putRow,Sort.mapBlock,Sort.ahead,Array.getElem?_modify,k6 ae]) (by simp[Sort.putRow,Sort.mapBlock,Sort.ahead]) (by simpa[dA,p5]using lH) (TC _ _ _)
 have iR:=cP.grown (w':=Sort.grow (Sort.putRow (Value.int .i64) (Sort.ahead w n) g 0 (q6 xs).toArray) os) ⟨rfl,rfl,rfl,by simp,fun k ab _=>Sort.heap_grow_old _ _ ab⟩;refine⟨_,_,_,_,.tuple [],mU K (q6 xs),rfl,iR,by simp[bc,cQ],by simp[mU,mc],?_,?_,?_,(H4 K _).obj,by simp[aB,aH],rfl,rfl⟩
 ·simp[mU,mc,inObs,Pv.look]
 ·intro k cs ab;simp[mU,Pv.look]at ab
 ·intro k o ab;have hm:=th ab;simp[mU]at hm;obtain⟨rfl,rfl⟩:=hm;refine⟨by simp[mU,Pv.look,cB,dA,p5],.inr (by simp[ab]),fun ys aM=>?_⟩;simp at aM;subst aM;exact tf _ _
def ov(l:List Int):List ah:=jL (l.map fun x=>(x,.bool true))
theorem mI(S:aI→Prop)(l:List Int):aH S (ov l):=by
 have:∀l:List Int,aH S (ks (l.map fun x=>(x,.bool true))):=by
  intro l;induction l with
  |nil=>simp[ks,aH]
  |cons x r bO=>simp[ks,aH,bO,aB]
 simp[ov,jL,aH,this,aB]
def Ih(v:Int)(l:List Int):List Int:=if v∈l then l else l++[v]
theorem Og(k:Int):∀l:List Int,pe k (.bool true) (l.map fun x=>(x,ah.bool true))=if k∈l then some (l.map fun x=>(x,ah.bool true))else none
 |[]=>rfl
 |i::r=>by
  by_cases h:k=i
  ·simp[pe,h]
  ·by_cases U:k∈r<;>simp[pe,h,U,Og k r]
@[simp] theorem arw(k:Int)(l:List Int):oO .i (.int .i64 k) (.bool true) (ov l)=some (ov (Ih k l)):=by
 simp only[ov,UY,Ex,Og,Ih];split<;>rename_i h
 ·split at h
  ·simp at h;subst h;simp[*]
  ·cases h
 ·split at h
  ·cases h
  ·simp[*]
@[simp] theorem aoB:ov []=jL []:=rfl
@[simp] theorem arH(l:List Int):hU (ov l)=false:=rfl
@[simp] theorem ast(m:aI)(l:List Int):wR m (ov l)=some (b9 l.length [] m):=by simp[ov]
theorem aho(f:aI→aZ (List ah))(fl mk:aI)(n:Nat)(seen:List Nat)(b:Nat)(l:List Int)(x:Int)(hi:f fl=some (b9 n (seen++[b]) mk))(hm:f mk=some (ov l))(ay:n=l.length)(af:l[b]? =some x):pG f (.ptr fl 0)=some (True,.tuple [.int .i64 x,.bool true]):=by rw[UK f fl mk n seen b _ hi hm (by simpa using ay)];simp[af]
theorem aav{st:bs}{d:Nat}{K:bs→Prop}{fl mk:aI}{n:Nat}{seen:List Nat}{l:List Int}(hi:Pv.look fl st.b=some (b9 n seen mk))(hm:Pv.look mk st.b=some (ov l))(ay:n=l.length)
  (J:(∀b,b<l.length→b∈seen)→K {st with t:=Pv.put d (.tuple [.bool false]) st.t}) (U:∀b x,l[b]? =some x→b∉seen→K {st with t:=Pv.put d (.tuple [.bool true,.int .i64 x,.bool true]) st.t,b:=cB fl (b9 n (seen++[b]) mk) st.b}):
  sK st d (.ptr fl 0) K:=by
 refine Rj hi hm (by simpa using ay) (fun h=>J fun b ad=>h b (by omega)) (fun b k v ad ag=>?_);simp only[ri,gz]at ad;obtain⟨x,ak,aE⟩:=ad;simp only[jy]at aE;obtain⟨rfl,rfl⟩:=aE;exact U b x ak ag
def _root_.Go.Pv.T.fold{α:Type}(f:Int→α→α):T→α→α
 | .var n,a=>f n a
 | .pair x y,a=>y.fold f (x.fold f a)
 |_,a=>a
theorem JE{α:Type}(S:α→cK)(dG:∀a,eh (S a))(e6:∀a b,Same (S a) (S b))(g:Nat)(dj:List ah)(au:∀a,aH (inObs (S a)) dj)(dd:cR dj=dj)(f:Int→α→α)(aL:∀v a,bU ao g (.int .i64 v::dj) (S a) fun r ai=>r= .tuple []∧ai=S (f v a))(t:T):
  ∀a,bU ao 134 [t.e,.func g dj] (S a) fun r ai=>r= .tuple []∧ai=S (t.fold f a):=by
 have ay:∀a m,Pv.look (.loc m) (S a).b=none:=fun a=>(dG a).obj.1;have hu:∀a m cs,cB (.loc m) cs (S a).b=(S a).b++[(.loc m,cs)]:=fun a m cs=>j8 (ay a m);have ax:∀a m,aI.loc m∉cX (S a):=fun a=>j1 (dG a).obj;induction t with
 |pair x y nV p7=>intro a;have ag:=dG a;refine bU.mk mixed fK zr AF (by simp) ag.obj fun aO cL=>?_;unfold xr;simp[hu,ax,cI,ay,dd];(with_reducible repeat' first|refine aj ?_|simp[hu,ax,cI,ay]);refine c8.ob (nV a) ag aR aR (by simp[au]) ?_;rintro r ai ⟨rfl,rfl⟩;refine⟨e6 _ _,?_⟩;simp[gW,iA,cz,ay];(with_reducible repeat' first|refine aj ?_|simp[hu,ax,cI,ay]);rw[dd];refine c8.ob (p7 (x.fold f a)) (dG (x.fold f a)) aR aR (by simp[au]) ?_;rintro r ai ⟨rfl,rfl⟩;refine⟨e6 _ _,?_⟩;simp[gW,iA,cz,ay];refine cV.at (S (y.fold f (x.fold f a))) (.inr rfl) (dG _) (e6 _ _) aR aR ?_;simp[c1,yB,aX,aY,aW];simp[T.fold]
 |var n=>intro a;have ag:=dG a;refine bU.mk mixed fK zr AF (by simp) ag.obj fun aO cL=>?_;unfold xr;simp[hu,ax,cI,ay,dd];(with_reducible repeat' first|refine aj ?_|simp[hu,ax,cI,ay]);refine c8.ob (aL n a) ag aR aR (by simp[au]) ?_;rintro r ai ⟨rfl,rfl⟩;refine⟨e6 _ _,?_⟩;simp[gW,iA,cz,ay,cI];refine cV.at (S (f n a)) (.inr rfl) (dG _) (e6 _ _) aR aR ?_;simp[c1,yB,aX,aY,aW];simp[T.fold]
 |_=>intro a;have ag:=dG a;refine bU.mk mixed fK zr AF (by simp) ag.obj fun aO cL=>?_;unfold xr;simp[hu,ax,cI,ay,dd];(with_reducible repeat' first|refine aj ?_|simp[hu,ax,cI,ay]);refine cV.at (S a) (.inr rfl) ag (Same.refl _) aR aR ?_;simp[c1,yB,aX,aY,aW];simp[T.fold]
def tR(l:List Int):cK:=⟨[(.obj 304,ov l)],[]⟩
theorem NY(l:List Int):eh (tR l):=by unfold tR;exact eh.of ⟨by intro m;simp[Pv.look],by intro m;simp[Pv.look]⟩ (by simp[mI,aH,aB,inObs,Pv.look]) (by simp)
def Ix:C:=(aa [cM 1 0,be 2 false] (.seq (.seq (.fz false 1 (.region [av 6 1 1,cJ 7 158 6,cy 8 7])) (aT 8 (aa [be 2 false] .ret) .skip)) (.seq (aa [av 9 1 1,b7 10 9,bJ 11 0] (e0 12 11 10 (.seq (.block 1 (aa [cd 13 5 9 11,a6 14 5 13,dg 4 ik,bT 5 4 14] (aa [cW (.alloc 5 (some 731) (.bool false)),cW (.store 1 (.t 5) (.c (.bool true)))] (aa [gD 15 1 4 4,a6 16 4 15,ca 17 (.mkf 159 [.t 1,.t 5]),b3 18 134 16 17] (aa [av 19 1 5,cy 20 19,I 21 20,aq 21 false (gD 22 1 4 4),aq 21 false (aG 23 0 1 22),aq 21 false (av 24 1 23),aq 21 false (aS 25 .eql 24 1),bW 21 false 26 25,aq 26 true (gD 27 1 4 4),aq 26 true (aG 28 1 1 27),aq 26 true (av 29 1 28),aq 26 true (aG 30 0 1 4),aq 26 true (av 31 1 30),aq 26 true (bg 32 .geq 29 31),aq 21 false (du 33 26 32),cY 34 21 33] (aT 34 (aa [be 2 false] .ret) .skip)))))) (.region [aS 35 .add 11 1,I 11 35])))) (aa [be 2 true] .ret))))
@[simp] def akq:List bA:=[.tmp 2]
def Iy:C:=(aa [av 4 1 1,I 5 0,b3 6 139 4 5,aS 7 .geq 6 0] (aT 7 (.region [cW (.store 1 (.t 2) (.c (.bool false)))]) .skip))
@[simp] def L9:List bA:=[]
def OL:C:=(aa [eN 4 5,be 5 false] (.seq (aa [I 8 0,cJ 9 86 8,cy 10 9,I 11 10,bW 11 false 12 1,aq 11 false (cJ 13 86 12),aq 11 false (cy 14 13),cY 15 11 14] (aT 15 (aa [eN 4 5,be 5 false] .ret) .skip)) (aa [I 17 1,cJ 18 205 17,I 16 18,cH 19 0 16,cH 20 1 16,I 6 19,I 7 20] (aa [I 21 0,I 22 6,I 23 7,dJ 24 186 [.t 21,.t 22,.t 23],cH 25 0 24,cH 26 1 24,I 4 25,I 5 26] .ret))))
@[simp] def VK:List bA:=[.tmp 4,.tmp 5]
def OQ:C:=(aa [eN 4 5] (.seq (aa [I 8 0,cJ 9 86 8,cy 10 9,I 11 10,bW 11 false 12 1,aq 11 false (cJ 13 86 12),aq 11 false (cy 14 13),cY 15 11 14] (aT 15 (aa [eN 4 5] .ret) .skip)) (aa [eD 16 5 113 [],I 5 16] (.seq (aa [I 17 1,b7 18 17,bJ 19 0] (e0 20 19 18 (.seq (.block 1 (aa [cd 21 5 17 19,a6 22 5 21,dg 7 ik,bT 5 7 22] (aa [I 23 0,aG 24 0 1 7,av 25 1 24,b3 26 139 23 25,aS 27 .lss 26 0] (aT 27 (.drawn true 39 [I 28 5,aG 29 0 1 7,av 30 1 29,gD 31 1 4 7,a6 32 4 31,cJ 33 143 32,jQ 34 ik [(0,1,(.t 30)),(1,4,(.t 33))],eD 35 5 113 [.t 34],hF 36 5 113 28 35,I 5 36]) .skip)))) (.region [aS 37 .add 19 1,I 19 37])))) (aa [I 38 5,I 4 38] .ret)))))
@[simp] def ako:List bA:=[.tmp 4]
def O7:C:=(aa [eN 2 5] (aa [eD 6 5 113 [],I 3 6] (.seq (aa [I 7 0,b7 8 7,bJ 9 0] (e0 10 9 8 (.seq (.block 1 (aa [cd 11 5 7 9,a6 12 5 11,dg 5 ik,bT 5 5 12] (.drawn true 24 [I 13 3,aG 14 0 1 5,av 15 1 14,gD 16 1 4 5,a6 17 4 16,cJ 18 143 17,jQ 19 ik [(0,1,(.t 15)),(1,4,(.t 18))],eD 20 5 113 [.t 19],hF 21 5 113 13 20,I 3 21]))) (.region [aS 22 .add 9 1,I 9 22])))) (aa [I 23 3,I 2 23] .ret))))
@[simp] def aku:List bA:=[.tmp 2]
def IC:C:=(aa [be 4 false] (.seq (aa [I 6 0,b7 7 6,I 8 1,b7 9 8,bg 10 .neq 7 9] (aT 10 (aa [be 4 false] .ret) .skip)) (.seq (aa [I 11 0,b7 12 11,bJ 13 0] (e0 14 13 12 (.seq (.block 1 (aa [I 15 13,I 5 15] (.seq (.drawn true 42 [I 16 0,I 17 5,cd 18 5 16 17,aG 19 0 1 18,av 20 1 19,I 21 1,I 22 5,cd 23 5 21 22,aG 24 0 1 23,av 25 1 24,bg 26 .neq 20 25,I 27 26,bW 27 false 28 0,bW 27 false 29 5,aq 27 false (cd 30 5 28 29),aq 27 false (gD 31 1 4 30),aq 27 false (a6 32 4 31),bW 27 false 33 1,bW 27 false 34 5,aq 27 false (cd 35 5 33 34),aq 27 false (gD 36 1 4 35),aq 27 false (a6 37 4 36),aq 27 false (b3 38 142 32 37),aq 27 false (cy 39 38),cY 40 27 39]) (aT 40 (aa [be 4 false] .ret) .skip)))) (.region [aS 41 .add 13 1,I 13 41])))) (aa [be 4 true] .ret))))
@[simp] def VW:List bA:=[.tmp 4]
def O9:C:=(aa [eN 2 4,eN 3 4] (aa [eD 8 4 30 [],I 4 8] (aa [eD 9 4 30 [],I 5 9] (.seq (aa [I 10 0,b7 11 10,bJ 12 0] (e0 13 12 11 (.seq (.block 1 (aa [cd 14 5 10 12,a6 15 5 14,dg 7 ik,bT 5 7 15] (aa [I 16 4,aG 17 0 1 7,av 18 1 17,cJ 19 116 18,eD 20 4 30 [.t 19],hF 21 4 30 16 20,I 4 21] (.region [I 22 5,gD 23 1 4 7,a6 24 4 23,eD 25 4 30 [.t 24],hF 26 4 30 22 25,I 5 26])))) (.region [aS 27 .add 12 1,I 12 27])))) (aa [I 28 4,I 29 5,I 2 28,I 3 29] .ret)))))
@[simp] def VY:List bA:=[.tmp 2,.tmp 3]
def Ph:C:=(aa [bJ 4 0] (.seq (aa [bJ 5 0] (.block 0 (.loop (.seq (aa [I 8 5,I 9 0,b7 10 9,bg 11 .lss 8 10,I 12 11,bW 12 true 13 5,bW 12 true 14 1,aq 12 true (b7 15 14),aq 12 true (bg 16 .lss 13 15),du 17 12 16] (aT 17 .skip (.exit 0))) (.seq (.block 1 (.seq (.seq (.drawn true 53 [I 20 0,I 21 5,cd 22 5 20 21,aG 23 0 1 22,av 24 1 23,I 25 1,I 26 5,cd 27 5 25 26,aG 28 0 1 27,av 29 1 28,b3 30 190 24 29,I 6 30]) (aa [I 31 6,aS 32 .neq 31 0] (aT 32 (aa [I 33 6,I 4 33] .ret) .skip))) (.seq (.drawn true 53 [I 34 0,I 35 5,cd 36 5 34 35,gD 37 1 4 36,a6 38 4 37,I 39 1,I 40 5,cd 41 5 39 40,gD 42 1 4 41,a6 43 4 42,b3 44 133 38 43,I 7 44]) (aa [I 45 7,aS 46 .neq 45 0] (aT 46 (aa [I 47 7,I 4 47] .ret) .skip))))) (.region [I 18 5,aS 19 .add 18 1,I 5 19])))))) (aa [I 48 0,b7 49 48,I 50 1,b7 51 50,b3 52 190 49 51,I 4 52] .ret)))
@[simp] def DC:List bA:=[.tmp 4]
def Pe:C:=(aa [be 4 false] (.seq (aa [I 11 0,b7 12 11,bJ 13 0] (e0 14 13 12 (.seq (.block 1 (aa [cd 15 5 11 13,a6 16 5 15,dg 6 ik,bT 5 6 16] (aa [I 18 1,aG 19 0 1 6,av 20 1 19,cJ 21 116 20,b3 22 69 18 21,I 17 22,cH 23 0 17,cH 24 1 17,dg 7 ds,bT 4 7 23,I 8 24] (aa [I 26 1,gD 27 1 4 6,a6 28 4 27,b3 29 69 26 28,I 25 29,cH 30 0 25,cH 31 1 25,dg 9 ds,bT 4 9 30,I 10 31] (aa [I 32 8,cy 33 32,I 34 33,bW 34 false 35 10,aq 34 false (cy 36 35),cY 37 34 36,I 38 37,aq 38 false (a6 39 4 7),aq 38 false (a6 40 4 9),aq 38 false (b3 41 142 39 40),aq 38 false (cy 42 41),cY 43 38 42] (aT 43 (aa [be 4 false] .ret) .skip)))))) (.region [aS 44 .add 13 1,I 13 44])))) (aa [be 4 true] .ret)))
@[simp] def Mc:List bA:=[.tmp 4]
def tG:List (Nat×dF):=[
 (3,⟨1,8,.int .i64,.int .i64 0⟩),
 (4,⟨1,1,.bool,.bool false⟩),
 (27,⟨1,24,.slice 30,.slice 4 .nil []⟩),
 (30,⟨4,56,.struct [(0,3),(1,3),(2,9),(3,27)],.agg [.int .i64 0,.int .i64 0,.str [],.slice 4 .nil []]⟩),
 (46,⟨1,24,.slice 113,.slice 5 .nil []⟩),
 (113,⟨5,64,.struct [(0,3),(1,30)],.agg [.int .i64 0,.int .i64 0,.int .i64 0,.str [],.slice 4 .nil []]⟩)]
theorem ra:fP ao tG=true:=by kernel_rfl
theorem U7:b1 tG Ix akq 1 Tryz.f86=true:=by kernel_rfl
theorem Rq:ao.funcs[(86:Nat)]? =some Tryz.f86:=Tryz.func86
theorem U8:b1 tG Iy L9 3 Tryz.f159=true:=by kernel_rfl
theorem Rr:ao.funcs[(159:Nat)]? =some Tryz.f159:=Tryz.func159
theorem ah5:b1 tG OL VK 2 Tryz.f165=true:=by kernel_rfl
theorem abt:ao.funcs[(165:Nat)]? =some Tryz.f165:=Tryz.func165
theorem aia:b1 tG OQ ako 2 Tryz.f166=true:=by kernel_rfl
theorem aby:ao.funcs[(166:Nat)]? =some Tryz.f166:=Tryz.func166
theorem ais:b1 tG O7 aku 1 Tryz.f168=true:=by kernel_rfl
theorem abP:ao.funcs[(168:Nat)]? =some Tryz.f168:=Tryz.func168
theorem Vc:b1 tG IC VW 2 Tryz.f169=true:=by kernel_rfl
theorem Rv:ao.funcs[(169:Nat)]? =some Tryz.f169:=Tryz.func169
theorem aiu:b1 tG O9 VY 1 Tryz.f205=true:=by kernel_rfl
theorem abR:ao.funcs[(205:Nat)]? =some Tryz.f205:=Tryz.func205
theorem aiC:b1 tG Ph DC 2 Tryz.f207=true:=by kernel_rfl
theorem abZ:ao.funcs[(207:Nat)]? =some Tryz.f207:=Tryz.func207
theorem aiz:b1 tG Pe Mc 2 Tryz.f208=true:=by kernel_rfl
theorem abW:ao.funcs[(208:Nat)]? =some Tryz.f208:=Tryz.func208
def Pt:C:=(aa [dg 2 ds] (aa [I 3 0,jQ 4 ds [(0,1,(fQ 1)),(1,1,(.t 3))],bT 4 2 4] .ret))
@[simp] def akx:List bA:=[.cell 2 true 4]
def Pf:C:=(aa [ca 0 (.mov (.c (.nilp)))] (aa [cW (.mkmap 1 (some 702)),cW (.mkmap 2 (some 703)),cW (.mkmap 3 (some 704)),cW (.mkmap 4 (some 705)),cW (.mkmap 5 (some 706)),cW (.mkmap 6 (some 707)),ca 7 (.build [.junk,.junk,.junk,.junk,.junk,.junk] [(0,1,(.t 1)),(1,1,(.t 2)),(2,1,(.t 3)),(3,1,(.t 4)),(4,1,(.t 5)),(5,1,(.t 6))]),cM 8 7,I 0 8] (.fz true 0 .ret)))
@[simp] def V3:List bA:=[.tmp 0]
def O3:C:=(aa [bJ 4 0] (.seq (aa [I 8 0,fw 9 8,aG 10 0 1 9,av 11 1 10,I 12 1,ca 13 (.mget .i (.int .i64 0) true (.t 11) (.t 12)),I 7 13,cH 14 0 7,cH 15 1 7,I 5 14,I 6 15] (aa [I 16 6,cy 17 16] (aT 17 (.region [I 18 0,fw 19 18,aG 20 0 1 19,av 21 1 20,I 22 1,I 23 1,cW (.mput .i (.t 21) (.t 22) (.t 23))]) .skip))) (.seq (.block 0 (.loop (.seq (aa [I 24 0,fw 25 24,aG 26 0 1 25,av 27 1 26,I 28 1,ca 29 (.mget .i (.int .i64 0) false (.t 27) (.t 28)),I 30 1,bg 31 .neq 29 30] (aT 31 .skip (.exit 0))) (.block 1 (.seq (.drawn true 55 [I 32 0,fw 33 32,aG 34 0 1 33,av 35 1 34,I 36 1,I 37 0,fw 38 37,aG 39 0 1 38,av 40 1 39,I 41 0,fw 42 41,aG 43 0 1 42,av 44 1 43,I 45 1,ca 46 (.mget .i (.int .i64 0) false (.t 44) (.t 45)),ca 47 (.mget .i (.int .i64 0) false (.t 40) (.t 46)),cW (.mput .i (.t 35) (.t 36) (.t 47))]) (.region [I 48 0,fw 49 48,aG 50 0 1 49,av 51 1 50,I 52 1,ca 53 (.mget .i (.int .i64 0) false (.t 51) (.t 52)),I 1 53])))))) (aa [I 54 1,I 4 54] .ret))))
@[simp] def VT:List bA:=[.tmp 4]
def OZ:C:=(aa [cM 2 0,cM 3 1] (.fz false 2 (.region [a6 4 4 3,ca 5 (.mkf 245 [.t 2]),b3 6 134 4 5])))
@[simp] def VQ:List bA:=[]
def vz:C:=(aa [cM 4 1,cM 5 2,be 6 false] (.seq (.block 0 (aa [aG 12 0 1 4,av 13 1 12,aS 14 .eql 13 1,I 15 14,aq 15 true (aG 16 0 1 5),aq 15 true (av 17 1 16),aq 15 true (aS 18 .eql 17 1),du 19 15 18,I 11 19] (aT 11 (aa [I 20 0,aG 21 1 1 4,av 22 1 21,b3 23 216 20 22,I 7 23] (aa [I 24 0,aG 25 1 1 5,av 26 1 25,b3 27 216 24 26,I 8 27] (.seq (aa [I 28 7,I 29 8,bg 30 .eql 28 29] (aT 30 (aa [be 6 true] .ret) .skip)) (.seq (aa [I 31 8,I 32 7,bg 33 .lss 31 32] (aT 33 (.region [I 34 8,I 35 7,I 7 34,I 8 35]) .skip)) (aa [I 36 0,fw 37 36,aG 38 0 1 37,av 39 1 38,I 40 8,I 41 7,cW (.mput .i (.t 39) (.t 40) (.t 41))] (.seq (aa [I 42 0,fw 43 42,aG 44 2 1 43,av 45 1 44,I 46 8,ca 47 (.mget .i (.bool false) false (.t 45) (.t 46)),cy 48 47] (aT 48 (aa [I 49 0,fw 50 49,aG 51 2 1 50,av 52 1 51,I 53 7,ca 54 (.mget .i (.bool false) false (.t 52) (.t 53)),cy 55 54,I 56 55,bW 56 false 57 0,bW 56 false 58 0,aq 56 false (fw 59 58),aq 56 false (aG 60 1 1 59),aq 56 false (av 61 1 60),bW 56 false 62 7,xa 56 false 63 (.mget .i (.agg ds) false (.t 61) (.t 62)),bW 56 false 64 7,ys 56 false (.mkmap 65 (some 715)),aq 56 false (dJ 66 246 [.t 57,.t 63,.t 64,.t 65]),aq 56 false (cy 67 66),cY 68 56 67,I 6 68] .ret) .skip)) (aa [I 69 0,fw 70 69,aG 71 1 1 70,av 72 1 71,I 73 8,ca 74 (.mget .i (.agg ds) false (.t 72) (.t 73)),dg 9 ds,bT 4 9 74] (.seq (aa [I 75 0,fw 76 75,aG 77 2 1 76,av 78 1 77,I 79 7,ca 80 (.mget .i (.bool false) false (.t 78) (.t 79)),cy 81 80] (aT 81 (aa [I 82 0,I 83 7,a6 84 4 9,dJ 85 247 [.t 82,.t 83,.t 84],I 6 85] .ret) .skip)) (.seq (.drawnW [715,716] 198 [I 86 0,a6 87 4 9,I 88 7,cW (.mkmap 89 (some 715)),dJ 90 246 [.t 86,.t 87,.t 88,.t 89],cy 91 90,I 92 91,bW 92 true 93 0,bW 92 true 94 0,aq 92 true (fw 95 94),aq 92 true (aG 96 1 1 95),aq 92 true (av 97 1 96),bW 92 true 98 7,xa 92 true 99 (.mgetB .i (.agg ds) false (.t 97) (.t 98)),bW 92 true 100 7,ys 92 true (.mkmap 101 (some 716)),aq 92 true (dJ 102 246 [.t 93,.t 99,.t 100,.t 101]),aq 92 true (cy 103 102),du 104 92 103,I 105 104,bW 105 true 106 0,bW 105 true 107 0,aq 105 true (fw 108 107),aq 105 true (aG 109 1 1 108),aq 105 true (av 110 1 109),bW 105 true 111 7,xa 105 true 112 (.mgetB .i (.agg ds) false (.t 110) (.t 111)),aq 105 true (a6 113 4 9),aq 105 true (dJ 114 218 [.t 106,.t 112,.t 113]),du 115 105 114,I 6 115]) .ret))))))))) (aa [aG 117 0 1 4,av 118 1 117,aS 119 .eql 118 1,I 116 119] (aT 116 (aa [I 120 0,aG 121 1 1 4,av 122 1 121,b3 123 216 120 122,I 10 123] (.seq (aa [I 124 0,fw 125 124,aG 126 2 1 125,av 127 1 126,I 128 10,ca 129 (.mget .i (.bool false) false (.t 127) (.t 128)),cy 130 129] (aT 130 (aa [I 131 0,I 132 10,a6 133 4 5,dJ 134 247 [.t 131,.t 132,.t 133],I 6 134] .ret) .skip)) (.seq (.drawn false 198 [I 135 0,I 136 0,fw 137 136,aG 138 1 1 137,av 139 1 138,I 140 10,ca 141 (.mgetB .i (.agg ds) false (.t 139) (.t 140)),a6 142 4 5,dJ 143 218 [.t 135,.t 141,.t 142],I 6 143]) .ret))) (aa [aG 145 0 1 5,av 146 1 145,aS 147 .eql 146 1,I 144 147] (aT 144 (aa [I 148 0,a6 149 4 5,a6 150 4 4,dJ 151 218 [.t 148,.t 149,.t 150],I 6 151] .ret) (aa [aG 153 0 1 4,av 154 1 153,aG 155 0 1 5,av 156 1 155,bg 157 .neq 154 156,I 158 157,aq 158 false (aG 159 1 1 4),aq 158 false (av 160 1 159),aq 158 false (aG 161 1 1 5),aq 158 false (av 162 1 161),aq 158 false (bg 163 .neq 160 162),cY 164 158 163,I 165 164,aq 165 false (aG 166 2 1 4),aq 165 false (av 167 1 166),aq 165 false (aG 168 2 1 5),aq 165 false (av 169 1 168),aq 165 false (bg 170 .neq 167 169),cY 171 165 170,I 152 171] (aT 152 (aa [be 6 false] .ret) (aa [aG 173 0 1 4,av 174 1 173,aS 175 .eql 174 4,I 172 175] (aT 172 (.seq (.drawn false 198 [I 176 0,aG 177 3 1 4,av 178 1 177,jR 179 4 178 0,a6 180 4 179,aG 181 3 1 5,av 182 1 181,jR 183 4 182 0,a6 184 4 183,dJ 185 218 [.t 176,.t 180,.t 184],I 186 185,bW 186 true 187 0,aq 186 true (aG 188 3 1 4),aq 186 true (av 189 1 188),aq 186 true (jR 190 4 189 1),aq 186 true (a6 191 4 190),aq 186 true (aG 192 3 1 5),aq 186 true (av 193 1 192),aq 186 true (jR 194 4 193 1),aq 186 true (a6 195 4 194),aq 186 true (dJ 196 218 [.t 187,.t 191,.t 195]),du 197 186 196,I 6 197]) .ret) .skip))))))))))) (aa [be 6 true] .ret)))
@[simp] def n1:List bA:=[.tmp 6]
def O0:C:=(.region [av 3 1 1,I 4 0,b3 5 216 3 4])
@[simp] def VR:List bA:=[]
def O1:C:=(aa [cM 4 0,cM 5 1,cM 6 2,cM 7 3,be 8 false] (aa [cW (.alloc 9 (some 712) (.bool false)),cW (.store 1 (.t 9) (.c (.bool false)))] (.seq (.fz false 7 (.fz false 6 (.fz false 4 (.region [a6 10 4 5,ca 11 (.mkf 257 [.t 4,.t 9,.t 6,.t 7]),b3 12 134 10 11])))) (aa [av 13 1 9,I 8 13] .ret))))
@[simp] def VS:List bA:=[.tmp 8]
def OY:C:=(aa [cM 5 2,be 6 false] (.seq (.drawn true 24 [I 7 0,fw 8 7,aG 9 1 1 8,av 10 1 9,I 11 1,a6 12 4 5,cW (.mput .i (.t 10) (.t 11) (.t 12))]) (aa [I 13 0,fw 14 13,aG 15 2 1 14,av 16 1 15,I 17 1,cW (.mput .i (.t 16) (.t 17) (.c (.bool true)))] (aa [I 18 0,a6 19 4 5,I 20 1,cW (.mkmap 21 (some 715)),dJ 22 246 [.t 18,.t 19,.t 20,.t 21],cy 23 22,I 6 23] .ret))))
@[simp] def VP:List bA:=[.tmp 6]
def zf:C:=(aa [cM 2 0,be 4 false] (.seq (.seq (.fz false 2 (.region [av 6 1 2,fw 7 6,aG 8 3 1 7,av 9 1 8,I 10 1,ca 11 (.mget .i (.int .i64 0) false (.t 9) (.t 10)),aS 12 .eql 11 2])) (aT 12 (aa [be 4 true] .ret) .skip)) (.seq (aa [av 13 1 2,fw 14 13,aG 15 3 1 14,av 16 1 15,I 17 1,ca 18 (.mget .i (.int .i64 0) false (.t 16) (.t 17)),aS 19 .eql 18 1] (aT 19 (aa [be 4 false] .ret) .skip)) (aa [av 20 1 2,fw 21 20,aG 22 3 1 21,av 23 1 22,I 24 1,cW (.mput .i (.t 23) (.t 24) (fQ 1))] (aa [av 25 1 2,fw 26 25,aG 27 4 1 26,av 28 1 27,I 29 1,cW (.mput .i (.t 28) (.t 29) (fQ 1))] (.seq (aa [av 30 1 2,fw 31 30,aG 32 2 1 31,av 33 1 32,I 34 1,ca 35 (.mget .i (.bool false) false (.t 33) (.t 34))] (aT 35 (aa [cW (.alloc 5 (some 712) (.bool false)),cW (.store 1 (.t 5) (.c (.bool true)))] (aa [av 36 1 2,fw 37 36,aG 38 1 1 37,av 39 1 38,I 40 1,ca 41 (.mget .i (.agg ds) false (.t 39) (.t 40)),ca 42 (.mkf 258 [.t 5,.t 2]),b3 43 134 41 42] (.seq (aa [av 44 1 5,cy 45 44] (aT 45 (aa [be 4 false] .ret) .skip)) (.drawn false 64 [av 46 1 2,fw 47 46,aG 48 4 1 47,av 49 1 48,I 50 1,av 51 1 2,fw 52 51,aG 53 1 1 52,av 54 1 53,I 55 1,ca 56 (.mgetB .i (.agg ds) false (.t 54) (.t 55)),ca 57 (.mkf 259 [.t 2]),b3 58 192 56 57,cW (.mput .i (.t 49) (.t 50) (.t 58))])))) .skip)) (aa [av 59 1 2,fw 60 59,aG 61 3 1 60,av 62 1 61,I 63 1,cW (.mput .i (.t 62) (.t 63) (fQ 2))] (aa [be 4 true] .ret))))))))
@[simp] def AR:List bA:=[.tmp 4]
def EF:C:=(aa [cM 2 0,dg 4 ds] (.seq (.seq (.fz false 2 (.region [av 9 1 2,fw 10 9,aG 11 5 1 10,av 12 1 11,I 13 1,ca 14 (.mget .i (.agg ds) true (.t 12) (.t 13)),I 8 14,cH 15 0 8,cH 16 1 8,dg 5 ds,bT 4 5 15,I 6 16])) (aa [I 17 6] (aT 17 (aa [a6 18 4 5,bT 4 4 18] .ret) .skip))) (aa [I 19 1,cJ 20 116 19,dg 7 ds,bT 4 7 20] (.seq (aa [av 21 1 2,fw 22 21,aG 23 2 1 22,av 24 1 23,I 25 1,ca 26 (.mget .i (.bool false) false (.t 24) (.t 25))] (aT 26 (.region [av 27 1 2,fw 28 27,aG 29 1 1 28,av 30 1 29,I 31 1,ca 32 (.mget .i (.agg ds) false (.t 30) (.t 31)),ca 33 (.mkf 260 [.t 2]),b3 34 194 32 33,bT 4 7 34]) .skip)) (.seq (.drawn true 42 [av 35 1 2,fw 36 35,aG 37 5 1 36,av 38 1 37,I 39 1,a6 40 4 7,cW (.mput .i (.t 38) (.t 39) (.t 40))]) (aa [a6 41 4 7,bT 4 4 41] .ret))))))
@[simp] def GX:List bA:=[.cell 4 true 4]
def O2:C:=(aa [av 7 1 1,I 8 0,b3 9 216 7 8,I 6 9] (.seq (aa [av 10 1 2,I 11 10,bW 11 false 12 6,aq 11 false (av 13 1 3),aq 11 false (bg 14 .eql 12 13),cY 15 11 14] (aT 15 (aa [cW (.store 1 (.t 2) (.c (.bool true)))] .ret) .skip)) (aa [av 16 1 4,I 17 6,ca 18 (.mget .i (.bool false) false (.t 16) (.t 17)),cy 19 18,I 20 19,aq 20 true (av 21 1 1),aq 20 true (fw 22 21),aq 20 true (aG 23 2 1 22),aq 20 true (av 24 1 23),bW 20 true 25 6,aq 20 true (ca 26 (.mget .i (.bool false) false (.t 24) (.t 25))),du 27 20 26] (aT 27 (aa [av 28 1 4,I 29 6,cW (.mput .i (.t 28) (.t 29) (.c (.bool true)))] (.drawn false 40 [av 30 1 1,av 31 1 1,fw 32 31,aG 33 1 1 32,av 34 1 33,I 35 6,ca 36 (.mgetB .i (.agg ds) false (.t 34) (.t 35)),av 37 1 3,av 38 1 4,dJ 39 246 [.t 30,.t 36,.t 37,.t 38],bT 1 2 39])) .skip))))
@[simp] def AQ:List bA:=[]
def IA:C:=(.seq (.drawn false 13 [ca 4 (.loadB false 1 (.t 1)),I 5 4,aq 5 true (av 6 1 2),aq 5 true (av 7 1 2),bW 5 true 8 0,aq 5 true (b3 9 216 7 8),aq 5 true (b3 10 248 6 9),aq 5 true (cy 11 10),du 12 5 11]) (aT 12 (.region [cW (.store 1 (.t 1) (.c (.bool false)))]) .skip))
@[simp] def GY:List bA:=[]
def O6:C:=(aa [bJ 3 0] (.seq (.drawn false 12 [av 4 1 1,fw 5 4,aG 6 4 1 5,av 7 1 6,av 8 1 1,I 9 0,b3 10 216 8 9,ca 11 (.mgetB .i (.int .i64 0) false (.t 7) (.t 10)),I 3 11]) .ret))
@[simp] def VV:List bA:=[.tmp 3]
def O5:C:=(aa [dg 3 ds,be 4 false] (.seq (.drawn false 10 [av 5 1 1,av 6 1 1,I 7 0,b3 8 216 6 7,b3 9 249 5 8,bT 4 3 9,be 4 true]) .ret))
@[simp] def VU:List bA:=[.cell 3 true 4,.tmp 4]
def oZ:List (Nat×dF):=[
 (3,⟨1,8,.int .i64,.int .i64 0⟩),
 (4,⟨1,1,.bool,.bool false⟩),
 (9,⟨1,16,.str,.str []⟩),
 (27,⟨1,24,.slice 30,.slice 4 .nil []⟩),
 (30,⟨4,56,.struct [(0,3),(1,3),(2,9),(3,27)],.agg [.int .i64 0,.int .i64 0,.str [],.slice 4 .nil []]⟩),
 (136,⟨1,8,.map 3 4,.junk⟩),
 (194,⟨1,8,.other,.nilp⟩),
 (216,⟨1,8,.map 3 3,.junk⟩),
 (217,⟨1,8,.map 3 30,.junk⟩),
 (219,⟨6,48,.struct [(0,216),(1,217),(2,136),(3,216),(4,216),(5,217)],.agg [.junk,.junk,.junk,.junk,.junk,.junk]⟩)]
theorem jw:fP ao oZ=true:=by kernel_rfl
theorem aiN:b1 oZ Pt akx 1 Tryz.f116=true:=by kernel_rfl
theorem aca:ao.funcs[(116:Nat)]? =some Tryz.f116:=Tryz.func116
theorem aiA:b1 oZ Pf V3 0 Tryz.f215=true:=by kernel_rfl
theorem abX:ao.funcs[(215:Nat)]? =some Tryz.f215:=Tryz.func215
theorem aio:b1 oZ O3 VT 2 Tryz.f216=true:=by kernel_rfl
theorem abL:ao.funcs[(216:Nat)]? =some Tryz.f216:=Tryz.func216
theorem aik:b1 oZ OZ VQ 2 Tryz.f217=true:=by kernel_rfl
theorem abH:ao.funcs[(217:Nat)]? =some Tryz.f217:=Tryz.func217
theorem yu:b1 oZ vz n1 3 Tryz.f218=true:=by kernel_rfl
theorem xy:ao.funcs[(218:Nat)]? =some Tryz.f218:=Tryz.func218
theorem ail:b1 oZ O0 VR 2 Tryz.f245=true:=by kernel_rfl
theorem abI:ao.funcs[(245:Nat)]? =some Tryz.f245:=Tryz.func245
theorem aim:b1 oZ O1 VS 4 Tryz.f246=true:=by kernel_rfl
theorem abJ:ao.funcs[(246:Nat)]? =some Tryz.f246:=Tryz.func246
theorem aij:b1 oZ OY VP 3 Tryz.f247=true:=by kernel_rfl
theorem abG:ao.funcs[(247:Nat)]? =some Tryz.f247:=Tryz.func247
theorem Dl:b1 oZ zf AR 2 Tryz.f248=true:=by kernel_rfl
theorem BP:ao.funcs[(248:Nat)]? =some Tryz.f248:=Tryz.func248
theorem LI:b1 oZ EF GX 2 Tryz.f249=true:=by kernel_rfl
theorem Jj:ao.funcs[(249:Nat)]? =some Tryz.f249:=Tryz.func249
theorem ain:b1 oZ O2 AQ 5 Tryz.f257=true:=by kernel_rfl
theorem abK:ao.funcs[(257:Nat)]? =some Tryz.f257:=Tryz.func257
theorem Va:b1 oZ IA GY 3 Tryz.f258=true:=by kernel_rfl
theorem Rt:ao.funcs[(258:Nat)]? =some Tryz.f258:=Tryz.func258
theorem air:b1 oZ O6 VV 2 Tryz.f259=true:=by kernel_rfl
theorem abO:ao.funcs[(259:Nat)]? =some Tryz.f259:=Tryz.func259
theorem aiq:b1 oZ O5 VU 2 Tryz.f260=true:=by kernel_rfl
theorem abN:ao.funcs[(260:Nat)]? =some Tryz.f260:=Tryz.func260
end Go.Proofs.YtahlgcidhnjlbaaGreat
namespace Go.Proofs.YtahlgcidhnjlbaaGreat
open Go Go.Pv
section
variable {α:Type} (S:α→cK) (dG:∀a,eh (S a)) (e6:∀a b,Same (S a) (S b)) (g:Nat) (dj:List ah) (au:∀a,aH (inObs (S a)) dj) (dd:cR dj=dj)
include dG e6 au dd in
theorem RW(gZ:α→Prop)(f:Int→α→aZ α)(aL:∀v a bp,gZ a→f v a=some bp→gZ bp∧bU ao g (.int .i64 v::dj) (S a) fun r ai=>r= .tuple []∧ai=S bp)(t:T):
  ∀a bp,gZ a→t.foldO f a=some bp→gZ bp∧bU ao 134 [t.e,.func g dj] (S a) fun r ai=>r= .tuple []∧ai=S bp:=by
 have ay:∀a m,Pv.look (.loc m) (S a).b=none:=fun a=>(dG a).obj.1;have hu:∀a m cs,cB (.loc m) cs (S a).b=(S a).b++[(.loc m,cs)]:=fun a m cs=>j8 (ay a m);have ax:∀a m,aI.loc m∉cX (S a):=fun a=>j1 (dG a).obj;induction t with
 |pair x y nV p7=>intro a bp hi he;have ag:=dG a;simp only[T.foldO,mS]at he;obtain⟨bD,J,U⟩:=he;obtain⟨i1,g1⟩:=nV a bD hi J;obtain⟨i2,g2⟩:=p7 bD bp i1 U;refine⟨i2,?_⟩;refine bU.mk mixed fK zr AF (by simp) ag.obj fun aO cL=>?_;unfold xr;simp[hu,ax,cI,ay,dd];(with_reducible repeat' first|refine aj ?_|simp[hu,ax,cI,ay]);refine c8.ob g1 ag aR aR (by simp[au]) ?_;rintro r ai ⟨rfl,rfl⟩;refine⟨e6 _ _,?_⟩;simp[gW,iA,cz,ay];(with_reducible repeat' first|refine aj ?_|simp[hu,ax,cI,ay]);rw[dd];refine c8.ob g2 (dG bD) aR aR (by simp[au]) ?_;rintro r ai ⟨rfl,rfl⟩;refine⟨e6 _ _,?_⟩;simp[gW,iA,cz,ay];refine cV.at (S bp) (.inr rfl) (dG _) (e6 _ _) aR aR ?_;simp[c1,yB,aX,aY,aW]
 |var n=>intro a bp hi he;have ag:=dG a;simp only[T.foldO]at he;obtain⟨i1,g1⟩:=aL n a bp hi he;refine⟨i1,?_⟩;refine bU.mk mixed fK zr AF (by simp) ag.obj fun aO cL=>?_;unfold xr;simp[hu,ax,cI,ay,dd];(with_reducible repeat' first|refine aj ?_|simp[hu,ax,cI,ay]);refine c8.ob g1 ag aR aR (by simp[au]) ?_;rintro r ai ⟨rfl,rfl⟩;refine⟨e6 _ _,?_⟩;simp[gW,iA,cz,ay,cI];refine cV.at (S bp) (.inr rfl) (dG _) (e6 _ _) aR aR ?_;simp[c1,yB,aX,aY,aW]
 |_=>intro a bp hi he;have ag:=dG a;simp only[T.foldO,dL]at he;subst he;refine⟨hi,?_⟩;refine bU.mk mixed fK zr AF (by simp) ag.obj fun aO cL=>?_;unfold xr;simp[hu,ax,cI,ay,dd];(with_reducible repeat' first|refine aj ?_|simp[hu,ax,cI,ay]);refine cV.at (S a) (.inr rfl) ag (Same.refl _) aR aR ?_;simp[c1,yB,aX,aY,aW]
include dG e6 au dd in
theorem JF(f:Int→α→aZ α)(aL:∀v a bp,f v a=some bp→bU ao g (.int .i64 v::dj) (S a) fun r ai=>r= .tuple []∧ai=S bp)(t:T)(a bp:α)(h:t.foldO f a=some bp):bU ao 134 [t.e,.func g dj] (S a) fun r ai=>r= .tuple []∧ai=S bp:=(RW S dG e6 g dj au dd (fun _=>True) f (fun v a bp _ h=>⟨trivial,aL v a bp h⟩) t a bp trivial h).2
include dG e6 au dd in
theorem ad0(f:Int→α→aZ (T×α))(aL:∀v a p,f v a=some p→bU ao g (.int .i64 v::dj) (S a) fun r ai=>r= .tuple [p.1.e,.bool true]∧ai=S p.2)(t:T):
  ∀a p,t.mapO f a=some p→bU ao 194 [t.e,.func g dj] (S a) fun r ai=>r=p.1.e∧ai=S p.2:=by
 have ay:∀a m,Pv.look (.loc m) (S a).b=none:=fun a=>(dG a).obj.1;have cF:∀a m,Pv.look (.loc m) (S a).e=none:=fun a=>(dG a).obj.2;have hu:∀a m cs,cB (.loc m) cs (S a).b=(S a).b++[(.loc m,cs)]:=fun a m cs=>j8 (ay a m);have ax:∀a m,aI.loc m∉cX (S a):=fun a=>j1 (dG a).obj;have lM:∀a m p r,cB (.loc m) p ((S a).b++r)=(S a).b++cB (.loc m) p r:=fun a m p r=>Bi (ay a m);induction t with
 |pair x y nV p7=>intro a p he;have ag:=dG a;simp only[T.mapO,mS,gz]at he;obtain⟨cP,J,dt,U,rfl⟩:=he;refine bU.mk mixed fK zs AG (by simp) ag.obj fun aO cL=>?_;unfold xt;simp[hu,ax,cI,ay,cF,dd,lM];(with_reducible repeat' first|refine aj ?_|simp[hu,ax,cI,ay,cF,lM]);refine h6.ob (nV a cP J) ag (dG cP.2) (e6 _ _) aR aR (by simp[au]) ?_;simp[gW,iA,cz,ay,dd];(with_reducible repeat' first|refine aj ?_|simp[hu,ax,cI,ay,cF,lM]);refine h6.ob (p7 cP.2 dt U) (dG cP.2) (dG dt.2) (e6 _ _) aR aR (by simp[au,dd]) ?_;simp[gW,iA,cz,ay,dd];(with_reducible repeat' first|refine aj ?_|refine aC (HS _ _) ?_|refine aD (HS _ _) ?_|simp[cI,ay,lM]);refine cV.at (S dt.2) (.inl rfl) (dG _) (e6 _ _) aR aR ?_;simp[c1,yC,aX,aY,aW,cI,ay]
 |var n=>
  intro a p he;have ag:=dG a;simp only[T.mapO]at he;refine bU.mk mixed fK zs AG (by simp) ag.obj fun aO cL=>?_;unfold xt;simp[hu,ax,cI,ay,dd,lM];(with_reducible repeat' first|refine aj ?_|simp[hu,ax,cI,ay,lM]);refine c8.ob (aL n a p he) ag aR aR (by simp[au]) ?_;rintro r ai ⟨rfl,rfl⟩;refine⟨e6 _ _,?_⟩;simp[gW,iA,cz,ay,hu,ax,cI];(with_reducible repeat' first|refine aj ?_|refine aC (tJ _) ?_|refine aD (tJ _) ?_|simp[hu,ax,cI,ay,lM]);all_goals refine cV.at (S p.2) (.inl rfl) (dG _) (e6 _ _) aR aR ?_
  all_goals simp[c1,yC,aX,aY,aW,cI,ay]
 |_=>intro a p he;have ag:=dG a;simp only[T.mapO,dL]at he;subst he;refine bU.mk mixed fK zs AG (by simp) ag.obj fun aO cL=>?_;unfold xt;simp[hu,ax,cI,ay,dd,lM];(with_reducible repeat' first|refine aj ?_|simp[hu,ax,cI,ay,lM]);refine cV.at (S a) (.inl rfl) ag (Same.refl _) aR aR ?_;simp[c1,yC,aX,aY,aW,cI,ay]
include dG e6 au dd in
theorem aed(gZ:α→Prop)(f:Int→α→aZ (Int×α))(Ci:∀v a p,gZ a→f v a=some p→gZ p.2∧0≤p.1∧p.1≤1000000)(aL:∀v a p,gZ a→f v a=some p→bU ao g (.int .i64 v::dj) (S a) fun r ai=>r= .int .i64 p.1∧ai=S p.2)(t:T):
  ∀a p,gZ a→t.sizeO f a=some p→gZ p.2∧(0≤p.1∧p.1≤5001)∧bU ao 192 [t.e,.func g dj] (S a) fun r ai=>r= .int .i64 p.1∧ai=S p.2:=by
 have ay:∀a m,Pv.look (.loc m) (S a).b=none:=fun a=>(dG a).obj.1;have hu:∀a m cs,cB (.loc m) cs (S a).b=(S a).b++[(.loc m,cs)]:=fun a m cs=>j8 (ay a m);have ax:∀a m,aI.loc m∉cX (S a):=fun a=>j1 (dG a).obj;induction t with
 |pair x y nV p7=>
  intro a p hi he;have ag:=dG a;simp only[T.sizeO,mS]at he;obtain⟨cP,J,U⟩:=he;obtain⟨i1,cl,g1⟩:=nV a cP hi J;by_cases Fv:5000<cP.1
  ·rw[if_pos Fv]at U;cases U;refine⟨i1,cl,?_⟩;refine bU.mk mixed fK xz yv (by simp) ag.obj fun aO cL=>?_;unfold vA;simp[hu,ax,cI,ay,dd];(with_reducible repeat' first|refine aj ?_|simp[hu,ax,cI,ay]);refine c8.ob g1 ag aR aR (by simp[au]) ?_;rintro r ai ⟨rfl,rfl⟩;refine⟨e6 _ _,?_⟩;simp[gW,iA,cz,ay];((with_reducible repeat' first|((first|apply bP|apply bR|apply bQ)<;>intro h<;>try simp at h)|refine aj ?_|simp[hu,ax,cI,ay])<;>(try contradiction));all_goals first|omega|(refine cV.at (S p.2) (.inl rfl) (dG _) (e6 _ _) aR aR ?_;simp[c1,u7,aX,aY,aW])
  ·rw[if_neg Fv,gz]at U;obtain⟨dt,U,rfl⟩:=U;obtain⟨i2,b8,g2⟩:=p7 cP.2 dt i1 U;refine⟨i2,by simp only;split<;>omega,?_⟩;refine bU.mk mixed fK xz yv (by simp) ag.obj fun aO cL=>?_;unfold vA;simp[hu,ax,cI,ay,dd];(with_reducible repeat' first|((first|apply bP|apply bR|apply bQ)<;>intro h<;>try simp at h)|refine aj ?_|simp[hu,ax,cI,ay]);refine c8.ob g1 ag aR aR (by simp[au]) ?_;rintro r ai ⟨rfl,rfl⟩;refine⟨e6 _ _,?_⟩;simp[gW,iA,cz,ay];((with_reducible repeat' first|refine aj ?_|simp[hu,ax,cI,ay]|((first|apply bP|apply bR|apply bQ)<;>intro h<;>try simp at h))<;>(try exact cm));all_goals first|omega|skip
   rw[dd];refine c8.ob g2 (dG cP.2) aR aR (by simp[au]) ?_;rintro r s2 ⟨rfl,rfl⟩;refine⟨e6 _ _,?_⟩;simp[gW,iA,cz,ay];(with_reducible repeat' first|refine aj ?_|simp[hu,ax,cI,ay]);refine cV.at (S dt.2) (.inl rfl) (dG _) (e6 _ _) aR aR ?_;simp[c1,u7,aX,aY,aW]
 |var n=>intro a p hi he;have ag:=dG a;simp only[T.sizeO,gz]at he;obtain⟨cP,J,rfl⟩:=he;have ad:=Ci n a cP hi J;refine⟨ad.1,by simp only;split<;>omega,?_⟩;refine bU.mk mixed fK xz yv (by simp) ag.obj fun aO cL=>?_;unfold vA;simp[hu,ax,cI,ay,dd];(with_reducible repeat' first|refine aj ?_|simp[hu,ax,cI,ay]);refine c8.ob (aL n a cP hi J) ag aR aR (by simp[au]) ?_;rintro r ai ⟨rfl,rfl⟩;refine⟨e6 _ _,?_⟩;simp[gW,iA,cz,ay];refine cV.at (S cP.2) (.inl rfl) (dG _) (e6 _ _) aR aR ?_;simp[c1,u7,aX,aY,aW]
 |_=>intro a p hi he;have ag:=dG a;simp only[T.sizeO,dL]at he;subst he;refine⟨hi,by simp,?_⟩;refine bU.mk mixed fK xz yv (by simp) ag.obj fun aO cL=>?_;unfold vA;simp[hu,ax,cI,ay,dd];(with_reducible repeat' first|refine aj ?_|simp[hu,ax,cI,ay]);refine cV.at (S a) (.inl rfl) ag (Same.refl _) aR aR ?_;simp[c1,u7,aX,aY,aW]
end
end Go.Proofs.YtahlgcidhnjlbaaGreat
namespace Go.Pv
open Go Go.RowKit
section
variable {P:cE} {ob:List aI} {st:bs} {Q:Exit→bs→Prop} {c:C} {α:Type}
theorem dw(ch:List Nat)(cs:Nat→α→List (Nat×ah))(n:Nat)(gP:Nat→α→Prop)(a0:α)(hw:iG ob st (pH st ch (cs 0 a0)))(bn:gP 0 a0)(vR:∀a,gP n a→(∀i,ed (get i (pH st ch (cs n a)).t))→cZ P ob c (bK ob (y4 (fun i a=>pH st ch (cs i a)) n gP) 0 Q) (pH st ch (cs n a)))
  (hc:∀i a,i<n→gP i a→(∀j,ed (get j (pH st ch (cs i a)).t))→cZ P ob c (bK ob (y4 (fun i a=>pH st ch (cs i a)) n gP) (n-i) Q) (pH st ch (cs i a))):cZ P ob (.loop c) Q st:=
 ho (fun i a=>pH st ch (cs i a)) n gP a0 hw bn vR hc
theorem vF(ch:List Nat)(cs:α→List (Nat×ah))(mQ:α→Nat)(gP:α→Prop)(a0:α)(hw:iG ob st (pH st ch (cs a0)))(bn:gP a0)
  (hc:∀a,gP a→(∀j,ed (get j (pH st ch (cs a)).t))→cZ P ob c (bK ob (Bq (fun a=>pH st ch (cs a)) mQ gP) (mQ a) Q) (pH st ch (cs a))):cZ P ob (.loop c) Q st:=
 oz (fun a=>pH st ch (cs a)) mQ gP a0 hw bn hc
end
attribute [simp] ahJ
end Go.Pv
namespace Go.Proofs.YtahlgcidhnjlbaaGreat
open Go Go.Pv
theorem Lc{α β:Type}(k:aI):∀{l:List (aI×α)} {a1:List (aI×β)},l.map (·.1)=a1.map (·.1)→(Pv.look k l).isSome=(Pv.look k a1).isSome
 |[],[],_=>rfl
 |[],_::_,h=>by simp at h
 |_::_,[],h=>by simp at h
 |(i,x)::r,(j,y)::eF,h=>by
  simp only[gO,qs]at h;simp only[Pv.look];obtain⟨rfl,h⟩:=h;split
  ·rfl
  ·exact Lc k h
theorem _root_.Go.Pv.Same.keys{s ai:cK}(ad:s.b.map (·.1)=ai.b.map (·.1))(he:s.e.map (·.1)=ai.e.map (·.1)):Same s ai:=⟨fun k=>Lc k ad,fun k=>Lc k he⟩
section
variable {α:Type} (e:α→ah)
def rZ(l:List (Int×α)):List ah:=jL (l.map fun x=>(x.1,e x.2))
theorem Oa(k:Int):∀l:List (Int×α),xl k (l.map fun x=>(x.1,e x.2))=(c5 k l).map e
 |[]=>rfl
 |(i,v)::r=>by
  simp only[gO,xl,c5];split
  ·rfl
  ·exact Oa k r
theorem Oi(k:Int)(v:α):∀l:List (Int×α),pe k (e v) (l.map fun x=>(x.1,e x.2))=if(c5 k l).isSome then some ((eP k v l).map fun x=>(x.1,e x.2))else none
 |[]=>rfl
 |(i,w)::r=>by
  simp only[gO,pe,c5,eP];by_cases h:k=i
  ·subst h;simp
  ·simp only[h,if_false,Oi k v r];cases (c5 k r).isSome<;>simp
theorem Xw{k:Int}{v:α}:∀{l:List (Int×α)},c5 k l=none→eP k v l=l++[(k,v)]
 |[],_=>rfl
 |(i,w)::r,h=>by
  simp only[c5]at h;split at h
  ·cases h
  ·rename_i cF;simp[eP,cF,Xw h]
theorem Lw(k:Int)(v:α)(l:List (Int×α)):oO .i (.int .i64 k) (e v) (rZ e l)=some (rZ e (eP k v l)):=by
 simp only[rZ,UY,Ex,Oi];cases h:c5 k l with
 |some w=>simp
 |none=>simp[Xw h]
theorem Lr(f:aI→aZ (List ah))(m:aI)(l:List (Int×α))(z:ah)(ok:Bool)(k:Int)(hm:f m=some (rZ e l)):nY f .i z ok (.gmap m) (.int .i64 k)=some (True,if ok then .tuple [((c5 k l).map e).getD z,.bool (c5 k l).isSome]else((c5 k l).map e).getD z):=by rw[ahu f m _ z ok k hm,Oa];cases c5 k l<;>rfl
@[simp] theorem arN(l:List (Int×α)):hU (rZ e l)=false:=rfl
theorem K0(S:aI→Prop)(he:∀x,aB S (e x))(l:List (Int×α)):aH S (rZ e l):=by
 have:∀l:List (Int×α),aH S (ks (l.map fun x=>(x.1,e x.2))):=by
  intro l;induction l with
  |nil=>simp[ks,aH]
  |cons x r bO=>simp[ks,aH,bO,he]
 simp[rZ,jL,aH,this,aB]
end
def nt:List (Int×Int)→List ah:=rZ (ah.int .i64)
def qf:List (Int×Bool)→List ah:=rZ ah.bool
def tj:List (Int×T)→List ah:=rZ T.e
@[simp] theorem arK(l):hU (nt l)=false:=rfl
@[simp] theorem arI(l):hU (qf l)=false:=rfl
@[simp] theorem arM(l):hU (tj l)=false:=rfl
@[simp] theorem aqr(S:aI→Prop)(l):aH S (nt l)=True:=eq_true (K0 _ S (fun _=>by simp) l)
@[simp] theorem aqq(S:aI→Prop)(l):aH S (qf l)=True:=eq_true (K0 _ S (fun _=>by simp) l)
@[simp] theorem aqs(S:aI→Prop)(l):aH S (tj l)=True:=eq_true (K0 _ S (fun _=>by simp) l)
@[simp] theorem ary(k v:Int)(l):oO .i (.int .i64 k) (.int .i64 v) (nt l)=some (nt (eP k v l)):=Lw _ k v l
@[simp] theorem arx(k:Int)(v:Bool)(l):oO .i (.int .i64 k) (.bool v) (qf l)=some (qf (eP k v l)):=Lw _ k v l
@[simp] theorem arA(k:Int)(v:T)(l):oO .i (.int .i64 k) v.e (tj l)=some (tj (eP k v l)):=Lw _ k v l
def Db(ch:jA)(z:ah)(ok:Bool)(o:aZ (List ah))(k:ah):aZ (Prop×ah):=nY (fun _=>o) ch z ok (.gmap (.loc 0)) k
@[simp] theorem aru(f:aI→aZ (List ah))(ch:jA)(z:ah)(ok:Bool)(m:aI)(k:ah):nY f ch z ok (.gmap m) k=Db ch z ok (f m) k:=by simp only[Db,UO]
theorem ahw(f:aI→aZ (List ah))(m:aI)(l:List (Int×Int))(ok:Bool)(k:Int)(hm:f m=some (nt l)):nY f .i (.int .i64 0) ok (.gmap m) (.int .i64 k)=some (True,if ok then .tuple [.int .i64 (iV l k),.bool (c5 k l).isSome]else .int .i64 (iV l k)):=by rw[Lr _ f m l _ ok k hm];unfold iV;cases c5 k l<;>rfl
theorem ahv(f:aI→aZ (List ah))(m:aI)(l:List (Int×Bool))(ok:Bool)(k:Int)(hm:f m=some (qf l)):nY f .i (.bool false) ok (.gmap m) (.int .i64 k)=some (True,if ok then .tuple [.bool ((c5 k l).getD false),.bool (c5 k l).isSome]else .bool ((c5 k l).getD false)):=by rw[Lr _ f m l _ ok k hm];cases c5 k l<;>rfl
def Nc:ah:= .agg [.int .i64 0,.int .i64 0,.str [],.slice 4 .nil []]
def tC(o:aZ T):ah:=(o.map T.e).getD Nc
theorem ahx(f:aI→aZ (List ah))(m:aI)(l:List (Int×T))(ok:Bool)(k:Int)(hm:f m=some (tj l)):nY f .i (.agg [.int .i64 0,.int .i64 0,.str [],.slice 4 .nil []]) ok (.gmap m) (.int .i64 k)=some (True,if ok then .tuple [tC (c5 k l),.bool (c5 k l).isSome]else tC (c5 k l)):=by rw[Lr _ f m l _ ok k hm];rfl
@[simp] theorem ars(l:List (Int×Int))(ok:Bool)(k:Int):Db .i (.int .i64 0) ok (some (nt l)) (.int .i64 k)=some (True,if ok then .tuple [.int .i64 (iV l k),.bool (c5 k l).isSome]else .int .i64 (iV l k)):=ahw _ _ l ok k rfl
@[simp] theorem arq(l:List (Int×Bool))(ok:Bool)(k:Int):Db .i (.bool false) ok (some (qf l)) (.int .i64 k)=some (True,if ok then .tuple [.bool ((c5 k l).getD false),.bool (c5 k l).isSome]else .bool ((c5 k l).getD false)):=ahv _ _ l ok k rfl
@[simp] theorem art(l:List (Int×T))(ok:Bool)(k:Int):Db .i (.agg [.int .i64 0,.int .i64 0,.str [],.slice 4 .nil []]) ok (some (tj l)) (.int .i64 k)=some (True,if ok then .tuple [tC (c5 k l),.bool (c5 k l).isSome]else tC (c5 k l)):=ahx _ _ l ok k rfl
@[simp] theorem aty(o:aZ T):dm (tC o)=(o.getD .nil).e:=by cases o<;>simp[tC,Nc,dm,cR]
@[simp] theorem aq1(S:aI→Prop)(o:aZ T):aB S (tC o)=True:=by cases o<;>simp[tC,Nc,aB,aH]
@[simp] theorem arc:[ah.hdm 0 []]=jL []:=rfl
def aA:ah:= .eptr (.agg [.gmap (.obj 702),.gmap (.obj 703),.gmap (.obj 704),.gmap (.obj 705),.gmap (.obj 706),.gmap (.obj 707)])
def az(c:bu):List (aI×List ah):=[(.obj 702,nt c.up),(.obj 703,tj c.shape),(.obj 704,qf c.shaped),(.obj 705,nt c.color),(.obj 706,nt c.size),(.obj 707,tj c.full)]
def aN(c:bu):cK:=⟨az c,[]⟩
theorem cj(c:bu):eh (aN c):=by unfold aN az;exact eh.of ⟨by intro m;simp[Pv.look],by intro m;simp[Pv.look]⟩ (by simp) (by simp)
theorem Eo(c cu:bu):Same (aN c) (aN cu):=by
 refine⟨fun k=>?_,fun k=>rfl⟩;simp only[aN,az,Pv.look];repeat' split
 all_goals rfl
theorem rD(c:bu)(v r:Int)(cu:bu)(he:rt c v=some (r,cu)):bU ao 216 [aA,.int .i64 v] (aN c) fun eF ai=>eF= .int .i64 r∧ai=aN cu:=by
 have ag:=cj c;have fi:=cj cu;have e6:=Eo c cu;simp only[rt,gz,jy]at he;obtain⟨⟨dM,m1⟩,he,rfl,rfl⟩:=he;unfold aN az at ag fi e6⊢;simp only at fi e6⊢;unfold aA;refine bU.mk mixed jw abL aio (by simp) ag.obj fun aO cL=>?_;unfold O3;simp;(with_reducible repeat' first|((first|apply bP|apply bR|apply bQ)<;>intro h<;>try simp at h)|refine aj ?_|simp);all_goals
  refine oz (α:=Nat×Int×List (Int×Int)) (fun a=>⟨[(0,aA),(1,.int .i64 a.2.1)],[(.obj 702,nt a.2.2),(.obj 703,tj c.shape),(.obj 704,qf c.shaped),(.obj 705,nt c.color),(.obj 706,nt c.size),(.obj 707,tj c.full)],[],0,[.obj 702,.obj 703,.obj 704,.obj 705,.obj 706,.obj 707]⟩) (fun a=>a.1) (fun a=>wT a.1 a.2.2 a.2.1=some (dM,m1)) (v.toNat+1,v,y8 v c.up) (by simp[y8,h,aA];exact⟨by simp[fresh,aH,aB,b9,inObs,Pv.look,aA],dZ (by simp[fresh,aH,aB,b9,inObs,Pv.look,aA]),ea (by simp[fresh,aH,aB,dN,inObs,Pv.look,aA]),by simp⟩) he ?_
  rintro⟨n,u,m⟩ ae ad
  simp only at ae ad⊢
  cases n with
  |zero=>simp[wT]at ae
  |succ n=>
   simp only[wT]at ae
   simp[aA]
   (with_reducible repeat' first|((first|apply bP|apply bR|apply bQ)<;>intro h<;>try simp at h)|refine aj ?_|simp)
   ·rw[if_neg h]at ae
    refine bK.whl (n,iV (eP u (iV m (iV m u)) m) u,eP u (iV m (iV m u)) m) (Nat.lt_succ_self n) ae ?_
    simp[aA]
    exact⟨by simp[fresh,aH,aB,b9,inObs,Pv.look,aA],dZ (by simp[fresh,aH,aB,b9,inObs,Pv.look,aA]),ea (by simp[fresh,aH,aB,dN,inObs,Pv.look,aA]),by simp⟩
   ·rw[if_pos h]at ae
    cases ae
    refine cV.at _ (.inl rfl) fi e6 aR aR ?_
    simp[c1,VT,aX,aY,aW]
end Go.Proofs.YtahlgcidhnjlbaaGreat
namespace Go.Proofs.YtahlgcidhnjlbaaGreat
open Go Go.Pv
theorem ad1(c:bu)(v r:Int)(cu:bu)(he:rt c v=some (r,cu)):bU ao 245 [.int .i64 v,.eptr aA] (aN c) fun eF ai=>eF= .tuple []∧ai=aN cu:=by have ag:=cj c;simp only[aN,az]at ag⊢;refine bU.mk mixed jw abI ail (by simp) ag.obj fun aO cL=>?_;unfold O0;simp[aA];(refine c8.ob (rD c v r cu he) (by first|exact cj _|exact cj ‹_› _) (by simp only[aN,az,aA,bX,b2];exact aR) (by simp only[aN,az,aA,bX,b2];exact aR) (by simp[inObs,Pv.look,aN,az,aA]) ?_;rintro r ai ⟨rfl,rfl⟩;refine⟨(Same.keys (by simp[aN,az,aA]) (by simp[aN,az,aA])),?_⟩;simp[cz,aN,az,aA]);(refine cV.at (aN cu) (by simp) (by first|exact cj _|exact cj ‹_› _) (Same.keys (by simp[aN,az,aA]) (by simp[aN,az,aA])) (by simp only[aN,az,aA,bX,b2];exact aR) (by simp only[aN,az,aA,bX,b2];exact aR) ?_;simp[c1,VR,aX,aY,aW,inObs,Pv.look,aN,az,aA])
theorem JI(c:bu)(t:T)(cu:bu)(he:Ar t c=some cu):bU ao 217 [aA,t.e] (aN c) fun eF ai=>eF= .tuple []∧ai=aN cu:=by
 have ag:=cj c;have key:=JF aN cj Eo 245 [.eptr aA] (fun a=>by simp[aN,az,aA,inObs,Pv.look]) rfl (fun(v:Int) (c:bu)=>(rt c v).map Prod.snd) (fun v a bp h=>by rw[gz]at h;obtain⟨⟨r,bL⟩,J,rfl⟩:=h;exact ad1 a v r bL J) t c cu he
 simp only[aN,az]at ag⊢;refine bU.mk mixed jw abH aik (by simp) ag.obj fun aO cL=>?_;unfold OZ;simp[aA];(refine c8.ob (key) (by first|exact cj _|exact cj ‹_› _) (by simp only[aN,az,aA,bX,b2];exact aR) (by simp only[aN,az,aA,bX,b2];exact aR) (by simp[inObs,Pv.look,aN,az,aA]) ?_;rintro r ai ⟨rfl,rfl⟩;refine⟨(Same.keys (by simp[aN,az,aA]) (by simp[aN,az,aA])),?_⟩;simp[cz,aN,az,aA]);(refine cV.at (aN cu) (by simp) (by first|exact cj _|exact cj ‹_› _) (Same.keys (by simp[aN,az,aA]) (by simp[aN,az,aA])) (by simp only[aN,az,aA,bX,b2];exact aR) (by simp only[aN,az,aA,bX,b2];exact aR) ?_;simp[c1,VQ,aX,aY,aW,inObs,Pv.look,aN,az,aA])
def ez(K:Nat)(a:bu×List (Int×Bool)):cK:=⟨az a.1++[(.obj K,qf a.2)],[]⟩
def ga(K:Nat)(a:tQ):cK:=⟨az a.c++[(.obj K,qf a.seen),(.obj 712,[.bool a.found])],[]⟩
def yr(K:Nat):Prop:=K=715∨K=716
theorem h8{K:Nat}(c3:yr K)(a):eh (ez K a):=by unfold ez az;rcases c3 with rfl|rfl;all_goals exact eh.of ⟨by intro m;simp[Pv.look],by intro m;simp[Pv.look]⟩ (by simp) (by simp)
theorem pU{K:Nat}(c3:yr K)(a):eh (ga K a):=by unfold ga az;rcases c3 with rfl|rfl;all_goals exact eh.of ⟨by intro m;simp[Pv.look],by intro m;simp[Pv.look]⟩ (by simp) (by simp)
theorem H2{K:Nat}(a b):Same (ga K a) (ga K b):=by
 refine⟨fun k=>?_,fun k=>rfl⟩;simp only[ga,az,bX,b2,Pv.look];repeat' split
 all_goals rfl
theorem ad7{K:Nat}(c3:yr K)(n:Nat)(x:Int)(v8:∀t c seen a,pK n x t c seen=some a→bU ao 246 [aA,t.e,.int .i64 x,.gmap (.obj K)] (ez K (c,seen)) fun r ai=>r= .bool a.found∧ai=ez K (a.c,a.seen))
  (v:Int) (a bp:tQ) (he:wS (pK n x) x v a=some bp):bU ao 257 [.int .i64 v,.eptr aA,.ptr (.obj 712) 0,.eptr (.int .i64 x),.eptr (.gmap (.obj K))] (ga K a) fun r ai=>r= .tuple []∧ai=ga K bp:=by
 have ag:=pU c3 a;simp only[wS,mS]at he;obtain⟨⟨r,bL⟩,J,U⟩:=he;simp only at U;have ab:=c3;rcases ab with rfl|rfl;all_goals
  simp only[ga,az,bX,b2]at ag⊢
  refine bU.mk mixed jw abK ain (by simp) ag.obj fun aO cL=>?_;unfold O2
  simp[aA]
  (refine c8.ob (rD a.c v r bL J) (by first|exact cj _|exact cj ‹_› _) (by simp only[aN,az,aA,bX,b2];exact aR) (by simp only[aN,az,aA,bX,b2];exact aR) (by simp[inObs,Pv.look,aN,az,aA]) ?_;rintro r ai ⟨rfl,rfl⟩;refine⟨(Same.keys (by simp[aN,az,aA]) (by simp[aN,az,aA])),?_⟩;simp[cz,aN,az,aA])
  obtain⟨ac,wW,Ii⟩:=a
  cases Ii with
  |true=>
   simp at U;subst U
   (with_reducible repeat' first|refine aj ?_|simp)
   (refine cV.at (ga _ ⟨bL,wW,true⟩) (by simp) (by first|exact pU _|exact pU ‹_› _) (Same.keys (by simp[ga,az,aA]) (by simp[ga,az,aA])) (by simp only[ga,az,aA,bX,b2];exact aR) (by simp only[ga,az,aA,bX,b2];exact aR) ?_;simp[c1,AQ,aX,aY,aW,inObs,Pv.look,ga,az,aA])
  |false=>
   by_cases af:r=x
   ·simp[af]at U;subst U
    (with_reducible repeat' first|refine aj ?_|simp[af])
    (refine cV.at (ga _ ⟨bL,wW,true⟩) (by simp) (by first|exact pU _|exact pU ‹_› _) (Same.keys (by simp[ga,az,aA]) (by simp[ga,az,aA])) (by simp only[ga,az,aA,bX,b2];exact aR) (by simp only[ga,az,aA,bX,b2];exact aR) ?_;simp[c1,AQ,aX,aY,aW,inObs,Pv.look,ga,az,aA])
   ·have ih:(r==x)=false:=by simp[af]
    simp only[af,gX,or_self,if_false]at U
    cases z1:(c5 r wW).getD false with
    |true=>
     simp[z1]at U;subst U
     (with_reducible repeat' first|refine aj ?_|simp[ih,z1])
     (refine cV.at (ga _ ⟨bL,wW,false⟩) (by simp) (by first|exact pU _|exact pU ‹_› _) (Same.keys (by simp[ga,az,aA]) (by simp[ga,az,aA])) (by simp only[ga,az,aA,bX,b2];exact aR) (by simp only[ga,az,aA,bX,b2];exact aR) ?_;simp[c1,AQ,aX,aY,aW,inObs,Pv.look,ga,az,aA])
    |false=>
     cases gF:bL.shd r with
     |false=>
      have Kv:(c5 r bL.shaped).getD false=false:=gF
      simp[z1,gF]at U;subst U
      (with_reducible repeat' first|refine aj ?_|simp[ih,z1,Kv])
      (refine cV.at (ga _ ⟨bL,wW,false⟩) (by simp) (by first|exact pU _|exact pU ‹_› _) (Same.keys (by simp[ga,az,aA]) (by simp[ga,az,aA])) (by simp only[ga,az,aA,bX,b2];exact aR) (by simp only[ga,az,aA,bX,b2];exact aR) ?_;simp[c1,AQ,aX,aY,aW,inObs,Pv.look,ga,az,aA])
     |true=>
      have Kv:(c5 r bL.shaped).getD false=true:=gF
      simp[z1,gF]at U
      have aJ:=v8 _ _ _ _ U
      (with_reducible repeat' first|refine aj ?_|simp[ih,z1,Kv])
      (refine h6.ob (aJ) (by first|exact h8 _|exact h8 ‹_› _) (by first|exact h8 _|exact h8 ‹_› _) (Same.keys (by simp[ez,az,aA]) (by simp[ez,az,aA])) (by simp only[ez,az,aA,bX,b2];exact aR) (by simp only[ez,az,aA,bX,b2];exact aR) (by simp[inObs,Pv.look,ez,az,aA]) ?_;simp[cz,ez,az,aA])
      (with_reducible repeat' first|refine aj ?_|simp)
      (refine cV.at (ga _ bp) (by simp) (by first|exact pU _|exact pU ‹_› _) (Same.keys (by simp[ga,az,aA]) (by simp[ga,az,aA])) (by simp only[ga,az,aA,bX,b2];exact aR) (by simp only[ga,az,aA,bX,b2];exact aR) ?_;simp[c1,AQ,aX,aY,aW,inObs,Pv.look,ga,az,aA])
theorem Fj{K:Nat}(c3:yr K)(x:Int)(n:Nat):∀(t:T) (c:bu) (seen:List (Int×Bool)) (a:tQ),pK n x t c seen=some a→bU ao 246 [aA,t.e,.int .i64 x,.gmap (.obj K)] (ez K (c,seen)) fun r ai=>r= .bool a.found∧ai=ez K (a.c,a.seen):=by
 induction n with
 |zero=>intro t c seen a h;simp[pK]at h
 |succ n bO=>
  intro t c seen a h;simp only[pK]at h;have ag:=h8 c3 (c,seen);have key:=JF (ga K) (pU c3) H2 257 [.eptr aA,.ptr (.obj 712) 0,.eptr (.int .i64 x),.eptr (.gmap (.obj K))] (fun a=>by rcases c3 with rfl|rfl<;>simp[ga,az,aA,inObs,Pv.look]) rfl (wS (pK n x) x) (fun v a bp h=>ad7 c3 n x bO v a bp h) t ⟨c,seen,false⟩ a h;have ab:=c3;rcases ab with rfl|rfl;all_goals
   simp only[ez,az,bX,b2]at ag⊢
   refine bU.mk mixed jw abJ aim (by simp) ag.obj fun aO cL=>?_;unfold O1
   simp[aA]
   refine c8.new key (pU c3 _) (by simp only[ga,az,aA,bX,b2];exact aR) (by simp only[ga,az,aA,bX,b2];exact aR) (by simp[inObs,Pv.look,ga,az,aA]) ?_
   rintro r ai ⟨rfl,rfl⟩
   refine⟨fun m hm=>.inl ⟨?_,H2 _ _⟩,?_⟩
   ·exact((H2 _ _).inObs _).2 hm
   simp[cz,ga,az]
   (with_reducible repeat' first|refine aj ?_|simp)
   (refine cV.at (ez _ (a.c,a.seen)) (by simp) (by first|exact h8 _|exact h8 ‹_› _) (Same.keys (by simp[ez,az,aA]) (by simp[ez,az,aA])) (by simp only[ez,az,aA,bX,b2];exact aR) (by simp only[ez,az,aA,bX,b2];exact aR) ?_;simp[c1,VS,aX,aY,aW,inObs,Pv.look,ez,az,aA])
@[simp] theorem Le:qf []=jL []:=rfl
@[simp] theorem atC(t:T):tC (some t)=t.e:=rfl
@[simp] theorem atB:tC none= .agg [.int .i64 0,.int .i64 0,.str [],.slice 4 .nil []]:=rfl
theorem RZ(n:Nat)(x:Int)(t:T)(c:bu)(p:Bool×bu)(he:uS n x t c=some p):bU ao 247 [aA,.int .i64 x,t.e] (aN c) fun r ai=>r= .bool p.1∧ai=aN p.2:=by have ag:=cj c;simp only[uS,gz]at he;obtain⟨a,J,rfl⟩:=he;have c3:yr 715:= .inl rfl;have key:=Fj c3 x n t (c.know x t) [] a J;simp only[aN,az]at ag⊢;refine bU.mk mixed jw abG aij (by simp) ag.obj fun aO cL=>?_;unfold OY;simp[aA];(refine c8.ob (key) (by first|exact h8 _|exact h8 ‹_› _) (by simp only[ez,az,aA,bu.know,bX,b2];exact aR) (by simp only[ez,az,aA,bu.know,bX,b2];exact aR) (by simp[inObs,Pv.look,ez,az,aA,bu.know]) ?_;rintro r ai ⟨rfl,rfl⟩;refine⟨(Same.keys (by simp[ez,az,aA,bu.know]) (by simp[ez,az,aA,bu.know])),?_⟩;simp[cz,ez,az,aA,bu.know]);(refine cV.at (aN a.c) (by simp) (by first|exact cj _|exact cj ‹_› _) (Same.keys (by simp[aN,az,aA]) (by simp[aN,az,aA])) (by simp only[aN,az,aA,bX,b2];exact aR) (by simp only[aN,az,aA,bX,b2];exact aR) ?_;simp[c1,VP,aX,aY,aW,inObs,Pv.look,aN,az,aA])
set_option maxRecDepth 4000 in
theorem RX(n:Nat):∀(a b:T) (c:bu) (p:Bool×bu),gA n a b c=some p→bU ao 218 [aA,a.e,b.e] (aN c) fun r ai=>r= .bool p.1∧ai=aN p.2:=by
 induction n with
 |zero=>intro a b c p h;simp[gA]at h
 |succ n bO=>
  intro a b c p he;have ag:=cj c;have CO:∀i j,a= .var i→b= .var j→bU ao 218 [aA,a.e,b.e] (aN c) fun r ai=>r= .bool p.1∧ai=aN p.2:=by
   rintro i j rfl rfl;simp only[gA,mS]at he;obtain⟨⟨x,bL⟩,J,⟨y,cp⟩,U,ar⟩:=he;simp only at U ar;simp only[aN,az]at ag⊢;refine bU.mk mixed jw xy yu (by simp) ag.obj fun aO cL=>?_;unfold vz;simp[aA];(refine c8.ob (rD c i x bL J) (by first|exact cj _|exact cj ‹_› _) (by simp only[aN,az,aA,bX,b2];exact aR) (by simp only[aN,az,aA,bX,b2];exact aR) (by simp[inObs,Pv.look,aN,az,aA]) ?_;rintro r ai ⟨rfl,rfl⟩;refine⟨(Same.keys (by simp[aN,az,aA]) (by simp[aN,az,aA])),?_⟩;simp[cz,aN,az,aA]);(with_reducible repeat' first|refine aj ?_|simp);(refine c8.ob (rD bL j y cp U) (by first|exact cj _|exact cj ‹_› _) (by simp only[aN,az,aA,bX,b2];exact aR) (by simp only[aN,az,aA,bX,b2];exact aR) (by simp[inObs,Pv.look,aN,az,aA]) ?_;rintro r ai ⟨rfl,rfl⟩;refine⟨(Same.keys (by simp[aN,az,aA]) (by simp[aN,az,aA])),?_⟩;simp[cz,aN,az,aA]);by_cases hR:x=y
   ·rw[if_pos hR]at ar;cases ar;(with_reducible repeat' first|refine aj ?_|simp[hR]);(refine cV.at (aN cp) (by simp) (by first|exact cj _|exact cj ‹_› _) (Same.keys (by simp[aN,az,aA]) (by simp[aN,az,aA])) (by simp only[aN,az,aA,bX,b2];exact aR) (by simp only[aN,az,aA,bX,b2];exact aR) ?_;simp[c1,n1,aX,aY,aW,inObs,Pv.look,aN,az,aA])
   ·rw[if_neg hR]at ar;have Ad:(x==y)=false:=by simp[hR]
    have Si:yr 715:= .inl rfl;have aeD:yr 716:= .inr rfl;obtain⟨u,v,Aa,ba⟩:∃u v,((u=y∧v=x∧y<x)∨(u=x∧v=y∧¬y<x))∧ry (gA n) n u v (cp.join u v)=some p:=by
     by_cases bE:y<x
     ·rw[if_pos bE]at ar;exact⟨y,x,.inl ⟨rfl,rfl,bE⟩,ar⟩
     ·rw[if_neg bE]at ar;exact⟨x,y,.inr ⟨rfl,rfl,bE⟩,ar⟩
    clear ar;obtain⟨d,aQ⟩:∃d,d=cp.join u v:=⟨_,rfl⟩;have fp:d.up=eP v u cp.up:=by rw[aQ];rfl
    have eJ:d.shape=cp.shape:=by rw[aQ];rfl
    have gB:d.shaped=cp.shaped:=by rw[aQ];rfl
    have hz:d.color=cp.color:=by rw[aQ];rfl
    have hA:d.size=cp.size:=by rw[aQ];rfl
    have hB:d.full=cp.full:=by rw[aQ];rfl
    rw[←aQ]at ba;simp only[ry]at ba;cases aF:d.shd v with
    |false=>
     have l9:(c5 v cp.shaped).getD false=false:=by rw[←gB];exact aF
     rw[if_pos aF]at ba;cases hu:d.shd u with
     |false=>
      have uH:(c5 u cp.shaped).getD false=false:=by rw[←gB];exact hu
      rw[if_pos hu]at ba;cases ba;rcases Aa with⟨rfl,rfl,bE⟩|⟨rfl,rfl,bE⟩;all_goals
       (with_reducible repeat' first|refine aj ?_|simp[Ad,bE,l9,uH])
       (refine cV.at (aN d) (by simp) (by first|exact cj _|exact cj ‹_› _) (Same.keys (by simp[aN,az,aA,fp,eJ,gB,hz,hA,hB]) (by simp[aN,az,aA,fp,eJ,gB,hz,hA,hB])) (by simp only[aN,az,aA,fp,eJ,gB,hz,hA,hB,bX,b2];exact aR) (by simp only[aN,az,aA,fp,eJ,gB,hz,hA,hB,bX,b2];exact aR) ?_;simp[c1,n1,aX,aY,aW,inObs,Pv.look,aN,az,aA,fp,eJ,gB,hz,hA,hB])
     |true=>
      have uH:(c5 u cp.shaped).getD false=true:=by rw[←gB];exact hu
      rw[if_neg (by simp[hu]),gz]at ba;obtain⟨a,b4,rfl⟩:=ba;have key:=Fj Si u n _ _ _ _ b4;rw[show d.shp u=(c5 u cp.shape).getD .nil from by rw[←eJ];rfl]at key;rcases Aa with⟨rfl,rfl,bE⟩|⟨rfl,rfl,bE⟩;all_goals
       (with_reducible repeat' first|refine aj ?_|simp[Ad,bE,l9,uH])
       (refine c8.ob (key) (by first|exact h8 _|exact h8 ‹_› _) (by simp only[ez,az,aA,fp,eJ,gB,hz,hA,hB,bX,b2];exact aR) (by simp only[ez,az,aA,fp,eJ,gB,hz,hA,hB,bX,b2];exact aR) (by simp[inObs,Pv.look,ez,az,aA,fp,eJ,gB,hz,hA,hB]) ?_;rintro r ai ⟨rfl,rfl⟩;refine⟨(Same.keys (by simp[ez,az,aA,fp,eJ,gB,hz,hA,hB]) (by simp[ez,az,aA,fp,eJ,gB,hz,hA,hB])),?_⟩;simp[cz,ez,az,aA,fp,eJ,gB,hz,hA,hB])
       (with_reducible repeat' first|refine aj ?_|simp)
       (refine cV.at (aN a.c) (by simp) (by first|exact cj _|exact cj ‹_› _) (Same.keys (by simp[aN,az,aA]) (by simp[aN,az,aA])) (by simp only[aN,az,aA,bX,b2];exact aR) (by simp only[aN,az,aA,bX,b2];exact aR) ?_;simp[c1,n1,aX,aY,aW,inObs,Pv.look,aN,az,aA])
    |true=>
     have l9:(c5 v cp.shaped).getD false=true:=by rw[←gB];exact aF
     rw[if_neg (by simp[aF])]at ba;rw[show d.shp v=(c5 v cp.shape).getD .nil from by rw[←eJ];rfl]at ba;cases hu:d.shd u with
     |false=>
      have uH:(c5 u cp.shaped).getD false=false:=by rw[←gB];exact hu
      rw[if_pos hu]at ba;have key:=RZ n u _ d p ba;cases aK:c5 v cp.shape;all_goals
       rw[aK]at key
       simp only[ka,nI]at key
       rcases Aa with⟨rfl,rfl,bE⟩|⟨rfl,rfl,bE⟩
       all_goals
        (with_reducible repeat' first|refine aj ?_|simp[Ad,bE,l9,uH,aK])
        (refine c8.ob (key) (by first|exact cj _|exact cj ‹_› _) (by simp only[aN,az,aA,fp,eJ,gB,hz,hA,hB,bX,b2];exact aR) (by simp only[aN,az,aA,fp,eJ,gB,hz,hA,hB,bX,b2];exact aR) (by simp[inObs,Pv.look,aN,az,aA,fp,eJ,gB,hz,hA,hB]) ?_;rintro r ai ⟨rfl,rfl⟩;refine⟨(Same.keys (by simp[aN,az,aA,fp,eJ,gB,hz,hA,hB]) (by simp[aN,az,aA,fp,eJ,gB,hz,hA,hB])),?_⟩;simp[cz,aN,az,aA,fp,eJ,gB,hz,hA,hB])
        (with_reducible repeat' first|refine aj ?_|simp)
        (refine cV.at (aN p.2) (by simp) (by first|exact cj _|exact cj ‹_› _) (Same.keys (by simp[aN,az,aA]) (by simp[aN,az,aA])) (by simp only[aN,az,aA,bX,b2];exact aR) (by simp only[aN,az,aA,bX,b2];exact aR) ?_;simp[c1,n1,aX,aY,aW,inObs,Pv.look,aN,az,aA])
     |true=>
      have uH:(c5 u cp.shaped).getD false=true:=by rw[←gB];exact hu
      rw[if_neg (by simp[hu]),mS]at ba;obtain⟨a,b4,c9⟩:=ba;have key:=Fj Si u n _ _ _ _ b4;obtain⟨o,aK⟩:∃o,c5 v cp.shape=o:=⟨_,rfl⟩;rw[aK]at key c9;obtain⟨ac,wW,Ii⟩:=a;cases Ii with
      |true=>
       simp at c9;subst c9;cases o;all_goals
        simp only[ka,nI]at key
        rcases Aa with⟨rfl,rfl,bE⟩|⟨rfl,rfl,bE⟩
        all_goals
         (with_reducible repeat' first|refine aj ?_|simp[Ad,bE,l9,uH,aK])
         (refine h6.ob (key) (by first|exact h8 _|exact h8 ‹_› _) (by first|exact h8 _|exact h8 ‹_› _) (Same.keys (by simp[ez,az,aA,fp,eJ,gB,hz,hA,hB]) (by simp[ez,az,aA,fp,eJ,gB,hz,hA,hB])) (by simp only[ez,az,aA,fp,eJ,gB,hz,hA,hB,bX,b2];exact aR) (by simp only[ez,az,aA,fp,eJ,gB,hz,hA,hB,bX,b2];exact aR) (by simp[inObs,Pv.look,ez,az,aA,fp,eJ,gB,hz,hA,hB]) ?_;simp[cz,ez,az,aA,fp,eJ,gB,hz,hA,hB])
         (with_reducible repeat' first|refine aj ?_|simp)
         (refine cV.at (aN ac) (by simp) (by first|exact cj _|exact cj ‹_› _) (Same.keys (by simp[aN,az,aA]) (by simp[aN,az,aA])) (by simp only[aN,az,aA,bX,b2];exact aR) (by simp only[aN,az,aA,bX,b2];exact aR) ?_;simp[c1,n1,aX,aY,aW,inObs,Pv.look,aN,az,aA])
      |false=>
       simp only[gX,if_false,mS]at c9;obtain⟨b,ej,nQ⟩:=c9;have wu:=Fj aeD u n _ _ _ _ ej;rw[show ac.shp u=(c5 u ac.shape).getD .nil from rfl]at wu;obtain⟨Ip,aoF,Ze⟩:=b;cases Ze with
       |true=>
        simp at nQ;subst nQ;cases o;all_goals
         simp only[ka,nI]at key
         rcases Aa with⟨rfl,rfl,bE⟩|⟨rfl,rfl,bE⟩
         all_goals
          (with_reducible repeat' first|refine aj ?_|simp[Ad,bE,l9,uH,aK])
          (refine h6.ob (key) (by first|exact h8 _|exact h8 ‹_› _) (by first|exact h8 _|exact h8 ‹_› _) (Same.keys (by simp[ez,az,aA,fp,eJ,gB,hz,hA,hB]) (by simp[ez,az,aA,fp,eJ,gB,hz,hA,hB])) (by simp only[ez,az,aA,fp,eJ,gB,hz,hA,hB,bX,b2];exact aR) (by simp only[ez,az,aA,fp,eJ,gB,hz,hA,hB,bX,b2];exact aR) (by simp[inObs,Pv.look,ez,az,aA,fp,eJ,gB,hz,hA,hB]) ?_;simp[cz,ez,az,aA,fp,eJ,gB,hz,hA,hB])
          (with_reducible repeat' first|refine aj ?_|simp)
          (refine h6.ob (wu) (by first|exact h8 _|exact h8 ‹_› _) (by first|exact h8 _|exact h8 ‹_› _) (Same.keys (by simp[ez,az,aA]) (by simp[ez,az,aA])) (by simp only[ez,az,aA,bX,b2];exact aR) (by simp only[ez,az,aA,bX,b2];exact aR) (by simp[inObs,Pv.look,ez,az,aA]) ?_;simp[cz,ez,az,aA])
          (with_reducible repeat' first|refine aj ?_|simp)
          (refine cV.at (aN Ip) (by simp) (by first|exact cj _|exact cj ‹_› _) (Same.keys (by simp[aN,az,aA]) (by simp[aN,az,aA])) (by simp only[aN,az,aA,bX,b2];exact aR) (by simp only[aN,az,aA,bX,b2];exact aR) ?_;simp[c1,n1,aX,aY,aW,inObs,Pv.look,aN,az,aA])
       |false=>
        simp only[gX,if_false]at nQ;have KX:=bO _ _ _ _ nQ;rw[show Ip.shp u=(c5 u Ip.shape).getD .nil from rfl]at KX;cases o;all_goals
         simp only[ka,nI]at key KX
         rcases Aa with⟨rfl,rfl,bE⟩|⟨rfl,rfl,bE⟩
         all_goals
          (with_reducible repeat' first|refine aj ?_|simp[Ad,bE,l9,uH,aK])
          (refine h6.ob (key) (by first|exact h8 _|exact h8 ‹_› _) (by first|exact h8 _|exact h8 ‹_› _) (Same.keys (by simp[ez,az,aA,fp,eJ,gB,hz,hA,hB]) (by simp[ez,az,aA,fp,eJ,gB,hz,hA,hB])) (by simp only[ez,az,aA,fp,eJ,gB,hz,hA,hB,bX,b2];exact aR) (by simp only[ez,az,aA,fp,eJ,gB,hz,hA,hB,bX,b2];exact aR) (by simp[inObs,Pv.look,ez,az,aA,fp,eJ,gB,hz,hA,hB]) ?_;simp[cz,ez,az,aA,fp,eJ,gB,hz,hA,hB])
          (with_reducible repeat' first|refine aj ?_|simp)
          (refine h6.ob (wu) (by first|exact h8 _|exact h8 ‹_› _) (by first|exact h8 _|exact h8 ‹_› _) (Same.keys (by simp[ez,az,aA]) (by simp[ez,az,aA])) (by simp only[ez,az,aA,bX,b2];exact aR) (by simp only[ez,az,aA,bX,b2];exact aR) (by simp[inObs,Pv.look,ez,az,aA]) ?_;simp[cz,ez,az,aA])
          (with_reducible repeat' first|refine aj ?_|simp)
          (refine h6.ob (KX) (by first|exact cj _|exact cj ‹_› _) (by first|exact cj _|exact cj ‹_› _) (Same.keys (by simp[aN,az,aA]) (by simp[aN,az,aA])) (by simp only[aN,az,aA,bX,b2];exact aR) (by simp only[aN,az,aA,bX,b2];exact aR) (by simp[inObs,Pv.look,aN,az,aA]) ?_;simp[cz,aN,az,aA])
          (with_reducible repeat' first|refine aj ?_|simp)
          (refine cV.at (aN p.2) (by simp) (by first|exact cj _|exact cj ‹_› _) (Same.keys (by simp[aN,az,aA]) (by simp[aN,az,aA])) (by simp only[aN,az,aA,bX,b2];exact aR) (by simp only[aN,az,aA,bX,b2];exact aR) ?_;simp[c1,n1,aX,aY,aW,inObs,Pv.look,aN,az,aA])
  have aF:∀i,a= .var i→b.kind≠1→bU ao 218 [aA,a.e,b.e] (aN c) fun r ai=>r= .bool p.1∧ai=aN p.2:=by
   rintro i rfl ad;have vQ:((rt c i).bind fun p=>if p.2.shd p.1=false then uS n p.1 b p.2 else gA n (p.2.shp p.1) b p.2)=some p:=by cases b<;>first|exact he|simp at ad
   simp only[mS]at vQ;obtain⟨⟨x,bL⟩,J,U⟩:=vQ;simp only at U;have fV:(b.kind==1)=false:=by simp[ad]
   simp only[aN,az]at ag⊢;refine bU.mk mixed jw xy yu (by simp) ag.obj fun aO cL=>?_;unfold vz;simp[aA];(with_reducible repeat' first|refine aj ?_|simp[fV,ad]);(refine c8.ob (rD c i x bL J) (by first|exact cj _|exact cj ‹_› _) (by simp only[aN,az,aA,bX,b2];exact aR) (by simp only[aN,az,aA,bX,b2];exact aR) (by simp[inObs,Pv.look,aN,az,aA]) ?_;rintro r ai ⟨rfl,rfl⟩;refine⟨(Same.keys (by simp[aN,az,aA]) (by simp[aN,az,aA])),?_⟩;simp[cz,aN,az,aA]);cases af:bL.shd x with
   |false=>have ih:(c5 x bL.shaped).getD false=false:=af;rw[if_pos af]at U;(with_reducible repeat' first|refine aj ?_|simp[ih]);(refine c8.ob (RZ n x b bL p U) (by first|exact cj _|exact cj ‹_› _) (by simp only[aN,az,aA,bX,b2];exact aR) (by simp only[aN,az,aA,bX,b2];exact aR) (by simp[inObs,Pv.look,aN,az,aA]) ?_;rintro r ai ⟨rfl,rfl⟩;refine⟨(Same.keys (by simp[aN,az,aA]) (by simp[aN,az,aA])),?_⟩;simp[cz,aN,az,aA]);(refine cV.at (aN p.2) (by simp) (by first|exact cj _|exact cj ‹_› _) (Same.keys (by simp[aN,az,aA]) (by simp[aN,az,aA])) (by simp only[aN,az,aA,bX,b2];exact aR) (by simp only[aN,az,aA,bX,b2];exact aR) ?_;simp[c1,n1,aX,aY,aW,inObs,Pv.look,aN,az,aA])
   |true=>have ih:(c5 x bL.shaped).getD false=true:=af;rw[if_neg (by simp[af])]at U;have key:=bO _ _ _ _ U;(with_reducible repeat' first|refine aj ?_|simp[ih]);(refine h6.ob (key) (by first|exact cj _|exact cj ‹_› _) (by first|exact cj _|exact cj ‹_› _) (Same.keys (by simp[aN,az,aA]) (by simp[aN,az,aA])) (by simp only[aN,az,aA,bX,b2];exact aR) (by simp only[aN,az,aA,bX,b2];exact aR) (by simp[inObs,Pv.look,aN,az,aA]) ?_;simp[cz,aN,az,aA]);(with_reducible repeat' first|refine aj ?_|simp);(refine cV.at (aN p.2) (by simp) (by first|exact cj _|exact cj ‹_› _) (Same.keys (by simp[aN,az,aA]) (by simp[aN,az,aA])) (by simp only[aN,az,aA,bX,b2];exact aR) (by simp only[aN,az,aA,bX,b2];exact aR) ?_;simp[c1,n1,aX,aY,aW,inObs,Pv.look,aN,az,aA])
  cases a with
  |var i=>
   cases b with
   |var j=>exact CO i j rfl rfl
   |_=>exact aF i rfl (by simp)
  |pair bD a2=>
   cases b with
   |var j=>simp only[gA]at he;have key:=bO _ _ _ _ he;simp only[aN,az]at ag⊢;refine bU.mk mixed jw xy yu (by simp) ag.obj fun aO cL=>?_;unfold vz;simp[aA];(refine c8.ob (key) (by first|exact cj _|exact cj ‹_› _) (by simp only[aN,az,aA,bX,b2];exact aR) (by simp only[aN,az,aA,bX,b2];exact aR) (by simp[inObs,Pv.look,aN,az,aA]) ?_;rintro r ai ⟨rfl,rfl⟩;refine⟨(Same.keys (by simp[aN,az,aA]) (by simp[aN,az,aA])),?_⟩;simp[cz,aN,az,aA]);(refine cV.at (aN p.2) (by simp) (by first|exact cj _|exact cj ‹_› _) (Same.keys (by simp[aN,az,aA]) (by simp[aN,az,aA])) (by simp only[aN,az,aA,bX,b2];exact aR) (by simp only[aN,az,aA,bX,b2];exact aR) ?_;simp[c1,n1,aX,aY,aW,inObs,Pv.look,aN,az,aA])
   |pair cl b8=>
    simp only[gA,mS]at he;obtain⟨⟨f1,bL⟩,J,U⟩:=he;have key:=bO _ _ _ _ J;simp only[aN,az]at ag⊢;refine bU.mk mixed jw xy yu (by simp) ag.obj fun aO cL=>?_;unfold vz;simp[aA];(with_reducible repeat' first|refine aj ?_|simp);(refine h6.ob (key) (by first|exact cj _|exact cj ‹_› _) (by first|exact cj _|exact cj ‹_› _) (Same.keys (by simp[aN,az,aA]) (by simp[aN,az,aA])) (by simp only[aN,az,aA,bX,b2];exact aR) (by simp only[aN,az,aA,bX,b2];exact aR) (by simp[inObs,Pv.look,aN,az,aA]) ?_;simp[cz,aN,az,aA]);cases f1 with
    |false=>simp at U;subst U;(with_reducible repeat' first|refine aj ?_|simp);(refine cV.at (aN bL) (by simp) (by first|exact cj _|exact cj ‹_› _) (Same.keys (by simp[aN,az,aA]) (by simp[aN,az,aA])) (by simp only[aN,az,aA,bX,b2];exact aR) (by simp only[aN,az,aA,bX,b2];exact aR) ?_;simp[c1,n1,aX,aY,aW,inObs,Pv.look,aN,az,aA])
    |true=>simp at U;have wu:=bO _ _ _ _ U;(with_reducible repeat' first|refine aj ?_|simp);(refine h6.ob (wu) (by first|exact cj _|exact cj ‹_› _) (by first|exact cj _|exact cj ‹_› _) (Same.keys (by simp[aN,az,aA]) (by simp[aN,az,aA])) (by simp only[aN,az,aA,bX,b2];exact aR) (by simp only[aN,az,aA,bX,b2];exact aR) (by simp[inObs,Pv.look,aN,az,aA]) ?_;simp[cz,aN,az,aA]);(with_reducible repeat' first|refine aj ?_|simp);(refine cV.at (aN p.2) (by simp) (by first|exact cj _|exact cj ‹_› _) (Same.keys (by simp[aN,az,aA]) (by simp[aN,az,aA])) (by simp only[aN,az,aA,bX,b2];exact aR) (by simp only[aN,az,aA,bX,b2];exact aR) ?_;simp[c1,n1,aX,aY,aW,inObs,Pv.look,aN,az,aA])
   |_=>simp[gA]at he;subst he;simp only[aN,az]at ag⊢;refine bU.mk mixed jw xy yu (by simp) ag.obj fun aO cL=>?_;unfold vz;simp[aA];(refine cV.at (aN c) (by simp) (by first|exact cj _|exact cj ‹_› _) (Same.keys (by simp[aN,az,aA]) (by simp[aN,az,aA])) (by simp only[aN,az,aA,bX,b2];exact aR) (by simp only[aN,az,aA,bX,b2];exact aR) ?_;simp[c1,n1,aX,aY,aW,inObs,Pv.look,aN,az,aA])
  |_=>
   cases b with
   |var j=>simp only[gA]at he;have key:=bO _ _ _ _ he;simp only[aN,az]at ag⊢;refine bU.mk mixed jw xy yu (by simp) ag.obj fun aO cL=>?_;unfold vz;simp[aA];(refine c8.ob (key) (by first|exact cj _|exact cj ‹_› _) (by simp only[aN,az,aA,bX,b2];exact aR) (by simp only[aN,az,aA,bX,b2];exact aR) (by simp[inObs,Pv.look,aN,az,aA]) ?_;rintro r ai ⟨rfl,rfl⟩;refine⟨(Same.keys (by simp[aN,az,aA]) (by simp[aN,az,aA])),?_⟩;simp[cz,aN,az,aA]);(refine cV.at (aN p.2) (by simp) (by first|exact cj _|exact cj ‹_› _) (Same.keys (by simp[aN,az,aA]) (by simp[aN,az,aA])) (by simp only[aN,az,aA,bX,b2];exact aR) (by simp only[aN,az,aA,bX,b2];exact aR) ?_;simp[c1,n1,aX,aY,aW,inObs,Pv.look,aN,az,aA])
   |_=>
    simp[gA]at he;subst he;simp only[aN,az]at ag⊢;refine bU.mk mixed jw xy yu (by simp) ag.obj fun aO cL=>?_;unfold vz;simp[aA];((with_reducible repeat' first|refine aj ?_|simp|((first|apply bP|apply bR|apply bQ)<;>intro h<;>try simp at h))<;>(try exact cm));all_goals(refine cV.at (aN c) (by simp) (by first|exact cj _|exact cj ‹_› _) (Same.keys (by simp[aN,az,aA]) (by simp[aN,az,aA])) (by simp only[aN,az,aA,bX,b2];exact aR) (by simp only[aN,az,aA,bX,b2];exact aR) ?_;simp[c1,n1,aX,aY,aW,inObs,Pv.look,aN,az,aA])
    all_goals simp_all
def mn(c:bu):Prop:= ∀x,0≤c.sz x∧c.sz x≤5001
theorem mn.rt{c:bu}(h:mn c){v r:Int}{cu:bu}(he:rt c v=some (r,cu)):mn cu:=by simp only[Pv.rt,gz,jy]at he;obtain⟨p,_,_,rfl⟩:=he;exact h
theorem mn.put{c:bu}(h:mn c){x k:Int}(ab:0≤k∧k≤5001)(m:List (Int×Int)):mn {c with size:=eP x k c.size,color:=m}:=fun z=>by
 show 0≤(c5 z (eP x k c.size)).getD 0∧(c5 z (eP x k c.size)).getD 0≤5001;rw[nB];split
 ·exact ab
 ·exact h z
theorem aeo(c:bu)(v:Int)(p:Int×bu)(he:yM v c=some p):bU ao 259 [.int .i64 v,.eptr aA] (aN c) fun r ai=>r= .int .i64 p.1∧ai=aN p.2:=by have ag:=cj c;simp only[yM,gz]at he;obtain⟨⟨r,bL⟩,J,rfl⟩:=he;simp only[aN,az]at ag⊢;refine bU.mk mixed jw abO air (by simp) ag.obj fun aO cL=>?_;unfold O6;simp[aA];(refine h6.ob (rD c v r bL J) (by first|exact cj _|exact cj ‹_› _) (by first|exact cj _|exact cj ‹_› _) (Same.keys (by simp[aN,az,aA]) (by simp[aN,az,aA])) (by simp only[aN,az,aA,bX,b2];exact aR) (by simp only[aN,az,aA,bX,b2];exact aR) (by simp[inObs,Pv.look,aN,az,aA]) ?_;simp[cz,aN,az,aA]);(with_reducible repeat' first|refine aj ?_|simp);(refine cV.at (aN bL) (by simp) (by first|exact cj _|exact cj ‹_› _) (Same.keys (by simp[aN,az,aA]) (by simp[aN,az,aA])) (by simp only[aN,az,aA,bX,b2];exact aR) (by simp only[aN,az,aA,bX,b2];exact aR) ?_;simp[c1,VV,aX,aY,aW,inObs,Pv.look,aN,az,aA]);all_goals rfl
def gq(a:bu×Bool):cK:=⟨az a.1++[(.obj 712,[.bool a.2])],[]⟩
theorem qA(a):eh (gq a):=by unfold gq az;exact eh.of ⟨by intro m;simp[Pv.look],by intro m;simp[Pv.look]⟩ (by simp) (by simp)
theorem YL(a b):Same (gq a) (gq b):=Same.keys (by simp[gq,az]) (by simp[gq,az])
theorem aen(n:Nat)(v8:∀x c p,qo n x c=some p→mn c→mn p.2∧bU ao 248 [aA,.int .i64 x] (aN c) fun r ai=>r= .bool p.1∧ai=aN p.2)
  (v:Int) (a bp:bu×Bool) (br:mn a.1) (he:yY (qo n) v a=some bp):mn bp.1∧bU ao 258 [.int .i64 v,.ptr (.obj 712) 0,.eptr aA] (gq a) fun r ai=>r= .tuple []∧ai=gq bp:=by
 have ag:=qA a;obtain⟨c,f⟩:=a;cases f with
 |false=>simp[yY]at he;subst he;refine⟨br,?_⟩;simp only[gq,az,bX,b2]at ag⊢;refine bU.mk mixed jw Rt Va (by simp) ag.obj fun aO cL=>?_;unfold IA;simp[aA];(with_reducible repeat' first|refine aj ?_|simp);(refine cV.at (gq (c,false)) (by simp) (by first|exact qA _|exact qA ‹_› _) (Same.keys (by simp[gq,az,aA]) (by simp[gq,az,aA])) (by simp only[gq,az,aA,bX,b2];exact aR) (by simp only[gq,az,aA,bX,b2];exact aR) ?_;simp[c1,GY,aX,aY,aW,inObs,Pv.look,gq,az,aA])
 |true=>
  simp only[yY,if_true,mS,gz]at he;obtain⟨⟨r,bL⟩,J,⟨f2,cp⟩,U,rfl⟩:=he;obtain⟨z2,key⟩:=v8 _ _ _ U (br.rt J);refine⟨z2,?_⟩;simp only[gq,az,bX,b2]at ag⊢;refine bU.mk mixed jw Rt Va (by simp) ag.obj fun aO cL=>?_;unfold IA;simp[aA];(with_reducible repeat' first|refine aj ?_|simp);(refine h6.ob (rD c v r bL J) (by first|exact cj _|exact cj ‹_› _) (by first|exact cj _|exact cj ‹_› _) (Same.keys (by simp[aN,az,aA]) (by simp[aN,az,aA])) (by simp only[aN,az,aA,bX,b2];exact aR) (by simp only[aN,az,aA,bX,b2];exact aR) (by simp[inObs,Pv.look,aN,az,aA]) ?_;simp[cz,aN,az,aA]);(with_reducible repeat' first|refine aj ?_|simp);(refine h6.ob (key) (by first|exact cj _|exact cj ‹_› _) (by first|exact cj _|exact cj ‹_› _) (Same.keys (by simp[aN,az,aA]) (by simp[aN,az,aA])) (by simp only[aN,az,aA,bX,b2];exact aR) (by simp only[aN,az,aA,bX,b2];exact aR) (by simp[inObs,Pv.look,aN,az,aA]) ?_;simp[cz,aN,az,aA]);cases f2 with
  |true=>(with_reducible repeat' first|refine aj ?_|simp);(refine cV.at (gq (cp,true)) (by simp) (by first|exact qA _|exact qA ‹_› _) (Same.keys (by simp[gq,az,aA]) (by simp[gq,az,aA])) (by simp only[gq,az,aA,bX,b2];exact aR) (by simp only[gq,az,aA,bX,b2];exact aR) ?_;simp[c1,GY,aX,aY,aW,inObs,Pv.look,gq,az,aA])
  |false=>(with_reducible repeat' first|refine aj ?_|simp);(refine cV.at (gq (cp,false)) (by simp) (by first|exact qA _|exact qA ‹_› _) (Same.keys (by simp[gq,az,aA]) (by simp[gq,az,aA])) (by simp only[gq,az,aA,bX,b2];exact aR) (by simp only[gq,az,aA,bX,b2];exact aR) ?_;simp[c1,GY,aX,aY,aW,inObs,Pv.look,gq,az,aA])
theorem aem(n:Nat):∀(x:Int) (c:bu) (p:Bool×bu),qo n x c=some p→mn c→mn p.2∧bU ao 248 [aA,.int .i64 x] (aN c) fun r ai=>r= .bool p.1∧ai=aN p.2:=by
 induction n with
 |zero=>intro x c p h;simp[qo]at h
 |succ n bO=>
  intro x c p he br;have ag:=cj c;simp only[qo]at he;by_cases U:c.col x=2
  ·rw[if_pos U]at he;cases he;have B6:iV c.color x=2:=U;refine⟨br,?_⟩;simp only[aN,az]at ag⊢;refine bU.mk mixed jw BP Dl (by simp) ag.obj fun aO cL=>?_;unfold zf;simp[aA];(with_reducible repeat' first|refine aj ?_|simp[B6]);(refine cV.at (aN c) (by simp) (by first|exact cj _|exact cj ‹_› _) (Same.keys (by simp[aN,az,aA]) (by simp[aN,az,aA])) (by simp only[aN,az,aA,bX,b2];exact aR) (by simp only[aN,az,aA,bX,b2];exact aR) ?_;simp[c1,AR,aX,aY,aW,inObs,Pv.look,aN,az,aA])
  rw[if_neg U]at he;have B6:(iV c.color x==2)=false:=by simp;exact U
  by_cases J:c.col x=1
  ·rw[if_pos J]at he;cases he;have nP:iV c.color x=1:=J;refine⟨br,?_⟩;simp only[aN,az]at ag⊢;refine bU.mk mixed jw BP Dl (by simp) ag.obj fun aO cL=>?_;unfold zf;simp[aA];(with_reducible repeat' first|refine aj ?_|simp[nP]);(refine cV.at (aN c) (by simp) (by first|exact cj _|exact cj ‹_› _) (Same.keys (by simp[aN,az,aA]) (by simp[aN,az,aA])) (by simp only[aN,az,aA,bX,b2];exact aR) (by simp only[aN,az,aA,bX,b2];exact aR) ?_;simp[c1,AR,aX,aY,aW,inObs,Pv.look,aN,az,aA])
  rw[if_neg J]at he;have nP:(iV c.color x==1)=false:=by simp;exact J
  have Tp:mn (c.grey x):=br.put (by omega) _;cases jW:(c.grey x).shd x with
  |false=>rw[if_pos jW]at he;cases he;have s6:(c5 x c.shaped).getD false=false:=jW;refine⟨Tp,?_⟩;simp only[aN,az]at ag⊢;refine bU.mk mixed jw BP Dl (by simp) ag.obj fun aO cL=>?_;unfold zf;simp[aA];(with_reducible repeat' first|refine aj ?_|simp[B6,nP,s6]);(refine cV.at (aN ((c.grey x).black x)) (by simp) (by first|exact cj _|exact cj ‹_› _) (Same.keys (by simp[aN,az,aA,bu.grey,bu.black]) (by simp[aN,az,aA,bu.grey,bu.black])) (by simp only[aN,az,aA,bu.grey,bu.black,bX,b2];exact aR) (by simp only[aN,az,aA,bu.grey,bu.black,bX,b2];exact aR) ?_;simp[c1,AR,aX,aY,aW,inObs,Pv.look,aN,az,aA,bu.grey,bu.black])
  |true=>
   rw[if_neg (by simp[jW]),mS]at he;have s6:(c5 x c.shaped).getD false=true:=jW;obtain⟨⟨e,f⟩,ar,ba⟩:=he;simp only at ba;obtain⟨Yr,key⟩:=RW gq qA YL 258 [.ptr (.obj 712) 0,.eptr aA] (fun a=>by simp[gq,az,aA,inObs,Pv.look]) rfl (fun a=>mn a.1) (yY (qo n)) (fun v a bp br h=>aen n bO v a bp br h) _ _ _ Tp ar;rw[show(c.grey x).shp x=(c5 x c.shape).getD .nil from rfl]at key;cases f with
   |false=>simp at ba;subst ba;refine⟨Yr,?_⟩;simp only[aN,az]at ag⊢;refine bU.mk mixed jw BP Dl (by simp) ag.obj fun aO cL=>?_;unfold zf;simp[aA];(with_reducible repeat' first|refine aj ?_|simp[B6,nP,s6]);(refine c8.ob (key) (by first|exact qA _|exact qA ‹_› _) (by simp only[gq,az,aA,bu.grey,bX,b2];exact aR) (by simp only[gq,az,aA,bu.grey,bX,b2];exact aR) (by simp[inObs,Pv.look,gq,az,aA,bu.grey]) ?_;rintro r ai ⟨rfl,rfl⟩;refine⟨(Same.keys (by simp[gq,az,aA,bu.grey]) (by simp[gq,az,aA,bu.grey])),?_⟩;simp[cz,gq,az,aA,bu.grey]);(with_reducible repeat' first|refine aj ?_|simp);(refine cV.at (aN e) (by simp) (by first|exact cj _|exact cj ‹_› _) (Same.keys (by simp[aN,az,aA]) (by simp[aN,az,aA])) (by simp only[aN,az,aA,bX,b2];exact aR) (by simp only[aN,az,aA,bX,b2];exact aR) ?_;simp[c1,AR,aX,aY,aW,inObs,Pv.look,aN,az,aA])
   |true=>
    rw[if_neg (by simp),gz]at ba;obtain⟨⟨k,aE⟩,b4,rfl⟩:=ba;obtain⟨z2,b8,wu⟩:=aed aN cj Eo 259 [.eptr aA] (fun a=>by simp[aN,az,aA,inObs,Pv.look]) rfl mn yM (fun v a p br h=>by simp only[yM,gz]at h;obtain⟨⟨r,bL⟩,J,rfl⟩:=h;exact⟨br.rt J,(br.rt J r).1,Int.le_trans (br.rt J r).2 (by omega)⟩) (fun v a p _ h=>aeo a v p h) _ _ _ Yr b4
    rw[show bu.shp e x=(c5 x e.shape).getD .nil from rfl]at wu;refine⟨z2.put b8 _,?_⟩;simp only[aN,az]at ag⊢;refine bU.mk mixed jw BP Dl (by simp) ag.obj fun aO cL=>?_;unfold zf;simp[aA];(with_reducible repeat' first|refine aj ?_|simp[B6,nP,s6]);(refine c8.ob (key) (by first|exact qA _|exact qA ‹_› _) (by simp only[gq,az,aA,bu.grey,bX,b2];exact aR) (by simp only[gq,az,aA,bu.grey,bX,b2];exact aR) (by simp[inObs,Pv.look,gq,az,aA,bu.grey]) ?_;rintro r ai ⟨rfl,rfl⟩;refine⟨(Same.keys (by simp[gq,az,aA,bu.grey]) (by simp[gq,az,aA,bu.grey])),?_⟩;simp[cz,gq,az,aA,bu.grey]);(with_reducible repeat' first|refine aj ?_|simp);(refine h6.ob (wu) (by first|exact cj _|exact cj ‹_› _) (by first|exact cj _|exact cj ‹_› _) (Same.keys (by simp[aN,az,aA]) (by simp[aN,az,aA])) (by simp only[aN,az,aA,bX,b2];exact aR) (by simp only[aN,az,aA,bX,b2];exact aR) (by simp[inObs,Pv.look,aN,az,aA]) ?_;simp[cz,aN,az,aA]);(with_reducible repeat' first|refine aj ?_|simp);(refine cV.at (aN (({aE with size:=eP x k aE.size}:bu).black x)) (by simp) (by first|exact cj _|exact cj ‹_› _) (Same.keys (by simp[aN,az,aA,bu.black]) (by simp[aN,az,aA,bu.black])) (by simp only[aN,az,aA,bu.black,bX,b2];exact aR) (by simp only[aN,az,aA,bu.black,bX,b2];exact aR) ?_;simp[c1,AR,aX,aY,aW,inObs,Pv.look,aN,az,aA,bu.black])
theorem ael(n:Nat)(v8:∀x c p,qn n x c=some p→bU ao 249 [aA,.int .i64 x] (aN c) fun r ai=>r=p.1.e∧ai=aN p.2)
  (v:Int) (c:bu) (p:T×bu) (he:Bm (qn n) v c=some p):bU ao 260 [.int .i64 v,.eptr aA] (aN c) fun r ai=>r= .tuple [p.1.e,.bool true]∧ai=aN p.2:=by
 have ag:=cj c;simp only[Bm,mS]at he;obtain⟨⟨r,bL⟩,J,U⟩:=he;have key:=v8 _ _ _ U;simp only[aN,az]at ag⊢;refine bU.mk mixed jw abN aiq (by simp) ag.obj fun aO cL=>?_;unfold O5;simp[aA];(with_reducible repeat' first|refine aj ?_|simp);(refine h6.ob (rD c v r bL J) (by first|exact cj _|exact cj ‹_› _) (by first|exact cj _|exact cj ‹_› _) (Same.keys (by simp[aN,az,aA]) (by simp[aN,az,aA])) (by simp only[aN,az,aA,bX,b2];exact aR) (by simp only[aN,az,aA,bX,b2];exact aR) (by simp[inObs,Pv.look,aN,az,aA]) ?_;simp[cz,aN,az,aA]);(with_reducible repeat' first|refine aj ?_|simp);(refine h6.ob (key) (by first|exact cj _|exact cj ‹_› _) (by first|exact cj _|exact cj ‹_› _) (Same.keys (by simp[aN,az,aA]) (by simp[aN,az,aA])) (by simp only[aN,az,aA,bX,b2];exact aR) (by simp only[aN,az,aA,bX,b2];exact aR) (by simp[inObs,Pv.look,aN,az,aA]) ?_;simp[cz,aN,az,aA]);(with_reducible repeat' first|refine aj ?_|simp);(refine cV.at (aN p.2) (by simp) (by first|exact cj _|exact cj ‹_› _) (Same.keys (by simp[aN,az,aA]) (by simp[aN,az,aA])) (by simp only[aN,az,aA,bX,b2];exact aR) (by simp only[aN,az,aA,bX,b2];exact aR) ?_;simp[c1,VU,aX,aY,aW,inObs,Pv.look,aN,az,aA])
theorem jl(n:Int):bH ao 116 [.int .i64 n] (T.var n).e:=by refine bh jw aca aiN fun aO=>?_;unfold Pt;exact bY
theorem aek(n:Nat):∀(x:Int) (c:bu) (p:T×bu),qn n x c=some p→bU ao 249 [aA,.int .i64 x] (aN c) fun r ai=>r=p.1.e∧ai=aN p.2:=by
 induction n with
 |zero=>intro x c p h;simp[qn]at h
 |succ n bO=>
  intro x c p he;have ag:=cj c;simp only[qn]at he;cases aL:c5 x c.full with
  |some t=>rw[aL]at he;cases he;simp only[aN,az]at ag⊢;refine bU.mk mixed jw Jj LI (by simp) ag.obj fun aO cL=>?_;unfold EF;simp[aA];(with_reducible repeat' first|refine aj ?_|simp[aL]);(refine cV.at (aN c) (by simp) (by first|exact cj _|exact cj ‹_› _) (Same.keys (by simp[aN,az,aA]) (by simp[aN,az,aA])) (by simp only[aN,az,aA,bX,b2];exact aR) (by simp only[aN,az,aA,bX,b2];exact aR) ?_;simp[c1,GX,aX,aY,aW,inObs,Pv.look,aN,az,aA])
  |none=>
   rw[aL]at he;simp only at he;cases jW:c.shd x with
   |false=>have s6:(c5 x c.shaped).getD false=false:=jW;rw[if_pos jW]at he;cases he;simp only[aN,az]at ag⊢;refine bU.mk mixed jw Jj LI (by simp) ag.obj fun aO cL=>?_;unfold EF;simp[aA];(with_reducible repeat' first|refine aj ?_|refine aC (jl _) ?_|refine aD (jl _) ?_|simp[aL,s6]);(refine cV.at (aN {c with full:=eP x (.var x) c.full}) (by simp) (by first|exact cj _|exact cj ‹_› _) (Same.keys (by simp[aN,az,aA]) (by simp[aN,az,aA])) (by simp only[aN,az,aA,bX,b2];exact aR) (by simp only[aN,az,aA,bX,b2];exact aR) ?_;simp[c1,GX,aX,aY,aW,inObs,Pv.look,aN,az,aA])
   |true=>have s6:(c5 x c.shaped).getD false=true:=jW;rw[if_neg (by simp[jW]),gz]at he;obtain⟨⟨t,bL⟩,J,rfl⟩:=he;have key:=ad0 aN cj Eo 260 [.eptr aA] (fun a=>by simp[aN,az,aA,inObs,Pv.look]) rfl (Bm (qn n)) (fun v a p h=>ael n bO v a p h) _ _ _ J;rw[show c.shp x=(c5 x c.shape).getD .nil from rfl]at key;simp only[aN,az]at ag⊢;refine bU.mk mixed jw Jj LI (by simp) ag.obj fun aO cL=>?_;unfold EF;simp[aA];(with_reducible repeat' first|refine aj ?_|refine aC (jl _) ?_|refine aD (jl _) ?_|simp[aL,s6]);(refine c8.ob (key) (by first|exact cj _|exact cj ‹_› _) (by simp only[aN,az,aA,bX,b2];exact aR) (by simp only[aN,az,aA,bX,b2];exact aR) (by simp[inObs,Pv.look,aN,az,aA]) ?_;rintro r ai ⟨rfl,rfl⟩;refine⟨(Same.keys (by simp[aN,az,aA]) (by simp[aN,az,aA])),?_⟩;simp[cz,aN,az,aA]);(with_reducible repeat' first|refine aj ?_|simp);(refine cV.at (aN {bL with full:=eP x t bL.full}) (by simp) (by first|exact cj _|exact cj ‹_› _) (Same.keys (by simp[aN,az,aA]) (by simp[aN,az,aA])) (by simp only[aN,az,aA,bX,b2];exact aR) (by simp only[aN,az,aA,bX,b2];exact aR) ?_;simp[c1,GX,aX,aY,aW,inObs,Pv.look,aN,az,aA])
theorem ad2:bU ao 215 [] ⟨[],[]⟩ fun r ai=>r=aA∧ai=aN bu.new:=by have ag:eh ⟨[],[]⟩:=eh.of yq (by simp) (by simp);refine bU.mk mixed jw abX aiA (by simp) ag.obj fun aO cL=>?_;unfold Pf;simp;refine cV.new (aN bu.new) (.inl rfl) (cj _) ⟨trivial,trivial⟩ (by simp only[aN,az,bu.new];exact aR) (by simp only[aN,az,bu.new];exact aR) ?_;simp[c1,V3,aX,aY,aW,inObs,Pv.look,aN,az,aA]
theorem W5{a b:List Int}(h:a.Perm b):q6 a=q6 b:=by
 have aK:∀a b c:Int,(decide (a≤b))=true→(decide (b≤c))=true→(decide (a≤c))=true:=by intro a b c;simp;omega
 have z8:∀a b:Int,(decide (a≤b)||decide (b≤a))=true:=by intro a b;simp;omega
 have J:=List.pairwise_mergeSort aK z8 a;have U:=List.pairwise_mergeSort aK z8 b;refine NQ (le:=fun x y:Int=>(decide (x≤y))=true) (fun x y _ _ J U=>by simp at J U;omega) J U ?_;exact(List.mergeSort_perm a _).trans (h.trans (List.mergeSort_perm b _).symm)
def agw(l:List Int)(k:Nat)(st:bs):Prop:=∃(seen:List Nat) (xs:List Int),seen.Nodup∧(∀b∈seen,b<l.length)∧k=l.length-seen.length∧xs=seen.filterMap (fun b=>l[b]?)∧xs.length=seen.length∧st=⟨[(3,.row 1 (.obj 306) xs.length),(7,.ptr (.loc 0) 0)],[(.obj 304,ov l),(.loc 0,b9 l.length seen (.obj 304))],[(.obj 306,⟨xs.length,3,1,some (dA xs)⟩)],1,[.obj 306,.obj 304]⟩
@[simp] theorem qW(xs:List Int):(dA xs).length=xs.length:=by simp[dA]
@[simp] theorem ats(xs:List Int):cR (dA xs)=dA xs:=by
 induction xs with
 |nil=>rfl
 |cons x r bO=>simp only[dA,gO,cR,dm]at bO⊢;rw[bO]
@[simp] theorem aqa:dA []=[]:=rfl
theorem agr(xs:List Int)(x:Int):dA xs++[ah.int .i64 x]=dA (xs++[x]):=by simp[dA]
theorem aej(l:List Int)(aw:l.length≤1000000):bU ao 136 [.gmap (.obj 304)] (tR l) fun r ai=>r= .slice 1 .no (dA (q6 l))∧ai=tR l:=by
 have ag:=NY l;unfold tR at ag⊢;refine bU.mk mixed fK ab8 aiL (by simp) ag.obj fun aO cL=>?_;unfold Pr;simp;refine ps (agw l) l.length _ ⟨by simp[fresh,aH,aB,b9,inObs,Pv.look,mI,tf],dZ (by simp[fresh,aH,aB,b9,inObs,Pv.look,mI,tf]),ea (by simp[fresh,aH,aB,dN,inObs,Pv.look,mI,tf]),by simp⟩ ⟨[],[],by simp,by simp,by simp,by simp,by simp,rfl⟩ ?_;rintro k st ⟨seen,xs,aQ,bE,ab,ij,kj,rfl⟩ kU cL;clear kU cL;have hle:=Hq aQ bE;simp;refine aav (mk:= .obj 304) (seen:=seen) (l:=l) (by simp) (by simp) rfl (fun lA=>?_) (fun b x af ad=>?_)
 ·simp;have v7:=MR aQ bE lA;rw[←ij]at v7;refine c8.ob (aeh 306 xs (by omega)) (H4 306 xs) (by unfold mU;exact aR) (by unfold mU;exact aR) (by simp[mU,inObs,Pv.look]) ?_;rintro r ai ⟨rfl,rfl⟩;refine⟨⟨fun _=>rfl,fun k=>by simp only[mU,Pv.look];split<;>rfl⟩,?_⟩;unfold mU;simp[cz,W4];refine cV.at _ (.inl rfl) ag (Same.refl _) aR aR ?_;simp[c1,V8,aX,aY,aW];rw[W5 v7];simp[aB,tf]
 ·have zU:∀f:aI→aZ (List ah),f (.loc 0)=some (b9 l.length (seen++[b]) (.obj 304))→f (.obj 304)=some (ov l)→pG f (.ptr (.loc 0) 0)=some (True,.tuple [.int .i64 x,.bool true]):=fun f J U=>aho f (.loc 0) (.obj 304) l.length seen b l x J U rfl af;have fb:b<l.length:=(e1.1 af).1;have p5:=MS aQ bE fb ad;simp[zU,agr];refine⟨by unfold lim;omega,?_⟩;refine bK.next (l.length-(seen.length+1)) (by omega) ⟨seen++[b],xs++[x],LC aQ ad,(by simp;intro c au;rcases au with au|rfl;exact bE c au;exact fb),by simp,by rw[List.filterMap_append,←ij];simp[af],by simp[kj],rfl⟩ ⟨by simp[fresh,aH,aB,b9,inObs,Pv.look,mI,tf],dZ (by simp[fresh,aH,aB,b9,inObs,Pv.look,mI,tf]),ea (by simp[fresh,aH,aB,dN,inObs,Pv.look,mI,tf]),by simp⟩
@[simp] theorem aqp(S:aI→Prop)(xs:List Int):aH S (dA xs)=True:=eq_true (tf S xs)
@[simp] theorem aoY:cells .junk=[.junk]:=rfl
def Pq:C:=(aa [eN 6 5,be 7 false] (aa [dJ 12 215 [],I 8 12] (.seq (aa [I 13 0,b7 14 13,bJ 15 0] (e0 16 15 14 (.seq (.block 1 (aa [cd 17 5 13 15,a6 18 5 17,dg 10 ik,bT 5 10 18] (aa [I 19 8,aG 20 0 1 10,av 21 1 20,b3 22 216 19 21] (aa [I 23 8,gD 24 1 4 10,a6 25 4 24,b3 26 217 23 25] (.seq (.drawn false 69 [I 27 8,aG 28 0 1 10,av 29 1 28,cJ 30 116 29,gD 31 1 4 10,a6 32 4 31,dJ 33 218 [.t 27,.t 30,.t 32],cy 34 33]) (aT 34 (aa [eN 6 5,be 7 false] .ret) .skip)))))) (.region [aS 35 .add 15 1,I 15 35])))) (.seq (aa [I 36 1,b7 37 36,bJ 38 0] (.block 2 (.loop (aa [bg 39 .lss 38 37] (.seq (aT 39 .skip (.exit 2)) (.seq (.block 3 (aa [I 40 38,I 11 40] (aa [I 41 8,I 42 1,I 43 11,cd 44 4 42 43,a6 45 4 44,b3 46 217 41 45] (aa [I 47 8,I 48 2,I 49 11,cd 50 4 48 49,a6 51 4 50,b3 52 217 47 51] (.seq (.drawn false 69 [I 53 8,I 54 1,I 55 11,cd 56 4 54 55,a6 57 4 56,I 58 2,I 59 11,cd 60 4 58 59,a6 61 4 60,dJ 62 218 [.t 53,.t 57,.t 61],cy 63 62]) (aT 63 (aa [eN 6 5,be 7 false] .ret) .skip)))))) (.region [aS 64 .add 38 1,I 38 64]))))))) (aa [I 65 8,cJ 66 219 65,cH 67 0 66,cH 68 1 66,I 6 67,I 7 68] .ret)))))
@[simp] def Mf:List bA:=[.tmp 6,.tmp 7]
def O4:C:=(aa [eN 2 5,be 3 false] (aa [cW (.mkmap 12 (some 304)),I 4 12] (.seq (aa [I 13 0,fw 14 13,aG 15 0 1 14,av 16 1 15,cW (.range 17 none (.t 16))] (.block 0 (.loop (aa [⟨none,.next 18 (.t 17)⟩,cH 19 0 18] (.seq (aT 19 .skip (.exit 0)) (.block 1 (aa [ca 20 (.ment (.t 17)),cH 21 0 20,I 5 21] (.region [I 22 4,I 23 5,cW (.mput .i (.t 22) (.t 23) (.c (.bool true)))])))))))) (aa [I 24 4,cJ 25 136 24,I 6 25] (aa [cW (.bslm 26 none 5 113 []),I 7 26] (.seq (aa [I 27 6,b7 28 27,bJ 29 0] (.block 2 (.loop (aa [bg 30 .lss 29 28] (.seq (aT 30 .skip (.exit 2)) (.seq (.block 3 (aa [cd 31 1 27 29,av 32 1 31,I 9 32] (aa [I 33 0,I 34 9,b3 35 216 33 34,I 10 35] (.seq (aa [I 36 0,I 37 10,b3 38 248 36 37,cy 39 38] (aT 39 (aa [eN 2 5,be 3 false] .ret) .skip)) (.seq (aa [I 40 10,I 41 9,bg 42 .eql 40 41,I 43 42,bW 43 true 44 0,aq 43 true (fw 45 44),aq 43 true (aG 46 2 1 45),aq 43 true (av 47 1 46),bW 43 true 48 10,aq 43 true (ca 49 (.mget .i (.bool false) false (.t 47) (.t 48))),aq 43 true (cy 50 49),du 51 43 50] (aT 51 (.exit 3) .skip)) (aa [I 52 7,I 53 9,jQ 54 ik [(0,1,(.t 53))],eD 55 5 113 [.t 54],cW (.appm 56 none 5 113 (.t 52) (.t 55)),I 7 56] (aa [I 57 0,fw 58 57,aG 59 4 1 58,av 60 1 59,I 61 10,ca 62 (.mget .i (.int .i64 0) false (.t 60) (.t 61)),aS 63 .gtr 62 5000,I 64 63,bW 64 false 65 7,aq 64 false (b7 66 65),aq 64 false (aS 67 .gtr 66 400),cY 68 64 67] (aT 68 (aa [eN 2 5,be 3 false] .ret) .skip)))))))) (.region [aS 69 .add 29 1,I 29 69]))))))) (.seq (aa [I 70 7,b7 71 70,bJ 72 0] (.block 4 (.loop (aa [bg 73 .lss 72 71] (.seq (aT 73 .skip (.exit 4)) (.seq (.block 5 (aa [I 74 72,I 11 74] (.region [I 75 7,I 76 11,I 77 0,I 78 0,I 79 7,I 80 11,cd 81 5 79 80,aG 82 0 1 81,av 83 1 82,b3 84 216 78 83,b3 85 249 77 84,cJ 86 143 85,cd 87 5 75 76,gD 88 1 4 87,bT 4 88 86]))) (.region [aS 89 .add 72 1,I 72 89]))))))) (.seq (.pub 7 (.region [I 90 7,I 2 90,be 3 true])) .ret))))))))
@[simp] def GW:List bA:=[.tmp 2,.tmp 3]
def Nj:List (Nat×dF):=[
 (3,⟨1,8,.int .i64,.int .i64 0⟩),
 (4,⟨1,1,.bool,.bool false⟩),
 (27,⟨1,24,.slice 30,.slice 4 .nil []⟩),
 (30,⟨4,56,.struct [(0,3),(1,3),(2,9),(3,27)],.agg [.int .i64 0,.int .i64 0,.str [],.slice 4 .nil []]⟩),
 (46,⟨1,24,.slice 113,.slice 5 .nil []⟩),
 (76,⟨1,24,.slice 3,.slice 1 .nil []⟩),
 (113,⟨5,64,.struct [(0,3),(1,30)],.agg [.int .i64 0,.int .i64 0,.int .i64 0,.str [],.slice 4 .nil []]⟩),
 (136,⟨1,8,.map 3 4,.junk⟩),
 (216,⟨1,8,.map 3 3,.junk⟩),
 (219,⟨6,48,.struct [(0,216),(1,217),(2,136),(3,216),(4,216),(5,217)],.agg [.junk,.junk,.junk,.junk,.junk,.junk]⟩)]
theorem Xx:fP ao Nj=true:=by kernel_rfl
theorem aiK:b1 Nj Pq Mf 3 Tryz.f186=true:=by kernel_rfl
theorem ab7:ao.funcs[(186:Nat)]? =some Tryz.f186:=Tryz.func186
theorem aip:b1 Nj O4 GW 1 Tryz.f219=true:=by kernel_rfl
theorem abM:ao.funcs[(219:Nat)]? =some Tryz.f219:=Tryz.func219
def gm(o:aZ (List al)):ah:= .tuple [.slice 5 .no ((o.getD []).map al.e),.bool o.isSome]
theorem ahq(f:aI→aZ (List ah))(fl mk:aI)(n:Nat)(seen:List Nat)(b:Nat)(l:List (Int×Int))(x:Int×Int)(hi:f fl=some (b9 n (seen++[b]) mk))(hm:f mk=some (nt l))(ay:n=l.length)(af:l[b]? =some x):pG f (.ptr fl 0)=some (True,.tuple [.int .i64 x.1,.int .i64 x.2]):=by rw[UK f fl mk n seen b _ hi hm (by simpa using ay)];simp[af]
theorem aaw{st:bs}{d:Nat}{K:bs→Prop}{fl mk:aI}{n:Nat}{seen:List Nat}{l:List (Int×Int)}(hi:Pv.look fl st.b=some (b9 n seen mk))(hm:Pv.look mk st.b=some (nt l))(ay:n=l.length)
  (J:(∀b,b<l.length→b∈seen)→K {st with t:=Pv.put d (.tuple [.bool false]) st.t}) (U:∀b x,l[b]? =some x→b∉seen→K {st with t:=Pv.put d (.tuple [.bool true,.int .i64 x.1,.int .i64 x.2]) st.t,b:=cB fl (b9 n (seen++[b]) mk) st.b}):
  sK st d (.ptr fl 0) K:=by
 refine Rj hi hm (by simpa using ay) (fun h=>J fun b ad=>h b (by omega)) (fun b k v ad ag=>?_);simp only[ri,gz]at ad;obtain⟨x,ak,aE⟩:=ad;simp only[jy]at aE;obtain⟨rfl,rfl⟩:=aE;exact U b x ak ag
@[simp] theorem asv(m:aI)(l:List (Int×Int)):wR m (nt l)=some (b9 l.length [] m):=by simp[nt,rZ]
def nL(v:Int):ah:= .agg [.int .i64 v,.int .i64 0,.int .i64 0,.str [],.slice 4 .nil []]
@[simp] theorem agT(S:aI→Prop)(l:List Int):aH S (l.map nL)=True:=by
 apply eq_true;induction l with
 |nil=>simp[aH]
 |cons x r bO=>simp only[gO,aH];exact⟨by simp[nL,aB,aH],bO⟩
@[simp] theorem aqD(S:aI→Prop)(v:Int):aB S (nL v)=True:=by simp[nL,aB,aH]
@[simp] theorem asL(v:Int):ec (nL v)=true:=rfl
@[simp] theorem aoI(v:Int):cells (nL v)=[.int .i64 v,.int .i64 0,.int .i64 0,.str [],.slice 4 .nil []]:=rfl
theorem alv(v:Int)(f:Nat)(cs:List ah):mN (nL v) f cs= .agg (n3 [.int .i64 v,.int .i64 0,.int .i64 0,.str [],.slice 4 .nil []] f cs):=rfl
theorem jY{S:aI→Prop}:∀{a b:List ah},aH S (a++b)↔(aH S a∧aH S b)
 |[],b=>by simp[aH]
 |x::a,b=>by simp[aH,jY (a:=a),and_assoc]
@[simp] theorem aqo(S:aI→Prop)(k:Nat)(l:List Int):aH S (nF k (l.map nL))=True:=by rw[←List.map_drop];exact agT S _
@[simp] theorem aqT(S:aI→Prop)(o:aZ (List al)):aB S (gm o)=True:=by simp[gm]
theorem Io(l:List Int)(v:Int):l.map nL++[.agg [.int .i64 v,.int .i64 0,.int .i64 0,.str [],.slice 4 .nil []]]=(l++[v]).map nL:=by simp[nL]
def ags(c:bu)(k:Nat)(st:bs):Prop:=∃(seen:List Nat) (xs:List Int),seen.Nodup∧(∀b∈seen,b<c.up.length)∧k=c.up.length-seen.length∧xs=seen.filterMap (fun b=>(c.up[b]?).map (·.1))∧xs.length=seen.length∧st=⟨[(0,aA),(4,.gmap (.obj 304)),(17,.ptr (.loc 0) 0)],az c++[(.obj 304,ov xs),(.loc 0,b9 c.up.length seen (.obj 702))],[],1,[.obj 304,.obj 702,.obj 703,.obj 704,.obj 705,.obj 706,.obj 707]⟩
theorem alG{c:bu}{seen:List Nat}(aQ:seen.Nodup)(bE:∀b∈seen,b<c.up.length)(lA:∀b,b<c.up.length→b∈seen):(seen.filterMap fun b=>(c.up[b]?).map (·.1)).Perm (cv c.up):=by have:=MR (l:=cv c.up) aQ (by simpa[cv]using bE) (by simpa[cv]using lA);simpa[cv]using this
theorem alH{c:bu}(ay:(cv c.up).Nodup){seen:List Nat}{b:Nat}(ad:b∉seen){x:Int×Int}(af:c.up[b]? =some x):x.1∉seen.filterMap fun b=>(c.up[b]?).map (·.1):=by
 intro hm;rw[List.mem_filterMap]at hm;obtain⟨b5,J,U⟩:=hm;obtain⟨y,ar,ba⟩:=gz.1 U;have ak:(cv c.up)[b]? =some x.1:=by simp[cv,af]
 have aE:(cv c.up)[b5]? =some x.1:=by simp[cv,ar,ba]
 have bE:=(e1.1 ak).1;have vX:=(e1.1 aE).1;have f1:=(e1.1 ak).2;have f2:=(e1.1 aE).2;rcases Nat.lt_trichotomy b b5 with h|h|h
 ·exact o7.1 ay b b5 bE vX h (f1.trans f2.symm)
 ·subst h;exact ad J
 ·exact o7.1 ay b5 b vX bE h (f2.trans f1.symm)
set_option maxRecDepth 4000 in
theorem aef(n:Nat)(c:bu)(o:aZ (List al))(he:DU n (q7 (cv c.up)) c=some o)(Cs:(cv c.up).Nodup)(hlen:c.up.length≤1000000)(br:mn c):bU ao 219 [aA] (aN c) fun r ai=>r=gm o∧∃cu,ai=aN cu:=by
 have ag:=cj c;simp only[aN,az]at ag⊢;refine bU.mk mixed Xx abM aip (by simp) ag.obj fun aO cL=>?_;unfold O4;simp[aA];have uC:∀S:aI→Prop,aH S (jL []):=fun S=>mI S [];refine ps (ags c) c.up.length _ ⟨by simp[fresh,aH,aB,b9,inObs,Pv.look,mI,aA,az,uC],dZ (by simp[fresh,aH,aB,b9,inObs,Pv.look,mI,aA,az,uC]),ea (by simp[fresh,aH,aB,dN,inObs,Pv.look,mI,aA,az,uC]),by simp⟩ ⟨[],[],by simp,by simp,by simp,by simp,by simp,rfl⟩ ?_;rintro k st ⟨seen,xs,aQ,bE,ab,ij,kj,rfl⟩ kU cL;clear kU cL;have hle:=Hq aQ bE;simp[az,aA];refine aaw (mk:= .obj 702) (seen:=seen) (l:=c.up) (by simp) (by simp) rfl (fun lA=>?_) (fun b x af ad=>?_);rotate_left
 ·have zU:∀f:aI→aZ (List ah),f (.loc 0)=some (b9 c.up.length (seen++[b]) (.obj 702))→f (.obj 702)=some (nt c.up)→pG f (.ptr (.loc 0) 0)=some (True,.tuple [.int .i64 x.1,.int .i64 x.2]):=fun f J U=>ahq f (.loc 0) (.obj 702) c.up.length seen b c.up x J U rfl af;have fb:b<c.up.length:=(e1.1 af).1;have p5:=MS aQ bE fb ad;have kA:=alH Cs ad af;rw[←ij]at kA;simp[zU,Ih,kA];refine bK.next (c.up.length-(seen.length+1)) (by omega) ⟨seen++[b],xs++[x.1],LC aQ ad,(by simp;intro c au;rcases au with au|rfl;exact bE c au;exact fb),by simp,by rw[List.filterMap_append,←ij];simp[af],by simp[kj],rfl⟩ ⟨by simp[fresh,aH,aB,b9,inObs,Pv.look,mI,aA,az],dZ (by simp[fresh,aH,aB,b9,inObs,Pv.look,mI,aA,az]),ea (by simp[fresh,aH,aB,dN,inObs,Pv.look,mI,aA,az]),by simp⟩
 ·simp;have v7:=alG aQ bE lA;rw[←ij]at v7;have agc:xs.length≤1000000:=by omega
  refine c8.ob (aej xs agc) (NY _) (by simp only[tR];exact aR) (by simp only[tR];exact aR) (by simp[inObs,tR,Pv.look]) ?_;rintro r ai ⟨rfl,rfl⟩;refine⟨Same.refl _,?_⟩;have z6:q6 xs=q7 (cv c.up):=W5 v7;rw[z6];obtain⟨aV,kX⟩:∃aV,aV=q7 (cv c.up):=⟨_,rfl⟩;rw[←kX]at he⊢;simp[tR,cz];simp only[DU,mS]at he;obtain⟨res,zL,oE⟩:=he;have ju:aV.length≤1000000:=by rw[kX,(DX _).length_eq];simpa[cv]using hlen
  refine ho (α:=bu×List Int) (fun i a=>⟨[(0,aA),(27,.slice 1 .no (dA aV)),(28,.int .i64 aV.length),(7,.row 5 (.loc 1) a.2.length),(29,.int .i64 i)],az a.1,[(.loc 1,⟨a.2.length,113,5,some (a.2.map nL)⟩)],2,[.obj 702,.obj 703,.obj 704,.obj 705,.obj 706,.obj 707]⟩) aV.length (fun i a=>se n (aV.drop i) a.1 a.2=some res∧mn a.1∧a.2.length≤400) (c,[]) (by simp[aA,az];exact⟨by simp[fresh,aH,aB,b9,inObs,Pv.look,mI,aA,az],dZ (by simp[fresh,aH,aB,b9,inObs,Pv.look,mI,aA,az]),ea (by simp[fresh,aH,aB,dN,inObs,Pv.look,mI,aA,az]),by simp⟩) ⟨by simpa using zL,br,by simp⟩ ?_ ?_
  ·rintro⟨bL,out⟩ ⟨J,U,ar⟩ ad;simp only at J U ar ad⊢;simp[se]at J;subst J;simp only[gz]at oE;obtain⟨⟨L,Zy⟩,aeU,rfl⟩:=oE;simp[aA,az];refine ho (α:=bu×List al) (fun j a=>⟨[(0,aA),(7,.row 5 (.loc 1) out.length),(71,.int .i64 out.length),(72,.int .i64 j)],az a.1,[(.loc 1,⟨out.length,113,5,some (a.2.map al.e++(out.drop j).map nL)⟩)],2,[.obj 702,.obj 703,.obj 704,.obj 705,.obj 706,.obj 707]⟩) out.length (fun j a=>a.2.length=j∧∃rest,yN n (out.drop j) a.1=some (rest,Zy)∧a.2++rest=L) (bL,[]) (by simp[aA,az];exact⟨by simp[fresh,aH,aB,b9,inObs,Pv.look,aA,az],dZ (by simp[fresh,aH,aB,b9,inObs,Pv.look,aA,az]),ea (by simp[fresh,aH,aB,dN,inObs,Pv.look,aA,az]),by simp⟩) ⟨rfl,L,by simpa using aeU,rfl⟩ ?_ ?_
   ·rintro⟨cp,done⟩ ⟨ba,rest,b4,c9⟩ ad;simp only at ba b4 c9 ad⊢;simp[yN]at b4;obtain⟨rfl,rfl⟩:=b4;simp at c9;subst c9;simp[aA,az,ba];refine cV.at (aN cp) (by simp) (cj _) (Same.keys (by simp[aN,az]) (by simp[aN,az])) (by simp only[aN,az];exact aR) (by simp only[aN,az];exact aR) ?_;simp[c1,GW,aX,aY,aW,aN,az,gm];exact⟨cp,by simp⟩
   ·rintro j ⟨cp,done⟩ ae ⟨ba,rest,b4,c9⟩ ad;simp only at ba b4 c9 ad⊢;obtain⟨v,aF⟩:∃v,out[j]? =some v:=⟨_,bZ ae⟩;have aQ:out.drop j=v::out.drop (j+1):=by rw[kP ae];rw[bZ ae]at aF;cases aF;rfl
    rw[aQ]at b4;simp only[yN,mS,gz,jy]at b4;obtain⟨⟨x,dc⟩,ej,⟨t,ix⟩,nQ,⟨alr,apb⟩,sO,rfl,rfl⟩:=b4;simp only at nQ sO;have key:=aek n x dc _ nQ;rw[aQ];have hb:∀R,(done.map al.e++nL v::R)[j]? =some (nL v):=fun R=>by rw[List.getElem?_append_right (by simp;omega)];simp[ba]
    have wb:∀R x,(done.map al.e++nL v::R).set j x=done.map al.e++x::R:=fun R x=>by rw[List.set_append_right _ _ (by simp;omega)];simp[ba]
    simp[aA,az];(with_reducible repeat' first|refine aj ?_|simp[hb,ae]);(refine c8.ob (rD cp v x dc ej) (by first|exact cj _|exact cj ‹_› _) (by simp only[aN,az,aA,bX,b2];exact aR) (by simp only[aN,az,aA,bX,b2];exact aR) (by simp[inObs,Pv.look,aN,az,aA]) ?_;rintro r ai ⟨rfl,rfl⟩;refine⟨(Same.keys (by simp[aN,az,aA]) (by simp[aN,az,aA])),?_⟩;simp[cz,aN,az,aA]);(with_reducible repeat' first|refine aj ?_|simp);(refine c8.ob (key) (by first|exact cj _|exact cj ‹_› _) (by simp only[aN,az,aA,bX,b2];exact aR) (by simp only[aN,az,aA,bX,b2];exact aR) (by simp[inObs,Pv.look,aN,az,aA]) ?_;rintro r ai ⟨rfl,rfl⟩;refine⟨(Same.keys (by simp[aN,az,aA]) (by simp[aN,az,aA])),?_⟩;simp[cz,aN,az,aA]);(with_reducible repeat' first|refine aj ?_|refine aC (tJ _) ?_|refine aD (tJ _) ?_|simp[hb,wb,ae,alv,-mN]);refine bK.rng (ix,done++[⟨v,t⟩]) ae ⟨by simp[ba],alr,sO,by simpa using c9⟩ ?_;simp[aA,az];exact⟨by simp[fresh,aH,aB,b9,inObs,Pv.look,aA,az,jY],dZ (by simp[fresh,aH,aB,b9,inObs,Pv.look,aA,az,jY]),ea (by simp[fresh,aH,aB,dN,inObs,Pv.look,aA,az,jY]),by simp⟩
  ·rintro i ⟨bL,out⟩ hi ⟨J,U,ar⟩ ad;simp only at J U ar ad⊢;obtain⟨v,aF⟩:∃v,aV[i]? =some v:=⟨_,bZ hi⟩;have aQ:aV.drop i=v::aV.drop (i+1):=by rw[kP hi];rw[bZ hi]at aF;cases aF;rfl
   rw[aQ]at J;simp only[se,mS]at J;obtain⟨⟨x,cp⟩,ba,⟨f,dc⟩,b4,c9⟩:=J;simp only at b4 c9;obtain⟨z3,key⟩:=aem n x cp _ b4 (U.rt ba);have ae9:∀h,(dA aV)[i]'h= .int .i64 v:=fun h=>by rw[bZ hi]at aF;simp only[dL]at aF;simp[dA,aF]
   simp[aA,az];(with_reducible repeat' first|refine aj ?_|simp[ae9,hi]);(refine c8.ob (rD bL v x cp ba) (by first|exact cj _|exact cj ‹_› _) (by simp only[aN,az,aA,bX,b2];exact aR) (by simp only[aN,az,aA,bX,b2];exact aR) (by simp[inObs,Pv.look,aN,az,aA]) ?_;rintro r ai ⟨rfl,rfl⟩;refine⟨(Same.keys (by simp[aN,az,aA]) (by simp[aN,az,aA])),?_⟩;simp[cz,aN,az,aA]);(with_reducible repeat' first|refine aj ?_|simp);(refine c8.ob (key) (by first|exact cj _|exact cj ‹_› _) (by simp only[aN,az,aA,bX,b2];exact aR) (by simp only[aN,az,aA,bX,b2];exact aR) (by simp[inObs,Pv.look,aN,az,aA]) ?_;rintro r ai ⟨rfl,rfl⟩;refine⟨(Same.keys (by simp[aN,az,aA]) (by simp[aN,az,aA])),?_⟩;simp[cz,aN,az,aA]);cases f with
   |false=>simp at c9;subst c9;simp at oE;subst oE;(with_reducible repeat' first|refine aj ?_|simp);refine cV.at (aN dc) (by simp) (cj _) (Same.keys (by simp[aN,az]) (by simp[aN,az])) (by simp only[aN,az];exact aR) (by simp only[aN,az];exact aR) ?_;simp[c1,GW,aX,aY,aW,aN,az,gm];exact⟨dc,by simp⟩
   |true=>
    simp only[Bool.true_eq_false,if_false]at c9;by_cases au:x=v∧dc.shd x=false
    ·rw[if_pos au]at c9;obtain⟨agd,jW⟩:=au;subst agd;have s6:(c5 x dc.shaped).getD false=false:=jW;(with_reducible repeat' first|refine aj ?_|simp[s6]);refine bK.rng (dc,out) hi ⟨c9,z3,ar⟩ ?_;exact⟨by simp[fresh,aH,aB,b9,inObs,Pv.look,aA,az],dZ (by simp[fresh,aH,aB,b9,inObs,Pv.look,aA,az]),ea (by simp[fresh,aH,aB,dN,inObs,Pv.look,aA,az]),by simp⟩
    ·rw[if_neg au]at c9;have S5:(x==v)=false∨((x==v)=true∧(c5 x dc.shaped).getD false=true):=by
      by_cases e:x=v
      ·right;refine⟨by simp[e],?_⟩;cases aE:dc.shd x with
       |false=>exact absurd ⟨e,aE⟩ au
       |true=>exact aE
      ·left;simp[e]
     by_cases aw:5000<dc.sz x∨400<out.length+1
     ·rw[if_pos aw]at c9;cases c9;simp at oE;subst oE;have nS:(decide (5000<iV dc.size x))=true∨(decide (5000<iV dc.size x)=false∧400<out.length+1):=by
       by_cases e:5000<iV dc.size x
       ·left;simp[e]
       ·right;exact⟨by simp[e],aw.resolve_left e⟩
      have zX:True:=trivial;have jI:True:=trivial;rcases S5 with bG|⟨bG,zX⟩;all_goals
       rcases nS with bo|⟨bo,jI⟩
       all_goals
        ((with_reducible repeat' first|refine aj ?_|simp[bG,zX,bo,jI]|((first|apply bP|apply bR|apply bQ)<;>intro h<;>try simp at h))<;>(try exact cm))
        refine cV.at (aN dc) (by simp) (cj _) (Same.keys (by simp[aN,az]) (by simp[aN,az])) (by simp only[aN,az];exact aR) (by simp only[aN,az];exact aR) ?_
        simp[c1,GW,aX,aY,aW,aN,az,gm]
        exact⟨dc,by simp⟩
     ·rw[if_neg aw]at c9;have bo:decide (5000<iV dc.size x)=false:=by simp;exact Int.not_lt.1 fun h=>aw (.inl h)
      have jI:¬400<out.length+1:=fun h=>aw (.inr h);have zX:True:=trivial;rcases S5 with bG|⟨bG,zX⟩;all_goals
       ((with_reducible repeat' first|refine aj ?_|simp[bG,zX,bo,jI]|((first|apply bP|apply bR|apply bQ)<;>intro h<;>try simp at h))<;>(try exact cm))
       all_goals first|(refine⟨by unfold lim;omega,?_⟩)|skip
       ((with_reducible repeat' first|refine aj ?_|simp[bG,zX,bo,jI]|((first|apply bP|apply bR|apply bQ)<;>intro h<;>try simp at h))<;>(try exact cm))
       refine bK.rng (dc,out++[v]) hi ⟨c9,z3,by simp;omega⟩ ?_
       exact⟨by simp[fresh,aH,aB,b9,inObs,Pv.look,aA,az,Io,jY],dZ (by simp[fresh,aH,aB,b9,inObs,Pv.look,aA,az,Io,jY]),ea (by simp[fresh,aH,aB,dN,inObs,Pv.look,aA,az,Io,jY]),by simp⟩
theorem yT:∀{a b:T},a.tm=b.tm→a=b:=by
 intro a;induction a with
 |pair x y nV p7=>intro b h;cases b<;>simp[T.tm]at h;rw[nV h.1,p7 h.2]
 |_=>intro b h;cases b<;>simp[T.tm]at h⊢ <;>exact h
def YS(l:List cT):Prop:= ∃s:List al,l=s.map al.b∧kK s∧hH s∧gp s
def H8(l:List cT):Prop:= ∃s:List al,l=s.map al.b∧kK s∧fF s∧gp s
theorem Oz:∀{l:List cT},(∀b∈l,b.t.fits=true)→∃s:List al,l=s.map al.b∧xC s
 |[],_=>⟨[],rfl,fun b ad=>by simp at ad⟩
 |b::l,h=>by
  obtain⟨s,J,U⟩:=Oz (l:=l) fun c au=>h c (by simp[au]);obtain⟨x,ar,ba⟩:=bI.fits_ex (h b (by simp));refine⟨⟨b.v,x⟩::s,by rw[J];simp[al.b,ar],fun c au=>?_⟩;rcases fR.1 au with rfl|au
  ·exact ba
  ·exact U c au
theorem w7{l:List cT}:vu l↔YS l:=by
 constructor
 ·rintro⟨J,U⟩;obtain⟨s,rfl,Ck⟩:=Oz (l:=l) fun b ad=>by obtain⟨i,hi,e⟩:=nG ad;exact(U i hi b (by rw[bZ hi,e])).2.2
  have SE:∀b∈s,b.t.ok=true∧b.t.size≤5000:=fun b ad=>by have:=Ck b ad;simpa[T.fit]using this
  refine⟨s,rfl,fun b ad=>⟨?_,(SE b ad).1⟩,?_,by simpa using J,fun b ad=>(SE b ad).2⟩
  ·obtain⟨i,hi,e⟩:=nG ad;have:=(U i (by simpa using hi) b.b (by simp[bZ hi,e])).1;exact this
  ·rw[hH,o7];have hc:∀i (h:i+1<s.length),s[i].v<s[i+1].v:=fun i h=>by have:=(U (i+1) (by simpa using h) s[i+1].b (by simp[bZ h])).2.1 s[i].b (by omega) (by simp[bZ (show i<s.length by omega)]);exact this
   have:∀(d i:Nat) (h:i+d+1<s.length),s[i].v<s[i+d+1].v:=by
    intro d;induction d with
    |zero=>intro i h;exact hc i h
    |succ d bO=>intro i h;have bD:=bO i (by omega);have a2:=hc (i+d+1) (by omega);simp only[Nat.add_assoc]at bD a2⊢;omega
   intro i j hi ae lF;have:=this (j-i-1) i (by omega);simpa[show i+(j-i-1)+1=j from by omega]using this
 ·rintro⟨s,rfl,ax,bz,aL⟩;refine⟨by simpa using aL.1,fun i hi b ad=>?_⟩;simp only[ri,gz]at ad;obtain⟨c,au,rfl⟩:=ad;have hm:=dK au;refine⟨(ax c hm).1,fun d bn aQ=>?_,?_⟩
  ·simp only[ri,gz]at aQ;obtain⟨e,he,rfl⟩:=aQ;obtain⟨J,ak⟩:=e1.1 he;obtain⟨U,aE⟩:=e1.1 au;have:=o7.1 bz (i-1) i J U (by omega);rw[ak,aE]at this;exact this
  ·show c.t.tm.fits=true;rw[bI.fits_T];simp[T.fit,(ax c hm).2,aL.2 c hm]
def vD(s:List al)(v:Int)(f:Bool):Bool:=if 0≤mZ s v then false else f
def mo(s:List al)(b:al):Bool:=b.t.fold (vD s) true&& !(b.t.kind==1&&decide (b.v≤b.t.int))
theorem RO{s:List al}(bz:hH s)(t:T):∀f:Bool,t.fold (vD s) f=true↔f=true∧∀w,t.occ w=true→df s w=none:=by
 induction t with
 |var n=>
  intro f;simp only[T.fold,T.occ,dQ,vD];have:=RM bz n;by_cases h:0≤mZ s n
  ·rw[if_pos h];constructor
   ·intro h;cases h
   ·rintro⟨_,U⟩;have:=this.2 (U n rfl);omega
  ·rw[if_neg h];exact⟨fun aL=>⟨aL,fun w hw=>by subst hw;exact this.1 (by omega)⟩,fun h=>h.1⟩
 |pair a b dX dY=>
  intro f;simp only[T.fold,dX,dY,T.occ,lX];constructor
  ·rintro⟨⟨J,U⟩,ar⟩;exact⟨J,fun w hw=>hw.elim (U w) (ar w)⟩
  ·rintro⟨J,U⟩;exact⟨⟨J,fun w hw=>U w (.inl hw)⟩,fun w hw=>U w (.inr hw)⟩
 |_=>intro f;simp[T.fold,T.occ]
theorem Iq{s:List al}(bz:hH s)(b:al):mo s b=true↔(∀w,b.t.occ w=true→df s w=none)∧∀w,b.t= .var w→w<b.v:=by
 unfold mo;rw[cC,RO bz];simp only[true_and];refine and_congr_right fun _=>?_;constructor
 ·intro h w hw;have ab:(b.t.kind==1)=true:=by rw[hw];rfl
  have hi:b.t.int=w:=by rw[hw];rfl
  rw[ab,hi]at h;simpa using h
 ·intro h;cases ab:(b.t.kind==1)with
  |false=>rfl
  |true=>
   obtain⟨w,hw⟩:∃w,b.t= .var w:=by
    cases e:b.t with
    |var w=>exact⟨w,rfl⟩
    |_=>rw[e]at ab;simp at ab
   have hi:b.t.int=w:=by rw[hw];rfl
   have:=h w hw;rw[hi];simpa using this
theorem W3{s:List al}(bz:hH s):fF s↔∀b∈s,mo s b=true:=by
 constructor
 ·intro h b ad;exact(Iq bz b).2 ⟨h.free b ad,h.ori b ad⟩
 ·intro h;exact⟨bz,fun b ad=>((Iq bz b).1 (h b ad)).1,fun b ad=>((Iq bz b).1 (h b ad)).2⟩
def kD{α:Type}(p:α→Bool)(s:List α)(i:Nat)(_:Unit):Prop:= ∀k b,k<i→s[k]? =some b→p b=true
theorem kD.step{α:Type}{p:α→Bool}{s:List α}{i:Nat}(h:kD p s i ()){b:α}(ad:s[i]? =some b)(bG:p b=true):kD p s (i+1) ():=fun k c ab au=>by
 rcases(by omega:k<i∨k=i)with J|rfl
 ·exact h k c J au
 ·rw[ad]at au;cases au;exact bG
open Classical in
noncomputable def gG(l:List cT):Bool:=decide (H8 l)
theorem q9{l:List cT}:gG l=true↔H8 l:=by unfold gG;simp
def iC(f:Bool):cK:=⟨[(.obj 731,[.bool f])],[]⟩
theorem vr(f:Bool):eh (iC f):=by unfold iC;exact eh.of ⟨by intro m;simp[Pv.look],by intro m;simp[Pv.look]⟩ (by simp) (by simp)
theorem YJ(a b:Bool):Same (iC a) (iC b):=Same.keys (by simp[iC]) (by simp[iC])
theorem adR(s:List al)(aw:s.length≤1000000)(v:Int)(f:Bool):bU ao 159 [.int .i64 v,.eptr (.slice 5 .no (s.map al.e)),.ptr (.obj 731) 0] (iC f) fun r ai=>r= .tuple []∧ai=iC (vD s v f):=by
 have ag:=vr f;simp only[iC]at ag⊢;by_cases h:0≤mZ s v
 ·rw[vD,if_pos h];refine bU.mk mixed ra Rr U8 (by simp) ag.obj fun aO cL=>?_;unfold Iy;simp;(with_reducible repeat' first|refine aj ?_|refine aC (tK s v aw) ?_|refine aD (tK s v aw) ?_|simp[h]);(refine cV.at (iC false) (by simp) (by first|exact vr _|exact vr ‹_› _) (Same.keys (by simp[iC]) (by simp[iC])) (by simp only[iC,bX,b2];exact aR) (by simp only[iC,bX,b2];exact aR) ?_;simp[c1,L9,aX,aY,aW,inObs,Pv.look,iC])
 ·rw[vD,if_neg h];refine bU.mk mixed ra Rr U8 (by simp) ag.obj fun aO cL=>?_;unfold Iy;simp;(with_reducible repeat' first|refine aj ?_|refine aC (tK s v aw) ?_|refine aD (tK s v aw) ?_|simp[h]);(refine cV.at (iC f) (by simp) (by first|exact vr _|exact vr ‹_› _) (Same.keys (by simp[iC]) (by simp[iC])) (by simp only[iC,bX,b2];exact aR) (by simp only[iC,bX,b2];exact aR) ?_;simp[c1,L9,aX,aY,aW,inObs,Pv.look,iC])
theorem Np(l:List cT):bH ao 86 [.slice 5 .no (l.map cT.e)] (.bool (gG l)):=by
 have aF:=Nq l;by_cases h:vu l;rotate_left
 ·have bn:gG l=false:=by unfold gG;simp only[gI];rintro⟨s,J,U,ar,ba⟩;exact h (w7.2 ⟨s,J,U,ar.asc,ba⟩)
  rw[bn];refine bh ra Rq U7 fun aO=>?_;unfold Ix;exact bY
 ·obtain⟨s,rfl,ax,bz,aL⟩:=w7.1 h;have aw:s.length≤1000000:=by have:=aL.1;omega
  have ak:(s.map al.b).map cT.e=s.map al.e:=by rw[List.map_map];exact List.map_congr_left fun b _=>al.b_e b
  have bn:gG (s.map al.b)=s.all (mo s):=by
   rw[qq,gn,q9,←W3 bz];constructor
   ·rintro⟨ai,J,U,ar,ba⟩;have:ai=s:=by
     have ae8:∀a b:List al,a.map al.b=b.map al.b→a=b:=by
      intro a;induction a with
      |nil=>intro b ad;cases b<;>simp at ad⊢
      |cons x a bO=>
       intro b ad;cases b with
       |nil=>simp at ad
       |cons y b=>simp only[gO,qs,al.b,cT.mk.injEq]at ad;rw[bO b ad.2];have:=yT ad.1.2;obtain⟨⟨lB,_⟩,_⟩:=ad;cases x;cases y;simp_all
     exact(ae8 _ _ J).symm
    rw[←this];exact ar
   ·intro ar;exact⟨s,rfl,ax,ar,aL⟩
  rw[bn];rw[ak]at aF⊢;refine bh ra Rq U7 fun aO=>?_;unfold Ix;simp;(with_reducible repeat' first|refine aj ?_|refine aC aF ?_|refine aD aF ?_|simp[h]);refine ho (α:=Unit) (fun i _=>⟨[(1,.eptr (.slice 5 .no (s.map al.e))),(9,.slice 5 .no (s.map al.e)),(10,.int .i64 s.length),(11,.int .i64 i)],[],[],1,[]⟩) s.length (kD (mo s) s) () bN (fun k b ab=>by omega) (fun _ ae _=>?_) (fun i _ hi ae _=>?_)
  ·have:s.all (mo s)=true:=by rw[gn];intro b ad;obtain⟨k,ab,e⟩:=nG ad;exact ae k b ab (by rw[bZ ab,e])
   rw[this];exact bY
  ·obtain⟨b,l9⟩:∃b,s[i]? =some b:=⟨_,bZ hi⟩;have fJ:∀h,(s[i]'h)=b:=fun h=>by rw[bZ hi]at l9;exact eE l9
   have key:=JE iC vr YJ 159 [.eptr (.slice 5 .no (s.map al.e)),.ptr (.obj 731) 0] (fun a=>by simp[iC,inObs,Pv.look]) (by simp) (vD s) (fun v a=>adR s aw v a) b.t true;have eV:mo s b=false→s.all (mo s)=false:=fun h=>by rw[Bool.eq_false_iff];intro cb;rw[gn]at cb;rw[cb b (dK l9)]at h;cases h
   simp[hi,fJ];(with_reducible repeat' first|refine aj ?_|simp[fJ,hi]);(refine c8.ob (key) (by first|exact vr _|exact vr ‹_› _) (by simp only[iC,bX,b2];exact aR) (by simp only[iC,bX,b2];exact aR) (by simp[inObs,Pv.look,iC]) ?_;rintro r ai ⟨rfl,rfl⟩;refine⟨(Same.keys (by simp[iC]) (by simp[iC])),?_⟩;simp[cz,iC]);generalize aeZ:b.t.fold (vD s) true=sL;have xK:mo s b=(sL&& !(b.t.kind==1&&decide (b.v≤b.t.int))):=by unfold mo;rw[aeZ]
   cases sL with
   |false=>rw[eV (by rw[xK];rfl)];exact bY
   |true=>
    cases ab:(b.t.kind==1)with
    |false=>(with_reducible repeat' first|refine aj ?_|simp[ab]);refine bK.rng () hi (ae.step l9 (by rw[xK,ab];rfl)) ?_;exact bN
    |true=>
     by_cases hle:b.v≤b.t.int
     ·rw[eV (by rw[xK,ab];simp[hle])];exact bY
     ·(with_reducible repeat' first|refine aj ?_|simp[ab,hle]);refine bK.rng () hi (ae.step l9 (by rw[xK,ab];simp[hle])) ?_;exact bN
@[simp] theorem aqw(S:aI→Prop):aH S (jL [])=True:=eq_true (mI S [])
set_option maxRecDepth 4000 in
theorem aee(n:Nat)(s:List al)(l r:List T)(aw:l.length=r.length)(kC:s.length≤1000000)(xV:l.length≤1000000)(o:aZ (List al))(he:Ba n (hJ s++l.zip r)=some o)
  (hinv:∀c,pX n (hJ s++l.zip r) bu.new=some (true,c)→(cv c.up).Nodup∧c.up.length≤1000000∧mn c):bH ao 186 [.slice 5 .no (s.map al.e),.slice 4 .no (l.map T.e),.slice 4 .no (r.map T.e)] (gm o):=by
 obtain⟨E,dz⟩:∃E,E=hJ s++l.zip r:=⟨_,rfl⟩;rw[←dz]at he hinv;simp only[Ba,mS]at he;obtain⟨fin,zL,oE⟩:=he;have hlen:E.length=s.length+l.length:=by rw[dz];simp[hJ,aw]
 have aez:∀i b,s[i]? =some b→E.drop i=(.var b.v,b.t)::E.drop (i+1):=fun i b ad=>by
  have hi:=(e1.1 ad).1;have a7:E[i]? =some (.var b.v,b.t):=by rw[dz,List.getElem?_append_left (by simp[hJ];exact hi)];simp[hJ,ad]
  rw[kP (by omega)];rw[bZ (by omega)]at a7;simp only[dL]at a7;rw[a7]
 have aey:∀i a b,l[i]? =some a→r[i]? =some b→E.drop (s.length+i)=(a,b)::E.drop (s.length+(i+1)):=fun i a b bz ad=>by
  have hi:=(e1.1 bz).1;have a7:E[s.length+i]? =some (a,b):=by rw[dz,List.getElem?_append_right (by simp[hJ])];simp[hJ,List.getElem?_zip_eq_some,bz,ad]
  rw[kP (by omega)];rw[bZ (by omega)]at a7;simp only[dL]at a7;rw[a7];rfl
 refine bh Xx ab7 aiK fun aO=>?_;unfold Pq;simp;refine c8.new ad2 (eh.of yq (by simp) (by simp)) (fun k cs h=>by simp[Pv.look]at h) (fun k cs h=>by simp[Pv.look]at h) (by simp) ?_;rintro r0 s0 ⟨rfl,rfl⟩;refine⟨fun m hm=>.inr (by simp),?_⟩;simp[aN,az,cz,aA];refine ho (α:=bu) (fun i c=>⟨[(1,.slice 4 .no (l.map T.e)),(2,.slice 4 .no (r.map T.e)),(8,aA),(13,.slice 5 .no (s.map al.e)),(14,.int .i64 s.length),(15,.int .i64 i)],az c,[],0,[.obj 702,.obj 703,.obj 704,.obj 705,.obj 706,.obj 707]⟩) s.length (fun i c=>pX n (E.drop i) c=some fin) bu.new (by simp[aA,az];exact⟨by simp[fresh,aH,aB,b9,inObs,Pv.look,aA,az,bu.new],dZ (by simp[fresh,aH,aB,b9,inObs,Pv.look,aA,az,bu.new]),ea (by simp[fresh,aH,aB,dN,inObs,Pv.look,aA,az,bu.new]),by simp⟩) (by simpa using zL) ?_ ?_
 ·rintro c J ad;simp[aA,az];refine ho (α:=bu) (fun i c=>⟨[(1,.slice 4 .no (l.map T.e)),(2,.slice 4 .no (r.map T.e)),(8,aA),(37,.int .i64 l.length),(38,.int .i64 i)],az c,[],0,[.obj 702,.obj 703,.obj 704,.obj 705,.obj 706,.obj 707]⟩) l.length (fun i c=>pX n (E.drop (s.length+i)) c=some fin) c (by simp[aA,az];exact⟨by simp[fresh,aH,aB,b9,inObs,Pv.look,aA,az],dZ (by simp[fresh,aH,aB,b9,inObs,Pv.look,aA,az]),ea (by simp[fresh,aH,aB,dN,inObs,Pv.look,aA,az]),by simp⟩) J ?_ ?_
  ·rintro bL J ad;rw[List.drop_eq_nil_of_le (by omega)]at J;simp[pX]at J;subst J;simp at oE;obtain⟨a8,bF,b0⟩:=hinv bL zL;simp[aA,az];refine c8.ob (aef n bL o oE a8 bF b0) (cj _) (by simp only[aN,az];exact aR) (by simp only[aN,az];exact aR) (by simp[inObs,Pv.look,aN,az,aA]) ?_;rintro r0 s0 ⟨rfl,cu,rfl⟩;refine⟨Same.keys (by simp[aN,az]) (by simp[aN,az]),?_⟩;simp[cz,aN,az,gm];exact bY
  ·rintro i c hi J ad;simp only at J ad⊢;obtain⟨a,bz⟩:∃a,l[i]? =some a:=⟨_,bZ hi⟩;obtain⟨b,fV⟩:∃b,r[i]? =some b:=⟨_,bZ (by omega)⟩;have nh:∀h,(l[i]'h)=a:=fun h=>by rw[bZ hi]at bz;exact eE bz
   have cA:∀h,(r[i]'h)=b:=fun h=>by rw[bZ h]at fV;exact eE fV
   have rO:i<r.length:=by omega
   rw[aey i a b bz fV]at J;simp only[pX,mS]at J;obtain⟨bL,U,cp,ar,⟨f,dc⟩,ba,b4⟩:=J;simp only at ba b4;have key:=RX n _ _ _ _ ba;simp[aA,az];(with_reducible repeat' first|refine aj ?_|simp[nh,cA,hi,rO]);(refine c8.ob (JI c a bL U) (by first|exact cj _|exact cj ‹_› _) (by simp only[aN,az,aA,bX,b2];exact aR) (by simp only[aN,az,aA,bX,b2];exact aR) (by simp[inObs,Pv.look,aN,az,aA]) ?_;rintro r ai ⟨rfl,rfl⟩;refine⟨(Same.keys (by simp[aN,az,aA]) (by simp[aN,az,aA])),?_⟩;simp[cz,aN,az,aA]);(with_reducible repeat' first|refine aj ?_|simp[nh,cA,hi,rO]);(refine c8.ob (JI bL b cp ar) (by first|exact cj _|exact cj ‹_› _) (by simp only[aN,az,aA,bX,b2];exact aR) (by simp only[aN,az,aA,bX,b2];exact aR) (by simp[inObs,Pv.look,aN,az,aA]) ?_;rintro r ai ⟨rfl,rfl⟩;refine⟨(Same.keys (by simp[aN,az,aA]) (by simp[aN,az,aA])),?_⟩;simp[cz,aN,az,aA]);(with_reducible repeat' first|refine aj ?_|simp[nh,cA,hi,rO]);(refine h6.ob (key) (by first|exact cj _|exact cj ‹_› _) (by first|exact cj _|exact cj ‹_› _) (Same.keys (by simp[aN,az,aA]) (by simp[aN,az,aA])) (by simp only[aN,az,aA,bX,b2];exact aR) (by simp only[aN,az,aA,bX,b2];exact aR) (by simp[inObs,Pv.look,aN,az,aA]) ?_;simp[cz,aN,az,aA]);cases f with
   |false=>simp at b4;subst b4;simp at oE;subst oE;(with_reducible repeat' first|refine aj ?_|simp);simp[bt,Mf,aX,aY,aW];simp[gm]
   |true=>simp at b4;(with_reducible repeat' first|refine aj ?_|simp);refine bK.rng dc hi b4 ?_;simp[aA,az];exact⟨by simp[fresh,aH,aB,b9,inObs,Pv.look,aA,az],dZ (by simp[fresh,aH,aB,b9,inObs,Pv.look,aA,az]),ea (by simp[fresh,aH,aB,dN,inObs,Pv.look,aA,az]),by simp⟩
 ·rintro i c hi J ad;simp only at J ad⊢;obtain⟨b,aF,fJ⟩:=dT hi;rw[aez i b aF]at J;simp only[pX,mS]at J;obtain⟨bL,U,cp,ar,⟨f,dc⟩,ba,b4⟩:=J;simp only[Ar,T.foldO,gz]at U;obtain⟨⟨x,OD⟩,U,rfl⟩:=U;simp only at U ar ba b4;have key:=RX n _ _ _ _ ba;simp[aA,az];(with_reducible repeat' first|refine aj ?_|simp[fJ,hi]);(refine c8.ob (rD c b.v x OD U) (by first|exact cj _|exact cj ‹_› _) (by simp only[aN,az,aA,bX,b2];exact aR) (by simp only[aN,az,aA,bX,b2];exact aR) (by simp[inObs,Pv.look,aN,az,aA]) ?_;rintro r ai ⟨rfl,rfl⟩;refine⟨(Same.keys (by simp[aN,az,aA]) (by simp[aN,az,aA])),?_⟩;simp[cz,aN,az,aA]);(with_reducible repeat' first|refine aj ?_|simp);(refine c8.ob (JI OD b.t cp ar) (by first|exact cj _|exact cj ‹_› _) (by simp only[aN,az,aA,bX,b2];exact aR) (by simp only[aN,az,aA,bX,b2];exact aR) (by simp[inObs,Pv.look,aN,az,aA]) ?_;rintro r ai ⟨rfl,rfl⟩;refine⟨(Same.keys (by simp[aN,az,aA]) (by simp[aN,az,aA])),?_⟩;simp[cz,aN,az,aA]);(with_reducible repeat' first|refine aj ?_|refine aC (jl _) ?_|refine aD (jl _) ?_|simp);(refine h6.ob (key) (by first|exact cj _|exact cj ‹_› _) (by first|exact cj _|exact cj ‹_› _) (Same.keys (by simp[aN,az,aA]) (by simp[aN,az,aA])) (by simp only[aN,az,aA,bX,b2];exact aR) (by simp only[aN,az,aA,bX,b2];exact aR) (by simp[inObs,Pv.look,aN,az,aA]) ?_;simp[cz,aN,az,aA]);cases f with
  |false=>simp at b4;subst b4;simp at oE;subst oE;(with_reducible repeat' first|refine aj ?_|simp);simp[bt,Mf,aX,aY,aW];simp[gm]
  |true=>simp at b4;(with_reducible repeat' first|refine aj ?_|simp);refine bK.rng dc hi b4 ?_;simp[aA,az];exact⟨by simp[fresh,aH,aB,b9,inObs,Pv.look,aA,az],dZ (by simp[fresh,aH,aB,b9,inObs,Pv.look,aA,az]),ea (by simp[fresh,aH,aB,dN,inObs,Pv.look,aA,az]),by simp⟩
theorem anP(s:List al)(l r:List T)(aw:l.length=r.length)(ag:fF s)(aL:gp s)(ax:kK s)(xV:l.length≤1000000)(J:∀t∈l,t.ok=true)(U:∀t∈r,t.ok=true):
  bH ao 186 [.slice 5 .no (s.map al.e),.slice 4 .no (l.map T.e),.slice 4 .no (r.map T.e)] (gm (mgu s (l.zip r))):=by
 have dz:∀e∈hJ s++l.zip r,e.1.ok=true∧e.2.ok=true:=fun e he=>by
  rcases kQ.1 he with he|he
  ·obtain⟨b,ad,rfl⟩:=h5.1 he;have:=ax b ad;exact⟨by simpa[T.ok]using this.1,this.2⟩
  ·exact⟨J _ (List.of_mem_zip he).1,U _ (List.of_mem_zip he).2⟩
 have bn:LD (hJ s++l.zip r):=fun e he v aF=>by
  rcases aF with aF|aF
  ·exact(w8 (dz e he).1 aF).1
  ·exact(w8 (dz e he).2 aF).1
 obtain⟨n,o,a8,bF,b0⟩:=al4 _ bn;rw[r4 (YQ.1 bF)];refine aee n s l r aw (by have:=aL.1;omega) xV o a8 fun c au=>?_;obtain⟨bD,a2,a3⟩:=b0 c au;have:=T0 bD fun v aF=>by
  obtain⟨e,he,aF⟩:=a2 v aF;rcases aF with aF|aF
  ·exact w8 (dz e he).1 aF
  ·exact w8 (dz e he).2 aF
 refine⟨bD,by simp[cv]at this;omega,fun x=>?_⟩;simp[bu.sz,a3,c5]
structure eG (s:List al):Prop where
 ok:kK s
 sol:fF s
 fits:gp s
theorem eG.len{s:List al}(h:eG s):s.length≤1000000:=by have:=h.fits.1;omega
theorem eG.fit{s:List al}(h:eG s):xC s:=fun b ad=>by simp[T.fit,(h.ok b ad).2,h.fits.2 b ad]
theorem eG.mgu{s:List al}(h:eG s){E:List (T×T)}(dz:∀e∈E,e.1.ok=true∧e.2.ok=true){ai:List al}(hm:mgu s E=some ai):eG ai:=⟨ahz h.sol h.fits h.ok dz hm,(Au h.sol h.fits hm).1,(Au h.sol h.fits hm).2⟩
theorem r1(s:List al):(s.map al.b).map cT.e=s.map al.e:=by rw[List.map_map];exact List.map_congr_left fun b _=>al.b_e b
theorem pP{s:List al}(h:eG s):bH ao 86 [.slice 5 .no (s.map al.e)] (.bool true):=by have:=Np (s.map al.b);rw[r1,q9.2 ⟨s,rfl,h.ok,h.sol,h.fits⟩]at this;exact this
def agJ(t:List al)(i:Nat)(p:List T×List T):Prop:=p.1=(t.take i).map (fun b=>T.var b.v)∧p.2=(t.take i).map (·.t)
theorem ana(t:List al)(aK:t.length≤1000000):bH ao 205 [.slice 5 .no (t.map al.e)] (.tuple [.slice 4 .no ((t.map fun b=>T.var b.v).map T.e),.slice 4 .no ((t.map (·.t)).map T.e)]):=by
 generalize bd:((t.map fun b=>T.var b.v).map T.e)=R1;generalize kv:((t.map fun x=>x.t).map T.e)=R2;have gf:∀S:aI→Prop,aH S R1=True:=fun S=>by rw[←bd];exact T9 S _
 have kh:∀S:aI→Prop,aH S R2=True:=fun S=>by rw[←kv];exact T9 S _
 refine bH.mk mixed ra abR aiu (by simp) (by simp[aB,gf,kh]) fun aO=>?_;unfold O9;simp;refine ho (α:=List T×List T) (fun i p=>⟨[(10,.slice 5 .no (t.map al.e)),(11,.int .i64 t.length),(4,.slice 4 (.own (.loc 0)) (p.1.map T.e)),(5,.slice 4 (.own (.loc 1)) (p.2.map T.e)),(12,.int .i64 i)],[],[(.loc 0,⟨p.1.length,30,4,none⟩),(.loc 1,⟨p.2.length,30,4,none⟩)],2,[]⟩) t.length (agJ t) ([],[]) bN ⟨by simp,by simp⟩ (fun p ae _=>?_) (fun i p hi ae _=>?_)
 ·obtain⟨A,B⟩:=p;obtain⟨bk,jD⟩:=ae;simp only at bk jD⊢;rw[hG (eR _)]at bk jD;rw[←bd,←kv,←bk,←jD];simp;(with_reducible repeat' first|refine aj ?_|simp);simp[bt,VY,aX,aY,aW]
 ·obtain⟨A,B⟩:=p;obtain⟨bk,jD⟩:=ae;simp only at bk jD⊢;obtain⟨b,aF,fJ⟩:=dT hi;have wc:t.take (i+1)=t.take i++[b]:=by rw[List.take_succ,aF];rfl
  have JQ:A.length≤1000000:=by rw[bk];simp;omega
  have aex:B.length≤1000000:=by rw[jD];simp;omega
  simp[hi,fJ];((with_reducible repeat' first|refine aj ?_|refine aC (jl _) ?_|refine aD (jl _) ?_|simp[fJ,hi]|((first|apply bP|apply bR|apply bQ)<;>intro h<;>try simp at h))<;>(try exact cm));all_goals first|(refine⟨by unfold lim;omega,?_⟩)|skip
  (with_reducible repeat' first|refine aj ?_|simp);all_goals first|(refine⟨by unfold lim;omega,?_⟩)|skip
  (with_reducible repeat' first|refine aj ?_|simp);refine bK.rng (A++[.var b.v],B++[b.t]) hi ⟨by rw[wc,bk];simp,by rw[wc,jD];simp⟩ ?_;simp;exact⟨by simp[fresh,aH,aB,b9,inObs,Pv.look,jY],dZ (by simp[fresh,aH,aB,b9,inObs,Pv.look,jY]),ea (by simp[fresh,aH,aB,dN,inObs,Pv.look,jY]),by simp⟩
theorem amQ{s t:List al}(ag:eG s)(aK:eG t):bH ao 165 [.slice 5 .no (s.map al.e),.slice 5 .no (t.map al.e)] (gm (mgu s (hJ t))):=by
 have br:(t.map fun b=>T.var b.v).zip (t.map (·.t))=hJ t:=by rw[hJ,List.zip_map']
 have key:=anP s (t.map fun b=>T.var b.v) (t.map (·.t)) (by simp) ag.sol ag.fits ag.ok (by simpa using aK.len) (fun x af=>by
  obtain⟨b,ad,rfl⟩:=h5.1 af;have:=aK.ok b ad;simpa[T.ok]using this.1) (fun x af=>by
  obtain⟨b,ad,rfl⟩:=h5.1 af;exact(aK.ok b ad).2)
 rw[br]at key;have heq:=ana t aK.len;generalize (t.map fun b=>T.var b.v)=A at key heq;generalize (t.map fun x=>x.t)=B at key heq;refine bh ra abt ah5 fun aO=>?_;unfold OL;simp;(with_reducible repeat' first|refine aj ?_|refine aC (pP ag) ?_|refine aD (pP ag) ?_|refine aC (pP aK) ?_|refine aD (pP aK) ?_|refine aC heq ?_|refine aD heq ?_|refine aC key ?_|refine aD key ?_|simp);simp[bt,VK,aX,aY,aW];simp[gm]
theorem oY{α:Type}{t:List α}{i:Nat}{b:α}(aF:t[i]? =some b):t.take (i+1)=t.take i++[b]:=by rw[List.take_succ,aF];rfl
def gC(s t:List al):List al:=t.filter fun b=>(df s b.v).isNone
def qX(s t:List al)(i:Nat)(out:List al):Prop:=out=gC s (t.take i)
theorem amV{s t:List al}(ag:eG s)(aK:eG t):bH ao 166 [.slice 5 .no (s.map al.e),.slice 5 .no (t.map al.e)] (.slice 5 .no ((gC s t).map al.e)):=by
 have afZ:=aK.len;generalize bd:gC s t=R;refine bh ra aby aia fun aO=>?_;unfold OQ;simp;(with_reducible repeat' first|refine aj ?_|refine aC (pP ag) ?_|refine aD (pP ag) ?_|refine aC (pP aK) ?_|refine aD (pP aK) ?_|simp);refine ho (α:=List al) (fun i out=>⟨[(0,.slice 5 .no (s.map al.e)),(17,.slice 5 .no (t.map al.e)),(18,.int .i64 t.length),(5,.slice 5 (.own (.loc 0)) (out.map al.e)),(19,.int .i64 i)],[],[(.loc 0,⟨out.length,113,5,none⟩)],1,[]⟩) t.length (qX s t) [] bN (by simp[qX,gC]) (fun out ae _=>?_) (fun i out hi ae _=>?_)
 ·rw[qX,hG (eR _),bd]at ae;rw[←ae];exact bY
 ·obtain⟨b,aF,fJ⟩:=dT hi;have Cx:out.length≤1000000:=by
   have:out.length≤(t.take i).length:=by rw[ae];exact List.length_filter_le _ _
   simp at this;omega
  have qQ:=RM ag.sol.asc b.v;simp[hi,fJ];by_cases ad:mZ s b.v<0
  ·(with_reducible repeat' first|refine aj ?_|refine aC (tK s b.v ag.len) ?_|refine aD (tK s b.v ag.len) ?_|refine aC (tJ _) ?_|refine aD (tJ _) ?_|simp[fJ,hi,ad]);all_goals first|(refine⟨by unfold lim;omega,?_⟩)|skip
   (with_reducible repeat' first|refine aj ?_|simp);refine bK.rng (out++[b]) hi (by rw[qX,oY aF,gC,List.filter_append,ae];simp[gC,qQ.1 ad]) ?_;simp;exact⟨by simp[fresh,aH,aB,b9,inObs,Pv.look,jY],dZ (by simp[fresh,aH,aB,b9,inObs,Pv.look,jY]),ea (by simp[fresh,aH,aB,dN,inObs,Pv.look,jY]),by simp⟩
  ·(with_reducible repeat' first|refine aj ?_|refine aC (tK s b.v ag.len) ?_|refine aD (tK s b.v ag.len) ?_|simp[fJ,hi,ad]);refine bK.rng out hi (by
    have:df s b.v≠none:=fun e=>ad (qQ.2 e);rw[qX,oY aF,gC,List.filter_append,ae];cases e:df s b.v with
    |none=>exact absurd e this
    |some x=>simp[gC,e]) ?_
   exact bN
def F7(t:List al)(i:Nat)(out:List al):Prop:=out=t.take i
theorem XM(t:List al)(aK:t.length≤1000000):bH ao 168 [.slice 5 .no (t.map al.e)] (.slice 5 .no (t.map al.e)):=by
 refine bh ra abP ais fun aO=>?_;unfold O7;simp;refine ho (α:=List al) (fun i out=>⟨[(7,.slice 5 .no (t.map al.e)),(8,.int .i64 t.length),(3,.slice 5 (.own (.loc 0)) (out.map al.e)),(9,.int .i64 i)],[],[(.loc 0,⟨out.length,113,5,none⟩)],1,[]⟩) t.length (F7 t) [] bN (by simp[F7]) (fun out ae _=>?_) (fun i out hi ae _=>?_)
 ·rw[F7,hG (eR _)]at ae;subst ae;exact bY
 ·obtain⟨b,aF,fJ⟩:=dT hi;have Cx:out.length≤1000000:=by rw[ae];simp;omega
  simp[hi,fJ];(with_reducible repeat' first|refine aj ?_|refine aC (tJ _) ?_|refine aD (tJ _) ?_|simp[fJ,hi]);all_goals first|(refine⟨by unfold lim;omega,?_⟩)|skip
  (with_reducible repeat' first|refine aj ?_|simp);refine bK.rng (out++[b]) hi (by rw[F7,oY aF,ae]) ?_;simp;exact⟨by simp[fresh,aH,aB,b9,inObs,Pv.look,jY],dZ (by simp[fresh,aH,aB,b9,inObs,Pv.look,jY]),ea (by simp[fresh,aH,aB,dN,inObs,Pv.look,jY]),by simp⟩
def r3(t:List al)(b:al):Bool:=decide (bV t b.v=b.t.ap (bV t))
def nu(s t:List al):Bool:=s.all (r3 t)
theorem DR{t:List al}(aK:eG t)(v:Int):(bV t v).size≤5000:=by
 unfold bV;cases e:df t v with
 |none=>simp[T.size]
 |some x=>exact aK.fits.2 _ (jU e)
theorem X2(s:List al){t:List al}(ag:s.length≤1000000)(aK:eG t):bH ao 208 [.slice 5 .no (s.map al.e),.slice 5 .no (t.map al.e)] (.bool (nu s t)):=by
 refine bh ra abW aiz fun aO=>?_;unfold Pe;simp;refine dw [1,11,12] (fun i (_:Unit)=>[(13,.int .i64 i)]) s.length (kD (r3 t) s) () bN (fun k b ab=>by omega) (fun _ ae _=>?_) (fun i _ hi ae _=>?_)
 ·have:nu s t=true:=by rw[nu,gn];intro b ad;obtain⟨k,ab,e⟩:=nG ad;exact ae k b ab (by rw[bZ ab,e])
  rw[this];exact bY
 ·obtain⟨b,aF,fJ⟩:=dT hi;have eV:r3 t b=false→nu s t=false:=fun h=>by rw[Bool.eq_false_iff];intro cb;rw[nu,gn]at cb;rw[cb b (dK aF)]at h;cases h
  have aU:=yX t (.var b.v) aK.len aK.sol.asc aK.fit;have bC:=yX t b.t aK.len aK.sol.asc aK.fit;have x9:=DR aK b.v;have FZ:((T.var b.v).ap (bV t)).size≤5000:=x9;rw[if_pos FZ,gJ FZ]at aU;rw[show(T.var b.v).ap (bV t)=bV t b.v from rfl]at aU;simp[hi,fJ];by_cases br:(b.t.ap (bV t)).size≤5000
  ·rw[if_pos br,gJ br]at bC;by_cases he:bV t b.v=b.t.ap (bV t)
   ·rw[he]at aU;(with_reducible repeat' first|refine aj ?_|refine aC (jl _) ?_|refine aD (jl _) ?_|refine aC aU ?_|refine aD aU ?_|refine aC bC ?_|refine aD bC ?_|refine aC (rb _ _) ?_|refine aD (rb _ _) ?_|simp[fJ,hi,he]);exact bK.rng () hi (ae.step aF (by simp[r3,he])) bN
   ·rw[eV (by simp[r3,he])];(with_reducible repeat' first|refine aj ?_|refine aC (jl _) ?_|refine aD (jl _) ?_|refine aC aU ?_|refine aD aU ?_|refine aC bC ?_|refine aD bC ?_|refine aC (rb _ _) ?_|refine aD (rb _ _) ?_|simp[fJ,hi,he]);simp[bt,Mc,aX,aY,aW]
  ·rw[if_neg br,iB br]at bC;rw[eV (by simp only[r3,gI];intro e;rw[←e]at br;exact br x9)];(with_reducible repeat' first|refine aj ?_|refine aC (jl _) ?_|refine aD (jl _) ?_|refine aC aU ?_|refine aD aU ?_|refine aC bC ?_|refine aD bC ?_|refine aC (rb _ _) ?_|refine aD (rb _ _) ?_|simp[fJ,hi]);simp[bt,Mc,aX,aY,aW]
theorem C2(c:al→al→Int):∀a b:List al,a=[]∨b=[]→j0 c a b=ey a.length b.length
 |[],[],_=>by simp[j0,ey]
 |[],_::_,_=>by simp[j0,ey]<;>omega
 |_::_,[],_=>by simp[j0,ey]<;>omega
 |_::_,_::_,h=>by simp at h
theorem Vo(x y:al)(xs ys:List al):ev (x::xs) (y::ys)=if ey x.v y.v=0 then(if dP x.t y.t=0 then ev xs ys else dP x.t y.t)else ey x.v y.v:=by
 by_cases a8:ey x.v y.v=0
 ·by_cases bF:dP x.t y.t=0<;>simp[ev,j0,yy,a8,bF]
 ·simp[ev,j0,yy,a8]
theorem Vp(a b k:Int):ey (a-k) (b-k)=ey a b:=by unfold ey;(repeat' split)<;>omega
def KQ(d e:List al)(i:Nat):Prop:=i≤d.length∧i≤e.length∧ev (d.drop i) (e.drop i)=ev d e
theorem HR(d e:List al):bH ao 207 [.slice 5 .no (d.map al.e),.slice 5 .no (e.map al.e)] (.int .i64 (ev d e)):=by
 generalize bd:ev d e=R;refine bh ra abZ aiC fun aO=>?_;unfold Ph;have aQ:d.length≤68719476736:=by simp[eu,ed,ep,lim]at aO;omega
 have he:e.length≤68719476736:=by simp[eu,ed,ep,lim]at aO;omega
 simp;refine vF [0,1] (fun(i:Nat)=>[(5,.int .i64 i)]) (fun i=>d.length-i) (KQ d e) 0 bN ⟨by omega,by omega,by simp⟩ (fun i ae _=>?_);obtain⟨J,U,ar⟩:=ae;rw[bd]at ar;by_cases hi:i<d.length
 ·by_cases hC:i<e.length
  ·obtain⟨x,af⟩:∃x,d[i]? =some x:=⟨_,bZ hi⟩;obtain⟨y,aM⟩:∃y,e[i]? =some y:=⟨_,bZ hC⟩;have cD:∀h,(d[i]'h)=x:=fun h=>by rw[bZ hi]at af;exact eE af
   have eK:∀h,(e[i]'h)=y:=fun h=>by rw[bZ hC]at aM;exact eE aM
   have zJ:d.drop i=x::d.drop (i+1):=by rw[kP hi,cD]
   have zK:e.drop i=y::e.drop (i+1):=by rw[kP hC,eK]
   rw[zJ,zK]at ar;rw[Vo]at ar;simp[hi,hC,cD,eK];by_cases a8:ey x.v y.v=0
   ·rw[if_pos a8]at ar;by_cases bF:dP x.t y.t=0
    ·rw[if_pos bF]at ar;(with_reducible repeat' first|refine aj ?_|refine aC (oc _ _) ?_|refine aD (oc _ _) ?_|refine aC (yW _ _) ?_|refine aD (yW _ _) ?_|simp[cD,eK,hi,hC,a8,bF]);refine bK.whl (i+1) (by omega) ⟨by omega,by omega,by rw[bd];exact ar⟩ ?_;exact bN
    ·rw[if_neg bF]at ar;((with_reducible repeat' first|refine aj ?_|refine aC (oc _ _) ?_|refine aD (oc _ _) ?_|refine aC (yW _ _) ?_|refine aD (yW _ _) ?_|simp[cD,eK,hi,hC,a8,bF]|((first|apply bP|apply bR|apply bQ)<;>intro h<;>try simp at h))<;>(try exact cm));simp[bt,DC,aX,aY,aW];exact ar
   ·rw[if_neg a8]at ar;((with_reducible repeat' first|refine aj ?_|refine aC (oc _ _) ?_|refine aD (oc _ _) ?_|simp[cD,eK,hi,hC,a8]|((first|apply bP|apply bR|apply bQ)<;>intro h<;>try simp at h))<;>(try exact cm));simp[bt,DC,aX,aY,aW];exact ar
  ·have:ey d.length e.length=R:=by rw[←ar,ev,C2 _ _ _ (.inr (List.drop_eq_nil_of_le (by omega)))];rw[←Vp d.length e.length i];simp only[sw];congr 1<;>omega
   simp[hi,hC];(with_reducible repeat' first|refine aj ?_|refine aC (oc _ _) ?_|refine aD (oc _ _) ?_|simp[hi,hC]);simp[bt,DC,aX,aY,aW];exact this
 ·have:ey d.length e.length=R:=by rw[←ar,ev,C2 _ _ _ (.inl (List.drop_eq_nil_of_le (by omega)))];rw[←Vp d.length e.length i];simp only[sw];congr 1<;>omega
  simp[hi];(with_reducible repeat' first|refine aj ?_|refine aC (oc _ _) ?_|refine aD (oc _ _) ?_|simp[hi]);simp[bt,DC,aX,aY,aW];exact this
theorem XQ(a b:List al)(bz:a.length≤1000000):bH ao 169 [.slice 5 .no (a.map al.e),.slice 5 .no (b.map al.e)] (.bool (decide (a=b))):=by
 by_cases aw:a.length=b.length;rotate_left
 ·have bn:decide (a=b)=false:=by simp only[gI];rintro rfl;exact aw rfl
  have sX:((a.length:Int) !=(b.length:Int))=true:=by simp;omega
  have nS:¬(a.length:Int)=b.length:=by omega
  rw[bn];refine bh ra Rv Vc fun aO=>?_;unfold IC;exact bY
 ·generalize bd:decide (a=b)=R;refine bh ra Rv Vc fun aO=>?_;unfold IC;simp;(with_reducible repeat' first|refine aj ?_|simp[aw]);refine dw [0,1,12] (fun i (_:Unit)=>[(13,.int .i64 i)]) b.length (fun i (_:Unit)=> ∀k,k<i→a[k]? =b[k]?) () bN (fun k ab=>by omega) (fun _ ae _=>?_) (fun i _ hi ae _=>?_)
  ·have:R=true:=by
    rw[←bd,e2];apply List.ext_getElem?;intro k;by_cases ab:k<b.length
    ·exact ae k ab
    ·rw[qt (by omega),qt (by omega)]
   rw[this];exact bY
  ·obtain⟨x,af⟩:∃x,a[i]? =some x:=⟨_,bZ (by omega)⟩;obtain⟨y,aM⟩:∃y,b[i]? =some y:=⟨_,bZ hi⟩;have gk:i<a.length:=by omega
   have cD:∀h,(a[i]'h)=x:=fun h=>by rw[bZ gk]at af;exact eE af
   have eK:∀h,(b[i]'h)=y:=fun h=>by rw[bZ hi]at aM;exact eE aM
   have eV:x≠y→R=false:=fun h=>by rw[←bd,gI];rintro rfl;rw[af]at aM;cases aM;exact h rfl
   simp[hi,gk,cD,eK];by_cases a8:x.v=y.v
   ·have ts:(x.v !=y.v)=false:=by simp[a8]
    by_cases bF:x.t=y.t
    ·(with_reducible repeat' first|refine aj ?_|refine aC (rb _ _) ?_|refine aD (rb _ _) ?_|simp[cD,eK,hi,gk,a8,ts,bF]);refine bK.rng () hi (fun k ab=>?_) ?_
     ·rcases(by omega:k<i∨k=i)with h|rfl
      ·exact ae k h
      ·rw[af,aM];cases x;cases y;simp_all
     ·exact bN
    ·rw[eV (fun e=>bF (by rw[e]))];(with_reducible repeat' first|refine aj ?_|refine aC (rb _ _) ?_|refine aD (rb _ _) ?_|simp[cD,eK,hi,gk,a8,ts,bF]);simp[bt,VW,aX,aY,aW]
   ·have ts:(x.v !=y.v)=true:=by simp[a8]
    rw[eV (fun e=>a8 (by rw[e]))];exact bY
def iO(l:List (List al))(e:List al):Bool:=l.all fun d=>decide (d=e)|| !nu d e
theorem agP{l a1:List (List al)}(h:∀x,x∈l↔x∈a1)(e:List al):iO l e=iO a1 e:=by rw[qq,iO,iO,gn,gn];exact⟨fun J x af=>J x ((h x).2 af),fun J x af=>J x ((h x).1 af)⟩
def kZ(l:List (List al)):List (List al):=(asc ev l).filter (iO l)
theorem Av{l:List (List al)}{x:List al}:x∈kZ l↔x∈l∧iO l x=true:=by rw[kZ,nH,UI]
theorem UP(l:List (List al)):hN ev (kZ l):=(Ik lQ l).filter _
theorem UQ{l a1:List (List al)}(bz:hN ev a1)(hm:∀x,x∈a1↔x∈l∧iO l x=true):kZ l=a1:=(UP l).ext lQ bz fun x=>by rw[hm,Av]
structure dS where
 n:Int
 b:List al
 d:List (List al)
 k:List bM
 m:List bm
 deriving DecidableEq,Inhabited
noncomputable def gL(b:List al)(k:List bM)(m:List bm):List (List al)→aZ (List (List al))
 |[]=>some []
 |d::r=>match mgu b (hJ d)with
  |none=>gL b k m r
  |some x=>if gh x k []=none∨gi x m []=none then gL b k m r else if gC b x=[]then none else(gL b k m r).map (gC b x:: ·)
def kJ(k:List bM)(x:bm):Bool:=ll k x.v !=some 3
noncomputable def nA(s:dS):aZ dS:=match gh s.b s.k []with
 |none=>none
 |some k=>match gi s.b s.m []with
  |none=>none
  |some m=>match gL s.b k (m.filter (kJ k)) s.d with
   |none=>none
   |some L=>if(kZ L).length≤30 then some ⟨s.n,s.b,kZ L,k,m.filter (kJ k)⟩else none
def xo(t:T)(n:Int):Prop:= ∀v,t.occ v=true→v<n
def pV(l:List al)(n:Int):Prop:= ∀b∈l,b.v<n∧xo b.t n
structure vk (s:dS):Prop where
 n:0≤s.n∧s.n≤100000
 b:eG s.b
 d:∀x∈s.d,eG x
 k:fO s.k
 m:il s.m
 bb:pV s.b s.n
 db:∀x∈s.d,pV x s.n
 kb:∀x∈s.k,x.v<s.n
 mb:∀x∈s.m,x.v<s.n
def Hz(s:dS):Prop:=vk s∧nA s=some s
theorem A7{s:List al}(ag:eG s){v:Int}(aF:0≤v∧v≤100000):(bV s v).ok=true:=by have:=Hr ag.ok (t:= .var v) (by simpa[T.ok]using aF);exact this
theorem Hb{s:List al}(ag:eG s):∀{l acc a:List bM},(∀x∈l,(0≤x.v∧x.v≤100000)∧(x.k=2∨x.k=3))→fO acc→gh s l acc=some a→fO a
 |[],acc,a,_,h,he=>by simp only[gh,dL]at he;rw[←he];exact h
 |x::r,acc,a,aw,h,he=>by
  simp only[gh]at he;split at he
  ·rename_i bD ak;have af:=aw x (by simp);exact Hb ag (fun y aM=>aw y (by simp[aM])) (Ic h (A7 ag af.1) af.2 ak) he
  ·cases he
theorem Hc{s:List al}(ag:eG s):∀{l acc a:List bm},(∀x∈l,(0≤x.v∧x.v≤100000)∧jJ x.s=true)→il acc→gi s l acc=some a→il a
 |[],acc,a,_,h,he=>by simp only[gi,dL]at he;rw[←he];exact h
 |x::r,acc,a,aw,h,he=>by
  simp only[gi]at he;split at he
  ·rename_i bD ak;have af:=aw x (by simp);exact Hc ag (fun y aM=>aw y (by simp[aM])) (If h (A7 ag af.1) af.2 ak) he
  ·cases he
def n5(G:List (List dE))(l:List bm):Prop:= ∀x∈l,x.s∈G
theorem Ig{G:List (List dE)}{l a1:List bm}{t:T}{s:List dE}(h:n5 G l)(ag:s∈G)(he:l0 l t s=some a1):n5 G a1:=fun x af=>by
 rcases(C9 he x).1 af with J|⟨J,_⟩
 ·exact h x J
 ·rw[J];exact ag
theorem My{G:List (List dE)}{s:List al}:∀{l acc a:List bm},n5 G l→n5 G acc→gi s l acc=some a→n5 G a
 |[],acc,a,_,h,he=>by simp only[gi,dL]at he;rw[←he];exact h
 |x::r,acc,a,aw,h,he=>by
  simp only[gi]at he;split at he
  ·rename_i bD ak;exact My (fun y aM=>aw y (by simp[aM])) (Ig h (aw x (by simp)) ak) he
  ·cases he
theorem akc{α:Type}[DecidableEq α]:∀{G:List α} {l:List (Nat×α)},l.Nodup→(∀x∈l,x.1<100001∧x.2∈G)→l.length≤100001*G.length:=by
 intro G l ay h;have:=NP ay (l₂:=(List.range 100001).flatMap fun i=>G.map fun g=>(i,g)) (fun x af=>by obtain⟨J,U⟩:=h x af;rw[List.mem_flatMap];exact⟨x.1,List.mem_range.2 J,h5.2 ⟨x.2,U,rfl⟩⟩)
 have e:((List.range 100001).flatMap fun i=>G.map fun g=>(i,g)).length=100001*G.length:=by
  generalize 100001=n;induction n with
  |zero=>simp
  |succ n bO=>rw[List.range_succ,List.flatMap_append,o5,bO];simp[Nat.succ_mul]
 omega
theorem C7{G:List (List dE)}{l:List bm}(h:il l)(a7:n5 G l):l.length≤100001*G.length:=by
 have J:(l.map fun x=>(x.v.toNat,x.s)).Nodup:=by rw[List.nodup_iff_pairwise_ne,List.pairwise_map];refine aom (fun{a b} bz ad cF e=>cF ?_) (h.asc.nodup lR);have:=(h.at' a bz).1;have:=(h.at' b ad).1;simp only[jy]at e;cases a;cases b;simp only[bm.mk.injEq];simp only at*;exact⟨by omega,e.2⟩
 have:=akc (G:=G) J fun x af=>by obtain⟨y,aM,rfl⟩:=h5.1 af;have:=(h.at' y aM).1;exact⟨by simp;omega,a7 y aM⟩
 simpa using this
def pM(m:List bm):Prop:= ∃G:List (List dE),G.length≤687000∧n5 G m
theorem pM.len{m:List bm}(h:pM m)(hm:il m):m.length≤68719470000:=by obtain⟨G,J,U⟩:=h;have:=C7 hm U;omega
theorem pM.of{m:List bm}(h:m.length≤687000):pM m:=⟨m.map (·.s),by simpa using h,fun _ af=>List.mem_map_of_mem af⟩
theorem alE{s:List al}(h:eG s)(p:al→Bool):eG (s.filter p):=by
 have nn:∀b∈s.filter p,b∈s:=fun b ad=>(nH.1 ad).1;have ay:∀w,df s w=none→df (s.filter p) w=none:=fun w hw=>by rw[vv]at hw⊢;exact fun b ad=>hw b (nn b ad)
 exact⟨fun b ad=>h.ok b (nn b ad),⟨Yt p h.sol.asc,fun b ad w hw=>ay w (h.sol.free b (nn b ad) w hw),fun b ad=>h.sol.ori b (nn b ad)⟩,
  jT (List.length_filter_le _ _) h.fits.1,fun b ad=>h.fits.2 b (nn b ad)⟩
theorem GB{b x:List al}(h:eG x):eG (gC b x):=alE h _
theorem ahW{b x:List al}(ad:fF b)(af:fF x)(aL:gp x)(h:∀aP,gQ x aP→gQ b aP):iF b (hJ (gC b x)) (some x):=by
 refine⟨⟨af,aL⟩,fun aP=>⟨fun hr=>⟨h aP hr,fun e he=>?_⟩,fun⟨J,U⟩ c au=>?_⟩⟩
 ·obtain⟨c,au,rfl⟩:=h5.1 he;exact hr c (nH.1 au).1
 ·have kA:∀c∈x,df b c.v=none→aP c.v=c.t.ap aP:=fun c au ay=>by have:=U (.var c.v,c.t) (h5.2 ⟨c,nH.2 ⟨au,by simp[ay]⟩,rfl⟩);exact this
  have xQ:∀w,df b w=none→(bV x w).ap aP=aP w:=fun w hw=>by
   unfold bV;cases e:df x w with
   |none=>rfl
   |some t=>have hm:=jU e;exact(kA _ hm hw).symm
  cases e:df b c.v with
  |none=>exact kA c au e
  |some t=>
   have ak:aP c.v=t.ap aP:=J _ (jU e);have aE:=h (bV x) (yO af) _ (jU e);simp only at aE;have bj:bV x c.v=c.t:=by unfold bV;rw[tY af.asc au];rfl
   rw[bj]at aE;rw[ak,aE,BA];exact tW fun w hw=>(xQ w (ad.free _ (jU e) w hw)).symm
theorem ahB{s:List al}(ag:fF s)(aL:gp s){E:List (T×T)}{x:List al}(h:mgu s E=some x):∀aP,gQ x aP↔gQ s aP∧jC E aP:=by have:=Gy ag aL E;rw[h]at this;exact this.2
theorem ahy{s:List al}(ag:fF s)(aL:gp s){E:List (T×T)}{x:List al}(h:mgu s E=some x):mgu s (hJ (gC s x))=some x:=r4 (ahW ag (Au ag aL h).1 (Au ag aL h).2 fun aP hr=>((ahB ag aL h aP).1 hr).1)
theorem ahA(p:Int→Prop){E:List (T×T)}:∀{s ai:List al},fF s→gp s→(∀b∈s,p b.v∧∀w,b.t.occ w=true→p w)→(∀e∈E,(∀w,e.1.occ w=true→p w)∧∀w,e.2.occ w=true→p w)→mgu s E=some ai→∀b∈ai,p b.v∧∀w,b.t.occ w=true→p w:=by
 induction E with
 |nil=>intro s ai ag aL J _ h;rw[Lt ag aL]at h;cases h;exact J
 |cons e E bO=>
  intro s ai ag aL J U h;rw[Ls ag aL]at h;split at h
  ·rename_i s1 ak;obtain⟨V,jq⟩:∃V,V=s.flatMap (fun b=>b.v::nD b.t)++nD e.1++nD e.2:=⟨_,rfl⟩;have Sl:∀w∈V,p w:=by
    intro w hw;rw[jq]at hw;simp only[kQ,List.mem_flatMap,fR]at hw;rcases hw with(⟨b,ad,rfl|hw⟩|hw)|hw
    ·exact(J b ad).1
    ·exact(J b ad).2 w (D8.1 hw)
    ·exact(U e (by simp)).1 w (D8.1 hw)
    ·exact(U e (by simp)).2 w (D8.1 hw)
   obtain⟨n,o,iU,jx,qm⟩:=Xz V _ _ s e.1 e.2 ag aL (fun c au=>⟨by rw[jq];simp only[kQ,List.mem_flatMap];exact .inl (.inl ⟨c,au,by simp⟩),fun w hw=>by rw[jq];simp only[kQ,List.mem_flatMap];exact .inl (.inl ⟨c,au,by simp[yn hw]⟩)⟩)
    (fun w hw=>by rw[jq];simp only[kQ];exact .inl (.inr (yn hw))) (fun w hw=>by rw[jq];simp only[kQ];exact .inr (yn hw)) rfl rfl
   have yV:=r4 jx;rw[ak]at yV;subst yV;obtain⟨Xy,_⟩:=qm s1 rfl;have pE:=Au ag aL ak;exact bO pE.1 pE.2 (fun b ad=>⟨Sl _ (Xy b ad).1,fun w hw=>Sl w ((Xy b ad).2 w hw)⟩) (fun fy he=>U fy (by simp[he])) h
  ·cases h
theorem alL{s:List al}(ag:fF s){v n:Int}(h:bV s v= .var n):df s n=none:=by have:=MU ag (t:= .var v) (w:=n) (by show(bV s v).occ n=true;rw[h];simp[T.occ]);exact this
theorem N2{l a1:List bM}{t:T}{k:Int}(h:ko l t k=some a1):∀x∈a1,x∈l∨t= .var x.v:=by
 unfold ko at h;split at h
 ·rename_i n;split at h
  ·split at h
   ·cases h;exact fun x af=>.inl af
   ·cases h
  ·cases h;intro x af;rcases Gx.1 af with rfl|af
   ·exact .inr rfl
   ·exact .inl af
 ·split at h
  ·cases h;exact fun x af=>.inl af
  ·cases h
theorem Wu{s:List al}(ag:fF s):∀{l acc a:List bM},(∀x∈acc,df s x.v=none)→gh s l acc=some a→∀x∈a,df s x.v=none
 |[],acc,a,h,he=>by simp only[gh,dL]at he;rw[←he];exact h
 |y::r,acc,a,h,he=>by
  simp only[gh]at he;split at he
  ·rename_i bD ak;refine Wu ag (fun x af=>?_) he;rcases N2 ak x af with J|J
   ·exact h x J
   ·exact alL ag J
  ·cases he
theorem TB{x:bM}:∀{l:List bM},(∀y∈l,y.v<x.v)→lN x l=l++[x]
 |[],_=>rfl
 |y::l,h=>by simp only[lN,if_pos (h y (by simp)),TB (l:=l) fun z br=>h z (by simp[br]),bX]
theorem Wv{s:List al}:∀{l acc:List bM},(acc++l).Pairwise (fun x y=>x.v<y.v)→(∀x∈l,df s x.v=none)→gh s l acc=some (acc++l)
 |[],acc,_,_=>by simp[gh]
 |x::r,acc,bz,aL=>by
  have J:∀y∈acc,y.v<x.v:=fun y aM=>(List.pairwise_append.1 bz).2.2 y aM x (by simp);have U:ll acc x.v=none:=yg.2 fun y aM=>by have:=J y aM;omega
  have ar:ko acc (bV s x.v) x.k=some (acc++[x]):=by rw[A6 (aL x (by simp))];simp only[ko,U];rw[TB J]
  simp only[gh,ar];rw[Wv (by simpa using bz) fun y aM=>aL y (by simp[aM])];simp
theorem Wx{s:List al}(ag:fF s):∀{l acc a:List bm},(∀x∈acc,df s x.v=none)→gi s l acc=some a→∀x∈a,df s x.v=none
 |[],acc,a,h,he=>by simp only[gi,dL]at he;rw[←he];exact h
 |y::r,acc,a,h,he=>by
  simp only[gi]at he;split at he
  ·rename_i bD ak;refine Wx ag (fun x af=>?_) he;rcases(C9 ak x).1 af with J|⟨_,J⟩
   ·exact h x J
   ·exact MU ag (t:= .var y.v) J
  ·cases he
theorem Wy{s:List al}:∀{l acc:List bm},hN fe (acc++l)→(∀x∈l,df s x.v=none)→gi s l acc=some (acc++l)
 |[],acc,_,_=>by simp[gi]
 |x::r,acc,bz,aL=>by
  have ar:l0 acc (bV s x.v) x.s=some (acc++[x]):=by
   rw[A6 (aL x (by simp))];refine Ie rfl (atN ?_ bz) fun z=>?_
   ·simp
   ·simp only[kQ,List.mem_singleton,T.occ,dQ];refine or_congr_right ⟨fun h=>by rw[h];exact⟨rfl,rfl⟩,fun⟨J,U⟩=>?_⟩;cases z;cases x;simp_all
  simp only[gi,ar];rw[Wy (by simpa using bz) fun y aM=>aL y (by simp[aM])];simp
def DY(b:List al)(k:List bM)(m:List bm)(d:List al):Prop:= ∃x,mgu b (hJ d)=some x∧¬(gh x k []=none∨gi x m []=none)∧gC b x=d∧d≠[]
theorem Gn{b:List al}(ad:eG b){k:List bM}{m:List bm}:∀{l L:List (List al)},gL b k m l=some L→∀d∈L,DY b k m d
 |[],L,h=>by simp only[gL,dL]at h;rw[←h];simp
 |d0::r,L,h=>by
  simp only[gL]at h;split at h
  ·exact Gn ad h
  ·rename_i x af;split at h
   ·exact Gn ad h
   ·rename_i ab;split at h
    ·cases h
    ·rename_i ay;rw[gz]at h;obtain⟨NW,J,rfl⟩:=h;intro d aQ;rcases fR.1 aQ with rfl|aQ
     ·exact⟨x,ahy ad.sol ad.fits af,ab,rfl,ay⟩
     ·exact Gn ad J d aQ
theorem Uo{b:List al}{k:List bM}{m:List bm}:∀{L:List (List al)},(∀d∈L,DY b k m d)→gL b k m L=some L
 |[],_=>rfl
 |d::L,h=>by obtain⟨x,J,U,ar,ba⟩:=h d (by simp);simp only[gL,J,if_neg U,ar,if_neg ba,Uo (L:=L) fun e he=>h e (by simp[he]),oh]
theorem Gm{b:List al}(ad:eG b){k:List bM}{m:List bm}:∀{l L:List (List al)},(∀d∈l,eG d)→gL b k m l=some L→∀d∈L,eG d
 |[],L,_,h=>by simp only[gL,dL]at h;rw[←h];simp
 |d0::r,L,aw,h=>by
  simp only[gL]at h;split at h
  ·exact Gm ad (fun d aQ=>aw d (by simp[aQ])) h
  ·rename_i x af;split at h
   ·exact Gm ad (fun d aQ=>aw d (by simp[aQ])) h
   ·split at h
    ·cases h
    ·rw[gz]at h;obtain⟨NW,J,rfl⟩:=h;intro d aQ;rcases fR.1 aQ with rfl|aQ
     ·exact GB (ad.mgu (fun e he=>by obtain⟨c,au,rfl⟩:=h5.1 he;have:=(aw d0 (by simp)).ok c au;exact⟨by simpa[T.ok]using this.1,this.2⟩) af)
     ·exact Gm ad (fun d aQ=>aw d (by simp[aQ])) J d aQ
theorem Gl{b:List al}(ad:eG b){n:Int}(ay:pV b n){k:List bM}{m:List bm}:∀{l L:List (List al)},(∀d∈l,pV d n)→gL b k m l=some L→∀d∈L,pV d n
 |[],L,_,h=>by simp only[gL,dL]at h;rw[←h];simp
 |d0::r,L,aw,h=>by
  simp only[gL]at h;split at h
  ·exact Gl ad ay (fun d aQ=>aw d (by simp[aQ])) h
  ·rename_i x af;split at h
   ·exact Gl ad ay (fun d aQ=>aw d (by simp[aQ])) h
   ·split at h
    ·cases h
    ·rw[gz]at h;obtain⟨NW,J,rfl⟩:=h;intro d aQ;rcases fR.1 aQ with rfl|aQ
     ·have:=ahA (fun v=>v<n) ad.sol ad.fits ay (fun e he=>by obtain⟨c,au,rfl⟩:=h5.1 he;have:=aw d0 (by simp) c au;exact⟨fun w hw=>by simp[T.occ]at hw;subst hw;exact this.1,this.2⟩) af
      exact fun c au=>this c (nH.1 au).1
     ·exact Gl ad ay (fun d aQ=>aw d (by simp[aQ])) J d aQ
theorem ahE{L:List (List al)}:kZ (kZ L)=kZ L:=UQ (UP L) fun x=>by rw[Av,and_assoc];refine⟨fun⟨J,U⟩=>⟨J,U,?_⟩,fun⟨J,U,_⟩=>⟨J,U⟩⟩;rw[iO,gn]at U⊢;exact fun d aQ=>U d (Av.1 aQ).1
theorem TS{b:List al}(ad:eG b){n:Int}(ay:pV b n){v w:Int}(aF:v<n)(h:(bV b v).occ w=true):w<n:=by
 unfold bV at h;cases e:df b v with
 |none=>rw[e]at h;simp[T.occ]at h;omega
 |some t=>rw[e]at h;exact(ay _ (jU e)).2 w h
theorem Wt{b:List al}(ad:eG b){n:Int}(ay:pV b n):∀{l acc a:List bM},(∀x∈l,x.v<n)→(∀x∈acc,x.v<n)→gh b l acc=some a→∀x∈a,x.v<n
 |[],acc,a,_,h,he=>by simp only[gh,dL]at he;rw[←he];exact h
 |y::r,acc,a,aw,h,he=>by
  simp only[gh]at he;split at he
  ·rename_i bD ak;refine Wt ad ay (fun x af=>aw x (by simp[af])) (fun x af=>?_) he;rcases N2 ak x af with J|J
   ·exact h x J
   ·exact TS ad ay (aw y (by simp)) (by rw[J];simp[T.occ])
  ·cases he
theorem Ww{b:List al}(ad:eG b){n:Int}(ay:pV b n):∀{l acc a:List bm},(∀x∈l,x.v<n)→(∀x∈acc,x.v<n)→gi b l acc=some a→∀x∈a,x.v<n
 |[],acc,a,_,h,he=>by simp only[gi,dL]at he;rw[←he];exact h
 |y::r,acc,a,aw,h,he=>by
  simp only[gi]at he;split at he
  ·rename_i bD ak;refine Ww ad ay (fun x af=>aw x (by simp[af])) (fun x af=>?_) he;rcases(C9 ak x).1 af with J|⟨_,J⟩
   ·exact h x J
   ·exact TS ad ay (aw y (by simp)) J
  ·cases he
theorem alI{s ai:dS}(h:vk s)(he:nA s=some ai):Hz ai∧ai.n=s.n∧ai.b=s.b:=by
 unfold nA at he;split at he
 ·cases he
 rename_i k ab;split at he
 ·cases he
 rename_i m hm;split at he
 ·cases he
 rename_i L jE;split at he;rotate_left
 ·cases he
 rename_i lz;cases he;have aU:=Hb h.b h.k.at' ⟨by simp,by simp⟩ ab;have m1:=Hc h.b h.m.at' ⟨by simp,by simp[hN]⟩ hm;have m2:il (m.filter (kJ k)):=⟨fun x af=>m1.at' x (nH.1 af).1,Yt _ m1.asc⟩;have dd:=Gn h.b jE;have x5:=Gm h.b h.d jE;refine⟨⟨⟨h.n,h.b,fun x af=>x5 x (Av.1 af).1,aU,m2,h.bb,fun x af=>Gl h.b h.bb h.db jE x (Av.1 af).1,Wt h.b h.bb h.kb (by simp) ab,fun x af=>Ww h.b h.bb h.mb (by simp) hm x (nH.1 af).1⟩,?_⟩,rfl,rfl⟩;unfold nA;have ak:gh s.b k []=some k:=Wv (acc:=[]) aU.asc (Wu h.b.sol (by simp) ab);have aE:gi s.b (m.filter (kJ k)) []=some (m.filter (kJ k)):=Wy (acc:=[]) m2.asc fun x af=>Wx h.b.sol (by simp) hm x (nH.1 af).1;have bj:(m.filter (kJ k)).filter (kJ k)=m.filter (kJ k):=by rw[List.filter_filter];simp
 have c2:gL s.b k (m.filter (kJ k)) (kZ L)=some (kZ L):=Uo fun d aQ=>dd d (Av.1 aQ).1;simp only[ak,aE,bj,c2,ahE,if_pos lz]
theorem tg{α:Type}{s:List α}{i:Nat}{t:α}(h:s[i]? =some t):s.drop i=t::s.drop (i+1):=by obtain⟨hi,e⟩:=e1.1 h;rw[kP hi,e]
def qi(L:List (List al))(a:List (List al))(e:List al):List (List al):=if iO L e=true then kk ev e a else a
theorem Lu{L:List (List al)}:∀(xs:List (List al)) {a:List (List al)},hN ev a→hN ev (xs.foldl (qi L) a)
 |[],_,h=>h
 |x::xs,a,h=>Lu xs (a:=qi L a x) (by unfold qi;split<;>first|exact KK lQ h|exact h)
theorem US{L:List (List al)}{x:List al}:∀(xs:List (List al)) {a:List (List al)},x∈xs.foldl (qi L) a↔x∈a∨(x∈xs∧iO L x=true)
 |[],a=>by simp
 |y::xs,a=>by
  rw[List.foldl_cons,US xs,fR];unfold qi;by_cases ab:iO L y=true
  ·rw[if_pos ab,Gw lQ];constructor
   ·rintro((rfl|h)|h)
    ·exact .inr ⟨.inl rfl,ab⟩
    ·exact .inl h
    ·exact .inr ⟨.inr h.1,h.2⟩
   ·rintro(h|⟨rfl|J,U⟩)
    ·exact .inl (.inr h)
    ·exact .inl (.inl rfl)
    ·exact .inr ⟨J,U⟩
  ·rw[if_neg ab];constructor
   ·rintro(h|h)
    ·exact .inl h
    ·exact .inr ⟨.inr h.1,h.2⟩
   ·rintro(h|⟨rfl|J,U⟩)
    ·exact .inl h
    ·exact absurd U ab
    ·exact .inr ⟨J,U⟩
theorem UR{L:List (List al)}:∀(xs a:List (List al)),(xs.foldl (qi L) a).length≤a.length+xs.length
 |[],a=>by simp
 |y::xs,a=>by
  have J:=UR (L:=L) xs (qi L a y);have U:(qi L a y).length≤a.length+1:=by
   unfold qi;split
   ·exact KM _ _
   ·omega
  simp only[List.foldl_cons,o6];omega
theorem ahG(L:List (List al)):kZ L=L.foldl (qi L) []:=UQ (Lu L (by simp[hN])) fun x=>by rw[US];simp
def ye(L:List (List al))(i:Nat)(a:List (List al)):Prop:=a=(L.take i).foldl (qi L) []
theorem ye.step{L:List (List al)}{i:Nat}{a:List (List al)}(h:ye L i a){e:List al}(he:L[i]? =some e):ye L (i+1) (qi L a e):=by rw[ye,oY he,List.foldl_append,h];rfl
def wy(e d:List al):Bool:=decide (d=e)|| !nu d e
def p9(L:List (List al))(e:List al)(j:Nat)(k:Bool):Prop:=k=(L.take j).all (wy e)
theorem p9.step{L:List (List al)}{e:List al}{j:Nat}{k:Bool}(h:p9 L e j k){d:List al}(aQ:L[j]? =some d):p9 L e (j+1) (k&&wy e d):=by rw[p9,oY aQ,List.all_append,h];simp
def F8(a:List (List al))(e:List al)(k:Nat):Prop:=k≤a.length∧∀c,a[k]? =some c→0≤ev c e
theorem F8.fin{a:List (List al)}{e:List al}{k:Nat}(h:F8 a e k)(bz:hN ev a)(au:∀d,0<k→a[k-1]? =some d→ev d e<0):kk ev e a=if(match a[k]? with|some y=>decide (ev y e=0)|none=>false)=true then a else a.take k++e::a.drop k:=
 (KL lQ e a k (fun i c hi kg=>by
  have ab:=h.1;obtain⟨d,aQ⟩:∃d,a[k-1]? =some d:=⟨_,bZ (by omega)⟩;have J:=au d (by omega) aQ;rcases Nat.lt_or_ge i (k-1)with U|U
  ·have sU:=(e1.1 kg);have my:=(e1.1 aQ);have:=o7.1 bz i (k-1) sU.1 my.1 U;rw[sU.2,my.2]at this;exact lQ.ltr this (by omega)
  ·have:i=k-1:=by omega
   subst this;rw[aQ]at kg;cases kg;exact J) h.2 h.1).trans (by cases a[k]?<;>rfl)
theorem TV(L:List (List al))(e:List al):iO L e=L.all (wy e):=rfl
theorem W6{l:List (List al)}{x:List al}:x∈oT ev l↔x∈l:=(yP ev l).mem_iff
theorem ahF(l:List (List al)):kZ l=(cG none (oT ev l)).filter (iO (oT ev l)):=by have h:iO l=iO (oT ev l):=funext fun e=>agP (fun x=>W6.symm) e;rw[kZ,h];rfl
def mF(s:List (List al))(i:Nat)(acc:List (List al)):Prop:=acc++(cG (if i=0 then none else s[i-1]?) (s.drop i)).filter (iO s)=(cG none s).filter (iO s)
def rh:dS:=⟨0,[],[],[],[]⟩
noncomputable def A5(s:dS):dS:=match gh s.b s.k []with
 |none=>rh
 |some k=>match gi s.b s.m []with
  |none=>rh
  |some m=>match gL s.b k (m.filter (kJ k)) s.d with
   |none=>rh
   |some L=>⟨s.n,s.b,kZ L,k,m.filter (kJ k)⟩
theorem alJ{s ai:dS}(h:nA s=some ai):A5 s=ai:=by
 unfold nA at h;unfold A5;cases J:gh s.b s.k []with
 |none=>rw[J]at h;cases h
 |some k=>
  rw[J]at h;simp only at h⊢;cases U:gi s.b s.m []with
  |none=>rw[U]at h;cases h
  |some m=>
   rw[U]at h;simp only at h⊢;cases ar:gL s.b k (m.filter (kJ k)) s.d with
   |none=>rw[ar]at h;cases h
   |some L=>
    rw[ar]at h;simp only at h⊢;split at h
    ·cases h;rfl
    ·cases h
theorem YU{k:List bM}(ab:fO k)(v:Int):(ko k (.var v) 2).isSome=(ll k v !=some 3):=by
 unfold ko;simp only;cases h:ll k v with
 |none=>simp
 |some x=>have:=(ab.at' _ (T2 h)).2;simp only at this;rcases this with rfl|rfl<;>simp
theorem YY{k:List bM}(bz:k.Pairwise fun x y=>x.v<y.v)(v:Int):(k.any fun x=>x.v==v&&x.k==3)=(ll k v==some 3):=by
 rw[qq,List.any_eq_true,dQ];constructor
 ·rintro⟨x,af,h⟩;simp only[cC,dQ]at h;have:=Gf bz af;rw[h.1,h.2]at this;exact this
 ·intro h;exact⟨_,T2 h,by simp⟩
theorem K8{b:List al}{k:List bM}{m:List bm}{d:List al}{r:List (List al)}(h:mgu b (hJ d)=none):gL b k m (d::r)=gL b k m r:=by rw[gL,h]
theorem K7{b:List al}{k:List bM}{m:List bm}{d x:List al}{r:List (List al)}(h:mgu b (hJ d)=some x)(ab:gh x k []=none∨gi x m []=none):gL b k m (d::r)=gL b k m r:=by rw[gL,h];simp only[if_pos ab]
theorem K6{b:List al}{k:List bM}{m:List bm}{d x:List al}{r:List (List al)}(h:mgu b (hJ d)=some x)(ab:¬(gh x k []=none∨gi x m []=none))(ay:gC b x=[]):gL b k m (d::r)=none:=by rw[gL,h];simp only[if_neg ab,if_pos ay]
theorem K9{b:List al}{k:List bM}{m:List bm}{d x:List al}{r:List (List al)}(h:mgu b (hJ d)=some x)(ab:¬(gh x k []=none∨gi x m []=none))(ay:gC b x≠[]):gL b k m (d::r)=(gL b k m r).map (gC b x:: ·):=by rw[gL,h];simp only[if_neg ab,if_neg ay]
def qa(b:List al)(k:List bM)(m:List bm)(D:List (List al))(i:Nat)(a:List (List al)):Prop:=a.length≤i∧(∀x∈a,eG x)∧(gL b k m (D.drop i)).map (a++ ·)=gL b k m D
def iH(n:Int):T→Bool
 | .var v=>decide (v<n)
 | .pair a b=>iH n a&&iH n b
 |_=>true
theorem It{n:Int}:∀{t:T},iH n t=true↔xo t n
 | .var v=>by simp[iH,xo,T.occ]
 | .pair a b=>by simp only[iH,cC,It (t:=a),It (t:=b),xo,T.occ,lX];exact⟨fun h v aF=>aF.elim (h.1 v) (h.2 v),fun h=>⟨fun v aF=>h v (.inl aF),fun v aF=>h v (.inr aF)⟩⟩
 | .nil=>by simp[iH,xo,T.occ]
 | .sym _=>by simp[iH,xo,T.occ]
 | .num _=>by simp[iH,xo,T.occ]
def kT(n:Int)(b:al):Bool:=decide (b.v<n)&&iH n b.t
theorem vw{n:Int}{s:List al}:s.all (kT n)=true↔pV s n:=by simp[gn,kT,pV,It]
def sl(v m:Int):Int:=if m<v+1 then v+1 else m
theorem NA{n:Int}:∀(t:T) (m:Int),t.fold sl m≤n↔m≤n∧iH n t=true
 | .var v,m=>by simp only[T.fold,sl,iH,e2];split<;>omega
 | .pair a b,m=>by simp only[T.fold,NA b,NA a,iH,cC,and_assoc]
 | .nil,m=>by simp[T.fold,iH]
 | .sym _,m=>by simp[T.fold,iH]
 | .num _,m=>by simp[T.fold,iH]
def Ea(v m:Int):aZ Int:=if 0≤v∧v≤100000 then some (sl v m)else none
theorem Nz:∀(t:T) (m:Int),t.ok=true→t.foldO Ea m=some (t.fold sl m)
 | .var v,m,h=>by
  have:0≤v∧v≤100000:=by simpa[T.ok]using h
  simp[T.foldO,T.fold,Ea,this]
 | .pair a b,m,h=>by
  have J:a.ok=true∧b.ok=true:=by simpa[T.ok]using h
  simp[T.foldO,T.fold,Nz a m J.1,Nz b _ J.2]
 | .nil,m,_=>rfl
 | .sym _,m,_=>rfl
 | .num _,m,_=>rfl
structure hO where
 n:Int
 b:List cT
 d:List (List cT)
 k:List bM
 m:List bm
def dS.r(s:dS):hO:=⟨s.n,s.b.map al.b,s.d.map fun x=>x.map al.b,s.k,s.m⟩
def oU(r:hO):Prop:= ∃s:dS,r=s.r∧Hz s
def kf(n:Int)(x:List cT):Prop:= ∃s:List al,x=s.map al.b∧eG s∧pV s n
structure Mw (r:hO):Prop where
 n:0≤r.n∧r.n≤100000
 b:kf r.n r.b
 d:∀x∈r.d,kf r.n x
 k:fO r.k
 m:il r.m
 kb:∀x∈r.k,x.v<r.n
 mb:∀x∈r.m,x.v<r.n
theorem oU.raw{r:hO}(h:oU r):Mw r:=by obtain⟨s,rfl,J,_⟩:=h;exact⟨J.n,⟨s.b,rfl,J.b,J.bb⟩,fun x af=>by obtain⟨y,aM,rfl⟩:=h5.1 af;exact⟨y,rfl,J.d y aM,J.db y aM⟩,J.k,J.m,J.kb,J.mb⟩
theorem rq:∀{a b:List al},a.map al.b=b.map al.b→a=b
 |[],b,h=>by cases b<;>simp at h⊢
 |x::a,[],h=>by simp at h
 |x::a,y::b,h=>by simp only[gO,qs,al.b,cT.mk.injEq]at h;rw[rq h.2];have:=yT h.1.2;obtain⟨⟨J,_⟩,_⟩:=h;cases x;cases y;simp_all
theorem Oo:∀{a b:List (List al)},(a.map fun x=>x.map al.b)=(b.map fun x=>x.map al.b)→a=b
 |[],b,h=>by cases b<;>simp at h⊢
 |x::a,[],h=>by simp at h
 |x::a,y::b,h=>by rw[gO,gO,qs]at h;rw[Oo h.2,rq h.1]
theorem dS.r_inj{s t:dS}(h:s.r=t.r):s=t:=by obtain⟨n,b,d,k,m⟩:=s;obtain⟨n',b5,cg,bS,ht⟩:=t;simp only[dS.r,hO.mk.injEq]at h;obtain⟨J,U,ar,ba,b4⟩:=h;rw[J,rq U,Oo ar,ba,b4]
theorem Q4{n:Int}:∀{d:List (List cT)},(∀x∈d,kf n x)→∃D:List (List al),d=(D.map fun x=>x.map al.b)∧(∀x∈D,eG x)∧∀x∈D,pV x n
 |[],_=>⟨[],rfl,by simp,by simp⟩
 |x::d,h=>by
  obtain⟨D,J,U,ar⟩:=Q4 (d:=d) fun y aM=>h y (by simp[aM]);obtain⟨s,ak,aE,bj⟩:=h x (by simp);refine⟨s::D,by rw[J,ak];rfl,fun y aM=>?_,fun y aM=>?_⟩
  ·rcases fR.1 aM with rfl|aM
   ·exact aE
   ·exact U y aM
  ·rcases fR.1 aM with rfl|aM
   ·exact bj
   ·exact ar y aM
theorem W8{s:dS}(h:vk s):oU s.r↔nA s=some s:=by
 constructor
 ·rintro⟨t,e,_,U⟩;rw[dS.r_inj e];exact U
 ·intro U;exact⟨s,rfl,h,U⟩
theorem wY{l:List cT}:H8 l↔∃s:List al,l=s.map al.b∧eG s:=⟨fun⟨s,J,U,ar,ba⟩=>⟨s,J,U,ar,ba⟩,fun⟨s,J,U⟩=>⟨s,J,U.ok,U.sol,U.fits⟩⟩
def rv{α:Type}(a b:List α)(i:Nat)(_:Unit):Prop:= ∀k,k<i→a[k]? =b[k]?
theorem rv.fin{α:Type}{a b:List α}(h:rv a b b.length ())(aw:a.length=b.length):a=b:=by
 apply List.ext_getElem?;intro k;by_cases ab:k<b.length
 ·exact h k ab
 ·rw[qt (by omega),qt (by omega)]
theorem rv.step{α:Type}{a b:List α}{i:Nat}(h:rv a b i ()){x:α}(bz:a[i]? =some x)(ad:b[i]? =some x):rv a b (i+1) ():=fun k ab=>by
 rcases(by omega:k<i∨k=i)with J|rfl
 ·exact h k J
 ·rw[bz,ad]
def rX{α:Type}(p:α→Prop)(s:List α)(i:Nat)(_:Unit):Prop:= ∀k b,k<i→s[k]? =some b→p b
theorem rX.step{α:Type}{p:α→Prop}{s:List α}{i:Nat}(h:rX p s i ()){b:α}(ad:s[i]? =some b)(bG:p b):rX p s (i+1) ():=fun k c ab au=>by
 rcases(by omega:k<i∨k=i)with J|rfl
 ·exact h k c J au
 ·rw[ad]at au;cases au;exact bG
theorem rX.fin{α:Type}{p:α→Prop}{s:List α}(h:rX p s s.length ()):∀b∈s,p b:=fun b ad=>by obtain⟨k,ab,e⟩:=nG ad;exact h k b ab (by rw[bZ ab,e])
def OM:C:=(aa [be 2 false] (.seq (aa [I 5 0,b7 6 5,bJ 7 0] (e0 8 7 6 (.seq (.block 1 (aa [I 9 7,cd 10 2 5 7,a6 11 2 10,cW (.alloc 4 none (.agg [.int .i64 0,.int .i64 0])),I 3 9,bT 2 4 11] (.seq (.drawn true 46 [aG 12 0 1 4,av 13 1 12,aS 14 .lss 13 0,I 15 14,aq 15 false (aG 16 0 1 4),aq 15 false (av 17 1 16),aq 15 false (aS 18 .gtr 17 100000),cY 19 15 18,I 20 19,aq 20 false (aG 21 1 1 4),aq 20 false (av 22 1 21),aq 20 false (aS 23 .neq 22 2),bW 20 false 24 23,aq 24 true (aG 25 1 1 4),aq 24 true (av 26 1 25),aq 24 true (aS 27 .neq 26 3),aq 20 false (du 28 24 27),cY 29 20 28,I 30 29,bW 30 false 31 3,aq 30 false (aS 32 .gtr 31 0),bW 30 false 33 32,bW 33 true 34 0,bW 33 true 35 3,aq 33 true (aS 36 .sub 35 1),aq 33 true (cd 37 2 34 36),aq 33 true (aG 38 0 1 37),aq 33 true (av 39 1 38),aq 33 true (aG 40 0 1 4),aq 33 true (av 41 1 40),aq 33 true (bg 42 .geq 39 41),aq 30 false (du 43 33 42),cY 44 30 43]) (aT 44 (aa [be 2 false] .ret) .skip)))) (.region [aS 45 .add 7 1,I 7 45])))) (aa [be 2 true] .ret)))
@[simp] def VL:List bA:=[.tmp 2]
def ON:C:=(aa [be 2 false] (.seq (aa [I 5 0,b7 6 5,bJ 7 0] (e0 8 7 6 (.seq (.block 1 (aa [I 9 7,cd 10 2 5 7,a6 11 2 10,cW (.alloc 4 none (.agg [.int .i64 0,.str []])),I 3 9,bT 2 4 11] (.seq (.drawn true 41 [aG 12 0 1 4,av 13 1 12,aS 14 .lss 13 0,I 15 14,aq 15 false (aG 16 0 1 4),aq 15 false (av 17 1 16),aq 15 false (aS 18 .gtr 17 100000),cY 19 15 18,I 20 19,aq 20 false (aG 21 1 1 4),aq 20 false (av 22 1 21),aq 20 false (cJ 23 160 22),aq 20 false (cy 24 23),cY 25 20 24,I 26 25,bW 26 false 27 3,aq 26 false (aS 28 .gtr 27 0),bW 26 false 29 28,bW 29 true 30 0,bW 29 true 31 3,aq 29 true (aS 32 .sub 31 1),aq 29 true (cd 33 2 30 32),aq 29 true (a6 34 2 33),aq 29 true (a6 35 2 4),aq 29 true (b3 36 161 34 35),aq 29 true (cy 37 36),aq 26 false (du 38 29 37),cY 39 26 38]) (aT 39 (aa [be 2 false] .ret) .skip)))) (.region [aS 40 .add 7 1,I 7 40])))) (aa [be 2 true] .ret)))
@[simp] def L6:List bA:=[.tmp 2]
def qE:C:=(aa [cM 6 2,eN 8 2,be 9 false] (.seq (aa [I 15 0,cJ 16 86 15,cy 17 16,I 18 17,aq 18 false (a6 19 4 6),aq 18 false (cJ 20 64 19),aq 18 false (cy 21 20),cY 22 18 21,I 23 22,bW 23 false 24 1,aq 23 false (cJ 25 87 24),aq 23 false (cy 26 25),cY 27 23 26,I 28 27,bW 28 false 29 3,aq 28 false (aS 30 .neq 29 2),bW 28 false 31 30,bW 31 true 32 3,aq 31 true (aS 33 .neq 32 3),aq 28 false (du 34 31 33),cY 35 28 34] (aT 35 (aa [eN 8 2,be 9 false] .ret) .skip)) (aa [I 37 0,a6 38 4 6,b3 39 69 37 38,I 36 39,cH 40 0 36,cH 41 1 36,dg 10 ds,bT 4 10 40,I 11 41] (.seq (aa [I 42 11,cy 43 42] (aT 43 (aa [eN 8 2,be 9 false] .ret) .skip)) (aa [cW (.bslm 44 (some 803) 2 98 []),I 45 1,cW (.appm 46 none 2 98 (.t 44) (.t 45)),cW (.alloc 12 (some 804) (.slice 2 .nil [])),bT 1 12 46] (.seq (aa [aG 47 0 1 10,av 48 1 47,aS 49 .neq 48 1] (aT 49 (.seq (aa [aG 50 0 1 10,av 51 1 50,I 52 3,bg 53 .neq 51 52] (aT 53 (aa [eN 8 2,be 9 false] .ret) .skip)) (.seq (.pubB 12 (.region [av 54 1 12,I 8 54,be 9 true])) .ret)) .skip)) (.seq (aa [I 55 1,b7 56 55,bJ 57 0] (e0 58 57 56 (.seq (.block 1 (aa [cd 59 2 55 57,a6 60 2 59,cW (.alloc 14 none (.agg [.int .i64 0,.int .i64 0])),bT 2 14 60] (aa [aG 61 0 1 14,av 62 1 61,aG 63 1 1 10,av 64 1 63,bg 65 .eql 62 64] (aT 65 (.seq (aa [aG 66 1 1 14,av 67 1 66,I 68 3,bg 69 .neq 67 68] (aT 69 (aa [eN 8 2,be 9 false] .ret) .skip)) (.seq (.pubB 12 (.region [av 70 1 12,I 8 70,be 9 true])) .ret)) .skip)))) (.region [aS 71 .add 57 1,I 57 71])))) (aa [av 72 1 12,aG 73 1 1 10,av 74 1 73,I 75 3,ca 76 (.build [.int .i64 0,.int .i64 0] [(0,1,(.t 74)),(1,1,(.t 75))]),eD 77 2 98 [.t 76],cW (.appm 78 none 2 98 (.t 72) (.t 77)),bT 1 12 78] (aa [av 79 1 12,ca 80 (.mkif 48 (.t 79)),ca 81 (.mkf 183 [.t 12]),b3 82 182 80 81] (.seq (.pubB 12 (.region [av 83 1 12,I 8 83,be 9 true])) .ret))))))))))
@[simp] def j2:List bA:=[.tmp 8,.tmp 9]
def EC:C:=(aa [cM 6 2,cW (.box 7 (some 811) (.t 3)),eN 8 2,be 9 false] (.seq (aa [I 17 0,cJ 18 86 17,cy 19 18,I 20 19,aq 20 false (a6 21 4 6),aq 20 false (cJ 22 64 21),aq 20 false (cy 23 22),cY 24 20 23,I 25 24,bW 25 false 26 1,aq 25 false (cJ 27 88 26),aq 25 false (cy 28 27),cY 29 25 28,I 30 29,aq 30 false (av 31 1 7),aq 30 false (cJ 32 160 31),aq 30 false (cy 33 32),cY 34 30 33] (aT 34 (aa [eN 8 2,be 9 false] .ret) .skip)) (aa [I 36 0,a6 37 4 6,b3 38 69 36 37,I 35 38,cH 39 0 35,cH 40 1 35,dg 10 ds,bT 4 10 39,I 11 40] (.seq (aa [I 41 11,cy 42 41,I 43 42,aq 43 false (a6 44 4 10),aq 43 false (av 45 1 7),aq 43 false (b3 46 177 44 45),cY 47 43 46] (aT 47 (aa [eN 8 2,be 9 false] .ret) .skip)) (aa [cW (.mkmap 48 (some 812)),cW (.alloc 12 (some 813) (.junk)),bT 1 12 48] (.seq (aa [I 49 1,b7 50 49,bJ 51 0] (e0 52 51 50 (.seq (.block 1 (aa [cd 53 2 49 51,a6 54 2 53,cW (.alloc 14 none (.agg [.int .i64 0,.str []])),bT 2 14 54] (.region [av 55 1 12,a6 56 2 14,cW (.mput (.a [false,true]) (.t 55) (.t 56) (.c (.bool true)))]))) (.region [aS 57 .add 51 1,I 51 57])))) (aa [a6 58 4 10,ca 59 (.mkf 184 [.t 12,.t 7]),b3 60 134 58 59] (aa [cW (.bslm 61 (some 814) 2 100 []),cW (.alloc 15 (some 815) (.slice 2 .nil [])),bT 1 15 61] (.seq (aa [av 62 1 12,cW (.range 63 none (.t 62))] (.block 2 (.loop (aa [⟨none,.next 64 (.t 63)⟩,cH 65 0 64] (.seq (aT 65 .skip (.exit 2)) (.block 3 (aa [ca 66 (.ment (.t 63)),cH 67 0 66,cW (.alloc 16 none (.agg [.int .i64 0,.str []])),bT 2 16 67] (.region [av 68 1 15,a6 69 2 16,eD 70 2 100 [.t 69],cW (.appm 71 none 2 100 (.t 68) (.t 70)),bT 1 15 71])))))))) (aa [av 72 1 15,ca 73 (.mkif 49 (.t 72)),ca 74 (.mkf 185 [.t 15]),b3 75 182 73 74] (.seq (.pubB 15 (.region [av 76 1 15,I 8 76,be 9 true])) .ret)))))))))))
@[simp] def GS:List bA:=[.tmp 8,.tmp 9]
def EE:C:=(aa [cM 2 0,cM 3 1,be 4 false] (aa [aG 5 0 1 2,av 6 1 5,aG 7 0 1 3,av 8 1 7,bg 9 .lss 6 8,I 10 9,aq 10 false (aG 11 0 1 2),aq 10 false (av 12 1 11),aq 10 false (aG 13 0 1 3),aq 10 false (av 14 1 13),aq 10 false (bg 15 .eql 12 14),bW 10 false 16 15,aq 16 true (aG 17 1 1 2),aq 16 true (av 18 1 17),aq 16 true (aG 19 1 1 3),aq 16 true (av 20 1 19),aq 16 true (bg 21 .lss 18 20),aq 10 false (du 22 16 21),cY 23 10 22,I 4 23] .ret))
@[simp] def aks:List bA:=[.tmp 4]
def EG:C:=(aa [cM 2 0,be 4 false] (.seq (aa [aG 5 0 1 2,av 6 1 5,aS 7 .eql 6 4] (aT 7 (aa [aG 8 3 1 2,av 9 1 8,jR 10 4 9 0,a6 11 4 10,I 12 1,b3 13 177 11 12,I 14 13,aq 14 false (aG 15 3 1 2),aq 14 false (av 16 1 15),aq 14 false (jR 17 4 16 1),aq 14 false (a6 18 4 17),bW 14 false 19 1,aq 14 false (b3 20 177 18 19),cY 21 14 20,I 4 21] .ret) .skip)) (aa [aG 22 0 1 2,av 23 1 22,aS 24 .eql 23 2,I 25 24,aq 25 true (aG 26 2 1 2),aq 25 true (av 27 1 26),bW 25 true 28 1,aq 25 true (bg 29 .eql 27 28),du 30 25 29,I 4 30] .ret)))
@[simp] def GZ:List bA:=[.tmp 4]
def OI:C:=(aa [be 5 false] (.seq (.drawn true 17 [av 6 1 2,I 7 0,cd 8 2 6 7,aG 9 0 1 8,av 10 1 9,av 11 1 2,I 12 1,cd 13 2 11 12,aG 14 0 1 13,av 15 1 14,bg 16 .lss 10 15,I 5 16]) .ret))
@[simp] def VG:List bA:=[.tmp 5]
def OG:C:=(.region [av 4 1 1,I 5 0,av 6 1 2,ca 7 (.build [.int .i64 0,.str []] [(0,1,(.t 5)),(1,1,(.t 6))]),cW (.mput (.a [false,true]) (.t 4) (.t 7) (.c (.bool true)))])
@[simp] def VE:List bA:=[]
def OH:C:=(aa [be 5 false] (.seq (.drawn true 15 [av 6 1 2,I 7 0,cd 8 2 6 7,a6 9 2 8,av 10 1 2,I 11 1,cd 12 2 10 11,a6 13 2 12,b3 14 161 9 13,I 5 14]) .ret))
@[simp] def VF:List bA:=[.tmp 5]
def tH:List (Nat×dF):=[
 (3,⟨1,8,.int .i64,.int .i64 0⟩),
 (9,⟨1,16,.str,.str []⟩),
 (27,⟨1,24,.slice 30,.slice 4 .nil []⟩),
 (30,⟨4,56,.struct [(0,3),(1,3),(2,9),(3,27)],.agg [.int .i64 0,.int .i64 0,.str [],.slice 4 .nil []]⟩),
 (48,⟨1,24,.slice 98,.slice 2 .nil []⟩),
 (49,⟨1,24,.slice 100,.slice 2 .nil []⟩),
 (98,⟨2,16,.struct [(0,3),(1,3)],.agg [.int .i64 0,.int .i64 0]⟩),
 (100,⟨2,24,.struct [(0,3),(1,9)],.agg [.int .i64 0,.str []]⟩),
 (165,⟨1,8,.map 100 4,.junk⟩)]
theorem j6:fP ao tH=true:=by kernel_rfl
theorem ah6:b1 tH OM VL 1 Tryz.f87=true:=by kernel_rfl
theorem abu:ao.funcs[(87:Nat)]? =some Tryz.f87:=Tryz.func87
theorem ah7:b1 tH ON L6 1 Tryz.f88=true:=by kernel_rfl
theorem abv:ao.funcs[(88:Nat)]? =some Tryz.f88:=Tryz.func88
theorem r6:b1 tH qE j2 4 Tryz.f118=true:=by kernel_rfl
theorem rB:ao.funcs[(118:Nat)]? =some Tryz.f118:=Tryz.func118
theorem LF:b1 tH EC GS 4 Tryz.f120=true:=by kernel_rfl
theorem Jg:ao.funcs[(120:Nat)]? =some Tryz.f120:=Tryz.func120
theorem LH:b1 tH EE aks 2 Tryz.f161=true:=by kernel_rfl
theorem Ji:ao.funcs[(161:Nat)]? =some Tryz.f161:=Tryz.func161
theorem LJ:b1 tH EG GZ 2 Tryz.f177=true:=by kernel_rfl
theorem Jk:ao.funcs[(177:Nat)]? =some Tryz.f177:=Tryz.func177
theorem ah2:b1 tH OI VG 3 Tryz.f183=true:=by kernel_rfl
theorem abp:ao.funcs[(183:Nat)]? =some Tryz.f183:=Tryz.func183
theorem ah0:b1 tH OG VE 3 Tryz.f184=true:=by kernel_rfl
theorem abn:ao.funcs[(184:Nat)]? =some Tryz.f184:=Tryz.func184
theorem ah1:b1 tH OH VF 3 Tryz.f185=true:=by kernel_rfl
theorem abo:ao.funcs[(185:Nat)]? =some Tryz.f185:=Tryz.func185
def ma(x:bM):Prop:=(0≤x.v∧x.v≤100000)∧(x.k=2∨x.k=3)
def nq(x y:bM):Prop:=x.v<y.v
theorem Ge{l:List bM}:fO l↔∀i,i<l.length→h9 ma nq l i:=by rw[N3 (p:=ma) (r:=nq) (fun a b c J U=>by unfold nq at*;omega)];exact⟨fun h=>⟨h.at',h.asc⟩,fun h=>⟨h.1,h.2⟩⟩
def kl(x:bm):Prop:=(0≤x.v∧x.v≤100000)∧jJ x.s=true
def kI(x y:bm):Prop:=fe x y<0
theorem Gt{l:List bm}:il l↔∀i,i<l.length→h9 kl kI l i:=by rw[N3 (p:=kl) (r:=kI) (fun a b c J U=>by unfold kI at*;exact lR.ltr J (Int.le_of_lt U))];exact⟨fun h=>⟨h.at',h.asc⟩,fun h=>⟨h.1,h.2⟩⟩
open Classical in
theorem XD(l:List bM):bH ao 87 [.slice 2 .no (l.map bM.e)] (.bool (decide (fO l))):=by
 generalize bd:decide (fO l)=R;refine bh j6 abu ah6 fun aO=>?_;unfold OM;have eX:l.length≤68719476736:=by simp[eu,ed,ep,lim]at aO;omega
 simp;refine dw [0,5,6] (fun i (_:Unit)=>[(7,.int .i64 i)]) l.length (fun i _=> ∀j,j<i→h9 ma nq l j) () bN (fun k ab=>by omega) (fun _ ae _=>?_) (fun i _ hi ae _=>?_)
 ·have:R=true:=by rw[←bd,e2,Ge];exact ae
  rw[this];exact bY
 ·obtain⟨b,ad⟩:∃b,l[i]? =some b:=⟨_,bZ hi⟩;obtain⟨c,au⟩:∃c,l[i-1]? =some c:=⟨_,bZ (by omega)⟩;have cA:∀h,(l[i]'h)=b:=fun h=>by rw[bZ hi]at ad;exact eE ad
  have ct:¬h9 ma nq l i→R=false:=fun h=>by rw[←bd,gI];exact fun cb=>h (Ge.1 cb i hi)
  have dd:h9 ma nq l i→∀j,j<i+1→h9 ma nq l j:=fun h j js=>by
   by_cases e:j=i
   ·rw[e];exact h
   ·exact ae j (by omega)
  simp[hi,cA,au];((with_reducible repeat' first|refine aj ?_|simp[cA,au,hi]|((first|apply bP|apply bR|apply bQ)<;>intro h<;>try simp at h))<;>(try exact cm));all_goals first
   |(have ay:¬h9 ma nq l i:=by(intro cb;have J:=cb b ad;have U:=J.2 c;have ar:=J.1;unfold ma nq at*;first|omega|(have ba:=U (by omega) au;omega)|(simp_all;done)|(simp_all;omega))
     rw[ct ay]
     simp[bt,VL,aX,aY,aW]
     done)
   |(refine bK.rng () hi (dd fun b5 fV=>?_) ?_
     ·rw[ad]at fV;cases fV
      refine⟨?_,fun cu bn hy=>?_⟩
      ·unfold ma;first|(simp_all;done)|(simp_all;omega)
      ·rw[au]at hy;cases hy;unfold nq;simp_all
     ·exact bN)
theorem Bj(a b:bm):bH ao 161 [a.e,b.e] (.bool (hL fe a b)):=by
 rw[←UX];have bd:tk a b=(decide (a.v<b.v)||(a.v==b.v&&hv a.s b.s)):=rfl;rcases Int.lt_trichotomy a.v b.v with h|h|h
 ·have:tk a b=true:=by rw[bd];simp[h]
  rw[this];refine bh j6 Ji LH fun aO=>?_;unfold EE;exact bY
 ·have J:¬a.v<b.v:=by omega
  have U:(a.v==b.v)=true:=by simp[h]
  have:tk a b=hv a.s b.s:=by rw[bd];simp[h]
  rw[this];refine bh j6 Ji LH fun aO=>?_;unfold EE;exact bY
 ·have J:¬a.v<b.v:=by omega
  have U:¬a.v=b.v:=by omega
  have ar:(a.v==b.v)=false:=by simp[U]
  have:tk a b=false:=by rw[bd];simp[J,U]
  rw[this];refine bh j6 Ji LH fun aO=>?_;unfold EE;exact bY
end Go.Proofs.YtahlgcidhnjlbaaGreat
namespace Go.Proofs.YtahlgcidhnjlbaaGreat
open Go Go.Pv
open Classical in
theorem XF(l:List bm):bH ao 88 [.slice 2 .no (l.map bm.e)] (.bool (decide (il l))):=by
 generalize bd:decide (il l)=R;refine bh j6 abv ah7 fun aO=>?_;unfold ON;have eX:l.length≤68719476736:=by simp[eu,ed,ep,lim]at aO;omega
 simp;refine dw [0,5,6] (fun i (_:Unit)=>[(7,.int .i64 i)]) l.length (fun i _=> ∀j,j<i→h9 kl kI l j) () bN (fun k ab=>by omega) (fun _ ae _=>?_) (fun i _ hi ae _=>?_)
 ·have:R=true:=by rw[←bd,e2,Gt];exact ae
  rw[this];exact bY
 ·obtain⟨b,ad⟩:∃b,l[i]? =some b:=⟨_,bZ hi⟩;obtain⟨c,au⟩:∃c,l[i-1]? =some c:=⟨_,bZ (by omega)⟩;have cA:∀h,(l[i]'h)=b:=fun h=>by rw[bZ hi]at ad;exact eE ad
  have ct:¬h9 kl kI l i→R=false:=fun h=>by rw[←bd,gI];exact fun cb=>h (Gt.1 cb i hi)
  have dd:h9 kl kI l i→∀j,j<i+1→h9 kl kI l j:=fun h j js=>by
   by_cases e:j=i
   ·rw[e];exact h
   ·exact ae j (by omega)
  have eV:∀p:Prop,(p→eQ)→(h9 kl kI l i→p)→R=false:=fun p J U=>ct fun h=>J (U h);have l4:h9 kl kI l i→kl b:=fun h=>(h b ad).1;have bE:h9 kl kI l i→0<i→hL fe c b=true:=fun h bn=>by simpa[hL,kI]using(h b ad).2 c bn au
  have eY:kl b→(0<i→hL fe c b=true)→h9 kl kI l i:=fun J U b5 fV=>by rw[ad]at fV;cases fV;exact⟨J,fun cu bn hy=>by rw[au]at hy;cases hy;simpa[hL,kI]using U bn⟩
  unfold kl at l4 eY;by_cases g1:b.v<0
  ·rw[eV _ (fun h=>by omega) (fun h=>(l4 h).1.1)];exact bY
  by_cases g2:100000<b.v
  ·rw[eV _ (fun h=>by omega) (fun h=>(l4 h).1.2)];exact bY
  cases g3:jJ b.s
  ·rw[eV _ (fun h=>by rw[h]at g3;cases g3) (fun h=>(l4 h).2)];simp[hi,cA,au];(with_reducible repeat' first|refine aj ?_|refine aC (tI _) ?_|refine aD (tI _) ?_|simp[cA,au,hi,g1,g2,g3]);simp[bt,L6,aX,aY,aW]
  by_cases g4:0<i
  ·cases g5:hL fe c b
   ·rw[eV _ (fun h=>by rw[h]at g5;cases g5) (fun h=>bE h g4)];simp[hi,cA,au];(with_reducible repeat' first|refine aj ?_|refine aC (tI _) ?_|refine aD (tI _) ?_|refine aC (Bj _ _) ?_|refine aD (Bj _ _) ?_|simp[cA,au,hi,g1,g2,g3,g4,g5]);simp[bt,L6,aX,aY,aW]
   ·simp[hi,cA,au];(with_reducible repeat' first|refine aj ?_|refine aC (tI _) ?_|refine aD (tI _) ?_|refine aC (Bj _ _) ?_|refine aD (Bj _ _) ?_|simp[cA,au,hi,g1,g2,g3,g4,g5]);exact bK.rng () hi (dd (eY ⟨⟨by omega,by omega⟩,g3⟩ fun _=>g5)) bN
  ·obtain rfl:i=0:=by omega
   simp[hi,cA,au];(with_reducible repeat' first|refine aj ?_|refine aC (tI _) ?_|refine aD (tI _) ?_|simp[cA,au,hi,g1,g2,g3,g4]);exact bK.rng () hi (dd (eY ⟨⟨by omega,by omega⟩,g3⟩ fun h=>by omega)) bN
theorem XR(s:List dE):∀t:T,bH ao 177 [t.e,.str s] (.bool (t.has s)):=by
 intro t;induction t with
 |pair a b dX dY=>
  refine bh j6 Jk LJ fun aO=>?_;unfold EG;simp;cases bz:a.has s<;>cases ad:b.has s<;>rw[bz]at dX<;>rw[ad]at dY;all_goals(with_reducible repeat' first|refine aj ?_|refine aC dX ?_|refine aD dX ?_|refine aC dY ?_|refine aD dY ?_|simp)
  all_goals simp[bt,GZ,aX,aY,aW]
  all_goals simp[T.has,bz,ad]
 |sym n=>
  refine bh j6 Jk LJ fun aO=>?_;unfold EG;simp;(with_reducible repeat' first|refine aj ?_|simp);all_goals simp[bt,GZ,aX,aY,aW]
  all_goals simp[T.has]
 |_=>
  refine bh j6 Jk LJ fun aO=>?_;unfold EG;simp;(with_reducible repeat' first|refine aj ?_|simp);all_goals simp[bt,GZ,aX,aY,aW]
  all_goals simp[T.has]
end Go.Proofs.YtahlgcidhnjlbaaGreat
namespace Go.Proofs.YtahlgcidhnjlbaaGreat
open Go Go.Pv
def P7:C:=(aa [cM 2 0] (aa [bJ 4 20] (aa [I 8 4,bJ 5 0,I 6 8] (.seq (.block 0 (.loop (.seq (aa [I 9 6,I 10 1,bg 11 .leq 9 10] (aT 11 .skip (.exit 0))) (.block 1 (aa [a6 12 2 2,I 13 5,I 14 6,dJ 15 231 [.t 12,.t 13,.t 14]] (aa [I 16 6,I 5 16] (.region [I 17 6,I 18 4,bg 19 .add 17 18,I 6 19]))))))) (aa [a6 20 2 2,I 21 5,I 22 1,dJ 23 231 [.t 20,.t 21,.t 22]] (.block 2 (.loop (.seq (aa [I 24 4,I 25 1,bg 26 .lss 24 25] (aT 26 .skip (.exit 2))) (.block 3 (aa [I 27 4,ca 28 (.bin .mul false (fQ 2) (.t 27)),bJ 5 0,I 6 28] (.seq (.block 4 (.loop (.seq (aa [I 29 6,I 30 1,bg 31 .leq 29 30] (aT 31 .skip (.exit 4))) (.block 5 (aa [a6 32 2 2,I 33 5,I 34 5,I 35 4,bg 36 .add 34 35,I 37 6,dJ 38 232 [.t 32,.t 33,.t 36,.t 37]] (aa [I 39 6,I 5 39] (.region [I 40 6,I 41 4,ca 42 (.bin .mul false (fQ 2) (.t 41)),bg 43 .add 40 42,I 6 43]))))))) (.seq (aa [I 44 5,I 45 4,bg 46 .add 44 45,I 7 46] (aa [I 47 7,I 48 1,bg 49 .lss 47 48] (aT 49 (.region [a6 50 2 2,I 51 5,I 52 7,I 53 1,dJ 54 232 [.t 50,.t 51,.t 52,.t 53]]) .skip))) (.region [I 55 4,aS 56 .mul 55 2,I 4 56])))))))))))))
@[simp] def ak7:List bA:=[]
def IJ:C:=(aa [cM 3 0] (aa [I 8 1,aS 9 .add 8 1,I 6 9] (.block 0 (.loop (.seq (aa [I 10 6,I 11 2,bg 12 .lss 10 11] (aT 12 .skip (.exit 0))) (.seq (.block 1 (aa [I 15 6,I 7 15] (.block 2 (.loop (.seq (aa [I 16 7,I 17 1,bg 18 .gtr 16 17,I 19 18,aq 19 true (aG 20 0 1 3),aq 19 true (av 21 1 20),bW 19 true 22 7,bW 19 true 23 7,aq 19 true (aS 24 .sub 23 1),aq 19 true (gH 25 21 [.t 22,.t 24]),du 26 19 25] (aT 26 .skip (.exit 2))) (.seq (.block 3 (.region [aG 29 1 1 3,av 30 1 29,I 31 7,I 32 7,aS 33 .sub 32 1,gH 34 30 [.t 31,.t 33]])) (.region [I 27 7,aS 28 .sub 27 1,I 7 28]))))))) (.region [I 13 6,aS 14 .add 13 1,I 6 14])))))))
@[simp] def ak3:List bA:=[]
def EN:C:=(aa [I 164 16,I 165 22,bg 166 .lss 164 165,I 167 166,bW 167 true 168 22,bW 167 true 169 3,aq 167 true (bg 170 .lss 168 169),du 171 167 170] (aT 171 (.region [a6 172 2 4,I 173 16,I 174 22,I 175 3,dJ 176 232 [.t 172,.t 173,.t 174,.t 175]]) .skip))
def EO:C:=(.seq (aa [I 151 1,I 152 18,bg 153 .lss 151 152,I 154 153,bW 154 true 155 18,bW 154 true 156 16,aq 154 true (bg 157 .lss 155 156),du 158 154 157] (aT 158 (.region [a6 159 2 4,I 160 1,I 161 18,I 162 16,dJ 163 232 [.t 159,.t 160,.t 161,.t 162]]) .skip)) EN)
def IN:C:=(.seq (aa [I 138 18,I 139 2,bg 140 .lss 138 139,I 141 140,bW 141 true 142 2,bW 141 true 143 22,aq 141 true (bg 144 .lss 142 143),du 145 141 144] (aT 145 (.region [a6 146 2 4,I 147 18,I 148 2,I 149 22,dJ 150 251 [.t 146,.t 147,.t 148,.t 149]]) .skip)) EO)
def IP:C:=(aa [I 113 17,aS 114 .sub 113 1,I 20 114] (.seq (.block 8 (.loop (.seq (aa [I 115 18,I 116 19,bg 117 .lss 115 116] (aT 117 .skip (.exit 8))) (.block 9 (aa [I 118 18,I 119 19,bg 120 .add 118 119,ca 121 (.conv .u64 (.t 120)),ca 122 (.bin .shr false (.t 121) (.c (.int .u64 1))),ca 123 (.conv .i64 (.t 122)),I 21 123] (aa [aG 124 0 1 4,av 125 1 124,I 126 20,I 127 21,bg 128 .sub 126 127,I 129 21,gH 130 125 [.t 128,.t 129],cy 131 130] (aT 131 (.region [I 132 21,aS 133 .add 132 1,I 18 133]) (.region [I 134 21,I 19 134])))))))) (aa [I 135 17,I 136 18,bg 137 .sub 135 136,I 22 137] IN)))
def P9:C:=(aa [cM 4 0] (.seq (aa [I 23 2,I 24 1,bg 25 .sub 23 24,aS 26 .eql 25 1] (aT 26 (aa [I 27 2,I 8 27] (aa [I 28 3,I 9 28] (.seq (.block 0 (.loop (.seq (aa [I 29 8,I 30 9,bg 31 .lss 29 30] (aT 31 .skip (.exit 0))) (.block 1 (aa [I 32 8,I 33 9,bg 34 .add 32 33,ca 35 (.conv .u64 (.t 34)),ca 36 (.bin .shr false (.t 35) (.c (.int .u64 1))),ca 37 (.conv .i64 (.t 36)),I 10 37] (aa [aG 38 0 1 4,av 39 1 38,I 40 10,I 41 1,gH 42 39 [.t 40,.t 41]] (aT 42 (.region [I 43 10,aS 44 .add 43 1,I 8 44]) (.region [I 45 10,I 9 45])))))))) (.seq (aa [I 46 1,I 11 46] (.block 2 (.loop (.seq (aa [I 47 11,I 48 8,aS 49 .sub 48 1,bg 50 .lss 47 49] (aT 50 .skip (.exit 2))) (.seq (.block 3 (.region [aG 53 1 1 4,av 54 1 53,I 55 11,I 56 11,aS 57 .add 56 1,gH 58 54 [.t 55,.t 57]])) (.region [I 51 11,aS 52 .add 51 1,I 11 52])))))) .ret)))) .skip)) (.seq (aa [I 59 3,I 60 2,bg 61 .sub 59 60,aS 62 .eql 61 1] (aT 62 (aa [I 63 1,I 12 63] (aa [I 64 2,I 13 64] (.seq (.block 4 (.loop (.seq (aa [I 65 12,I 66 13,bg 67 .lss 65 66] (aT 67 .skip (.exit 4))) (.block 5 (aa [I 68 12,I 69 13,bg 70 .add 68 69,ca 71 (.conv .u64 (.t 70)),ca 72 (.bin .shr false (.t 71) (.c (.int .u64 1))),ca 73 (.conv .i64 (.t 72)),I 14 73] (aa [aG 74 0 1 4,av 75 1 74,I 76 2,I 77 14,gH 78 75 [.t 76,.t 77],cy 79 78] (aT 79 (.region [I 80 14,aS 81 .add 80 1,I 12 81]) (.region [I 82 14,I 13 82])))))))) (.seq (aa [I 83 2,I 15 83] (.block 6 (.loop (.seq (aa [I 84 15,I 85 12,bg 86 .gtr 84 85] (aT 86 .skip (.exit 6))) (.seq (.block 7 (.region [aG 89 1 1 4,av 90 1 89,I 91 15,I 92 15,aS 93 .sub 92 1,gH 94 90 [.t 91,.t 93]])) (.region [I 87 15,aS 88 .sub 87 1,I 15 88])))))) .ret)))) .skip)) (aa [I 95 1,I 96 3,bg 97 .add 95 96,ca 98 (.conv .u64 (.t 97)),ca 99 (.bin .shr false (.t 98) (.c (.int .u64 1))),ca 100 (.conv .i64 (.t 99)),I 16 100] (aa [I 101 16,I 102 2,bg 103 .add 101 102,I 17 103] (aa [bJ 18 0,bJ 19 0] (.seq (aa [I 104 2,I 105 16,bg 106 .gtr 104 105] (aT 106 (aa [I 107 17,I 108 3,bg 109 .sub 107 108,I 18 109] (.region [I 110 16,I 19 110])) (aa [I 111 1,I 18 111] (.region [I 112 2,I 19 112])))) IP)))))))
@[simp] def ak8:List bA:=[]
def P5:C:=(aa [cM 4 0] (aa [I 10 2,I 11 1,bg 12 .sub 10 11,I 8 12] (aa [I 13 3,I 14 2,bg 15 .sub 13 14,I 9 15] (.seq (.block 0 (.loop (.seq (aa [I 16 8,I 17 9,bg 18 .neq 16 17] (aT 18 .skip (.exit 0))) (.block 1 (aa [I 19 8,I 20 9,bg 21 .gtr 19 20] (aT 21 (aa [a6 22 2 4,I 23 2,I 24 8,bg 25 .sub 23 24,I 26 2,I 27 9,dJ 28 270 [.t 22,.t 25,.t 26,.t 27]] (.region [I 29 8,I 30 9,bg 31 .sub 29 30,I 8 31])) (aa [a6 32 2 4,I 33 2,I 34 8,bg 35 .sub 33 34,I 36 2,I 37 9,bg 38 .add 36 37,I 39 8,bg 40 .sub 38 39,I 41 8,dJ 42 270 [.t 32,.t 35,.t 40,.t 41]] (.region [I 43 9,I 44 8,bg 45 .sub 43 44,I 9 45])))))))) (.region [a6 46 2 4,I 47 2,I 48 8,bg 49 .sub 47 48,I 50 2,I 51 8,dJ 52 270 [.t 46,.t 49,.t 50,.t 51]])))))
@[simp] def ak5:List bA:=[]
def P8:C:=(aa [cM 4 0] (aa [bJ 8 0] (.block 0 (.loop (.seq (aa [I 9 8,I 10 3,bg 11 .lss 9 10] (aT 11 .skip (.exit 0))) (.seq (.block 1 (.region [aG 14 1 1 4,av 15 1 14,I 16 1,I 17 8,bg 18 .add 16 17,I 19 2,I 20 8,bg 21 .add 19 20,gH 22 15 [.t 18,.t 21]])) (.region [I 12 8,aS 13 .add 12 1,I 8 13])))))))
@[simp] def Wf:List bA:=[]
def Bd:List (Nat×dF):=[
 (3,⟨1,8,.int .i64,.int .i64 0⟩),
 (143,⟨1,8,.other,.junk⟩),
 (181,⟨1,8,.other,.junk⟩),
 (185,⟨2,16,.struct [(0,143),(1,181)],.agg [.junk,.junk]⟩),
 (192,⟨1,8,.int .u64,.int .u64 0⟩)]
theorem Be:fP ao Bd=true:=by kernel_rfl
theorem ajp:b1 Bd P7 ak7 2 Tryz.f199=true:=by kernel_rfl
theorem acP:ao.funcs[(199:Nat)]? =some Tryz.f199:=Tryz.func199
theorem Vi:b1 Bd IJ ak3 3 Tryz.f231=true:=by kernel_rfl
theorem RB:ao.funcs[(231:Nat)]? =some Tryz.f231:=Tryz.func231
theorem ajr:b1 Bd P9 ak8 4 Tryz.f232=true:=by kernel_rfl
theorem acR:ao.funcs[(232:Nat)]? =some Tryz.f232:=Tryz.func232
theorem ajn:b1 Bd P5 ak5 4 Tryz.f251=true:=by kernel_rfl
theorem acN:ao.funcs[(251:Nat)]? =some Tryz.f251:=Tryz.func251
theorem ajq:b1 Bd P8 Wf 4 Tryz.f270=true:=by kernel_rfl
theorem acQ:ao.funcs[(270:Nat)]? =some Tryz.f270:=Tryz.func270
end Go.Proofs.YtahlgcidhnjlbaaGreat
namespace Go.Proofs.YtahlgcidhnjlbaaGreat
open Go Go.Pv
structure e4 {α:Type} (S:List α→cK) (n:Nat) (g cc:Nat) (lc b6:List ah) (lt:α→α→Bool):Prop where
 ok:∀l,eh (S l)
 same:∀l a1,l.length=n→a1.length=n→Same (S l) (S a1)
 klc:∀l,l.length=n→aH (inObs (S l)) lc
 ksc:∀l,l.length=n→aH (inObs (S l)) b6
 slc:cR lc=lc
 ssc:cR b6=b6
 le:n≤68719476736
 less:∀l,l.length=n→∀(i j:Nat) x y,l[i]? =some x→l[j]? =some y→bU ao g (.int .i64 i:: .int .i64 j::lc) (S l) fun r ai=>r= .bool (lt x y)∧ai=S l
 swap:∀l,l.length=n→2≤n→∀i j:Nat,i<n→j<n→bU ao cc (.int .i64 i:: .int .i64 j::b6) (S l) fun r ai=>r= .tuple []∧ai=S (hf l i j)
variable {α:Type} {S:List α→cK} {n g cc:Nat} {lc b6:List ah} {lt:α→α→Bool}
def eS(g cc:Nat)(lc b6:List ah):ah:= .agg [.func g lc,.func cc b6]
theorem JL(H:e4 S n g cc lc b6 lt)(l:List α)(aw:l.length=n)(a b c:Nat)(apI:a+c≤b)(Sr:b+c≤n):
  bU ao 270 [eS g cc lc b6,.int .i64 a,.int .i64 b,.int .i64 c] (S l) fun r ai=>r= .tuple []∧∃a1,ai=S a1∧gr a (b+c) l a1∧∀k,a1[k]? =l[sf a b c k]?:=by
 have ag:=H.ok l;have ay:∀l m,Pv.look (.loc m) (S l).b=none:=fun l=>(H.ok l).obj.1;have hu:∀l m cs,cB (.loc m) cs (S l).b=(S l).b++[(.loc m,cs)]:=fun l m cs=>j8 (ay l m);have ax:∀m,aI.loc m∉cX (S l):=j1 ag.obj;have hle:=H.le;refine bU.mk mixed Be acQ ajq (by simp) ag.obj fun aO cL=>?_;unfold P8;simp[eS,hu,ax,cI,ay,H.slc,H.ssc];refine ho (fun i (lk:List α)=>⟨[(1,.int .i64 a),(2,.int .i64 b),(3,.int .i64 c),(4,.ptr (.loc 0) 0),(8,.int .i64 i)],[(.loc 0,[.func g lc,.func cc b6])]++(S lk).b,(S lk).e,1,cX (S l)⟩) c (fun i lk=>lk.length=n∧gr a (b+c) l lk∧∀k,lk[k]? =l[sf a b i k]?) l
  (iG.obL ag (Same.refl _) (by simp[aB]) (by simp[cI,ay,aB,aH,AB (H.klc l aw),AB (H.ksc l aw)]) aR aR) ⟨aw,.refl _,fun k=>by simp[sf];split<;>(try split)<;>(try rfl)<;>(exfalso;omega)⟩ ?_ ?_
 ·rintro lk ⟨J,U,ar⟩ _;simp;refine cV.at (S lk) (.inr rfl) (H.ok lk) (H.same _ _ aw J) aR aR ?_;simp[c1,Wf,aX,aY,aW];exact⟨lk,rfl,U,ar⟩
 ·rintro i lk hi ⟨J,U,ar⟩ _;have ak:((a:Int)+i)=(a+i:Nat):=by omega
  have aE:((b:Int)+i)=(b+i:Nat):=by omega
  simp[hi,cI,ay,H.ssc];(with_reducible repeat' first|refine aj ?_|simp);rw[ak,aE];refine c8.ob (H.swap lk J (by omega) (a+i) (b+i) (by omega) (by omega)) (H.ok lk) aR aR (by simp[H.ksc lk J]) ?_;rintro r ai ⟨rfl,rfl⟩;refine⟨H.same _ _ J (by simp[J]),?_⟩;simp[gW,iA,cz,ay];(with_reducible repeat' first|refine aj ?_|simp);refine bK.rng (hf lk (a+i) (b+i)) hi ⟨by simp[J],.step U (by omega) (by omega) (by omega) (by omega) (by omega) (by omega),fun k=>?_⟩ (iG.obL (L:=[(.loc 0,[.func g lc,.func cc b6])]) (H.ok _) (H.same _ _ aw (by simp[J])) (by simp[aB]) (by simp[cI,ay,aB,aH,AB (H.klc (hf lk (a+i) (b+i)) (by simp[J])),AB (H.ksc (hf lk (a+i) (b+i)) (by simp[J]))]) aR aR);rw[Aq _ _ _ _ (by omega) (by omega),ar,ar,ar];have:sf a b (i+1) k=if k=a+i then sf a b i (b+i)else if k=b+i then sf a b i (a+i)else sf a b i k:=by
   simp only[sf];repeat' split
   all_goals omega
  rw[this];split
  ·rfl
  ·split<;>rfl
section
variable (H:e4 S n g cc lc b6 lt)
include H
theorem e4.loc{l:List α}(m:Nat):Pv.look (.loc m) (S l).b=none:=(H.ok l).obj.1 m
theorem e4.weak{l lk:List α}(aw:l.length=n)(ab:lk.length=n){st:bs}{dO:List (Nat×ah)}(aK:∀x∈dO,Pv.get x.1 st.t=x.2∧aB (me (S lk) 1) x.2)(bn:Pv.look (.loc 0) st.b=some [.func g lc,.func cc b6])
  (ad:∀k cs,Pv.look k (S lk).b=some cs→Pv.look k st.b=some cs) (he:∀k o,Pv.look k (S lk).e=some o→Pv.look k st.e=some o):
  iG (cX (S l)) st ⟨dO,(.loc 0,[.func g lc,.func cc b6])::(S lk).b,(S lk).e,1,cX (S l)⟩:=
 iG.obL (L:=[(.loc 0,[.func g lc,.func cc b6])]) (H.ok _) (H.same _ _ aw ab) aK (by simp[bn,aB,aH,AB (H.klc lk ab),AB (H.ksc lk ab)]) ad he
theorem e4.weakC{l lk:List α}(aw:l.length=n)(ab:lk.length=n){t dO:List (Nat×ah)}{q:Nat}{o:List aI}(aK:∀x∈dO,Pv.get x.1 t=x.2∧aB (me (S lk) 1) x.2):
  iG (cX (S l)) ⟨t,(.loc 0,[.func g lc,.func cc b6])::(S lk).b,(S lk).e,q,o⟩ ⟨dO,(.loc 0,[.func g lc,.func cc b6])::(S lk).b,(S lk).e,1,cX (S l)⟩:=
 H.weak aw ab aK (by simp[Pv.look]) (fun k cs af=>by
  cases k with
  |loc m=>rw[H.loc m]at af;cases af
  |obj m=>simpa[Pv.look]using af) (fun _ _ af=>af)
theorem e4.call{lk:List α}(J:lk.length=n){f:Nat}{args:List ah}{R:ah→List α→Prop}(aL:bU ao f args (S lk) fun r ai=> ∃a1,ai=S a1∧R r a1)(bd:∀r a1,R r a1→a1.length=n)(ab:aH (inObs (S lk)) args){t:List (Nat×ah)}{D:List ah}{o:List aI}{d:aZ Nat}{K:bs→Prop}
  (h:∀r a1,R r a1→K ⟨eM d r t,(.loc 0,D)::(S a1).b,(S a1).e,1,o++cX (S a1)⟩):c8 ao f args ⟨t,(.loc 0,D)::(S lk).b,(S lk).e,1,o⟩ d K:=by
 refine c8.ob aL (H.ok lk) (fun k cs af=>?_) (fun _ _ af=>af) ab ?_
 ·cases k with
  |loc m=>rw[H.loc m]at af;cases af
  |obj m=>simpa[Pv.look]using af
 ·rintro r ai ⟨a1,rfl,aJ⟩;refine⟨H.same _ _ J (bd _ _ aJ),?_⟩;have ak:cz (S lk).b ((.loc 0,D)::(S lk).b)=[(.loc 0,D)]:=by have:=iA (S lk).b [(aI.loc 0,D)] (S lk).b;rw[gW]at this;simpa[cz,H.loc]using this
  have aE:cz (S lk).e (S lk).e=[]:=gW _;have:=h _ _ aJ;simp only[ak,aE];exact this
theorem e4.doSwap{lk:List α}(J:lk.length=n)(i j:Nat)(hi:i<n)(ae:j<n)(U:2≤n){t:List (Nat×ah)}{D:List ah}{o:List aI}{d:aZ Nat}{K:bs→Prop}
  (h:K ⟨eM d (.tuple []) t,(.loc 0,D)::(S (hf lk i j)).b,(S (hf lk i j)).e,1,o++cX (S (hf lk i j))⟩):c8 ao cc (.int .i64 i:: .int .i64 j::b6) ⟨t,(.loc 0,D)::(S lk).b,(S lk).e,1,o⟩ d K:=
 H.call J (R:=fun r a1=>r= .tuple []∧a1=hf lk i j) ((H.swap lk J U i j hi ae).mono fun r ai ⟨ak,aE⟩=>⟨_,aE,ak,rfl⟩) (fun r a1 ⟨_,e⟩=>by rw[e];simp[J]) (by simp[aB,aH,H.ksc lk J]) (by rintro r a1 ⟨rfl,rfl⟩;exact h)
theorem e4.doLess{lk:List α}(J:lk.length=n)(i j:Nat){x y:α}(hi:lk[i]? =some x)(ae:lk[j]? =some y){t:List (Nat×ah)}{D:List ah}{o:List aI}{d:aZ Nat}{K:bs→Prop}
  (h:K ⟨eM d (.bool (lt x y)) t,(.loc 0,D)::(S lk).b,(S lk).e,1,o++cX (S lk)⟩):c8 ao g (.int .i64 i:: .int .i64 j::lc) ⟨t,(.loc 0,D)::(S lk).b,(S lk).e,1,o⟩ d K:=
 H.call J (R:=fun r a1=>r= .bool (lt x y)∧a1=lk) ((H.less lk J i j x y hi ae).mono fun r ai ⟨ak,aE⟩=>⟨_,aE,ak,rfl⟩) (fun r a1 ⟨_,e⟩=>by rw[e];exact J) (by simp[aB,aH,H.klc lk J]) (by rintro r a1 ⟨rfl,rfl⟩;exact h)
theorem e4.doFn{lk:List α}(J:lk.length=n){f:Nat}{args:List ah}{R:List α→Prop}(aL:bU ao f args (S lk) fun r ai=>r= .tuple []∧∃a1,ai=S a1∧R a1)(bd:∀a1,R a1→a1.length=n)(ab:aH (inObs (S lk)) args){t:List (Nat×ah)}{D:List ah}{o:List aI}{d:aZ Nat}{K:bs→Prop}
  (h:∀a1,R a1→K ⟨eM d (.tuple []) t,(.loc 0,D)::(S a1).b,(S a1).e,1,o++cX (S a1)⟩):c8 ao f args ⟨t,(.loc 0,D)::(S lk).b,(S lk).e,1,o⟩ d K:=
 H.call J (R:=fun r a1=>r= .tuple []∧R a1) (aL.mono fun r ai ⟨ak,a1,aE,bj⟩=>⟨a1,aE,ak,bj⟩) (fun r a1 h=>bd a1 h.2) ab (by rintro r a1 ⟨rfl,aJ⟩;exact h a1 aJ)
theorem e4.kdata{lk:List α}(J:lk.length=n):aB (inObs (S lk)) (eS g cc lc b6):=by simp[eS,aB,aH,H.klc lk J,H.ksc lk J]
theorem e4.ret{l lk:List α}(aw:l.length=n)(J:lk.length=n){Q:ah→cK→Prop}{e:Exit}(he:e= .ret∨e= .normal){t:List (Nat×ah)}{D:List ah}{q:Nat}{o:List aI}(bo:Q (.tuple []) (S lk)):cV [] (S l) Q e ⟨t,(.loc 0,D)::(S lk).b,(S lk).e,q,o⟩:=by
 refine cV.at (S lk) he (H.ok lk) (H.same _ _ aw J) (fun k cs af=>?_) (fun _ _ af=>af) ?_
 ·cases k with
  |loc m=>rw[H.loc m]at af;cases af
  |obj m=>simpa[Pv.look]using af
 ·simp[c1,aX,aW,aB,aH,bo]
end
theorem iq(H:e4 S n g cc lc b6 lt):dm (eS g cc lc b6)=eS g cc lc b6:=by simp[eS,dm,cR,H.slc,H.ssc]
theorem ia:ah.agg [.func g lc,.func cc b6]=eS g cc lc b6:=rfl
theorem aeb(H:e4 S n g cc lc b6 lt)(l:List α)(aw:l.length=n)(a m b:Nat)(Cd:a<m)(pB:m<b)(ad:b≤n):
  bU ao 251 [eS g cc lc b6,.int .i64 a,.int .i64 m,.int .i64 b] (S l) fun r ai=>r= .tuple []∧∃a1,ai=S a1∧gr a b l a1∧∀k,a1[k]? =l[hV a m b k]?:=by
 have ag:=H.ok l;have ay:∀l m,Pv.look (.loc m) (S l).b=none:=fun l=>(H.ok l).obj.1;have hu:∀l m cs,cB (.loc m) cs (S l).b=(S l).b++[(.loc m,cs)]:=fun l m cs=>j8 (ay l m);have ax:∀m,aI.loc m∉cX (S l):=j1 ag.obj;have hle:=H.le;refine bU.mk mixed Be acN ajn (by simp) ag.obj fun aO cL=>?_;unfold P5;simp[eS,hu,ax,cI,ay];(with_reducible repeat' first|refine aj ?_|simp[hu,ax,cI,ay]);refine oz (fun(x:(Nat×Nat)×List α)=>⟨[(2,.int .i64 m),(4,.ptr (.loc 0) 0),(8,.int .i64 x.1.1),(9,.int .i64 x.1.2)],(.loc 0,[.func g lc,.func cc b6])::(S x.2).b,(S x.2).e,1,cX (S l)⟩) (fun x=>x.1.1+x.1.2)
  (fun x=>x.2.length=n∧0<x.1.1∧0<x.1.2∧a+x.1.1≤m∧m+x.1.2≤b∧gr a b l x.2∧∀k,l[hV a m b k]? =x.2[hV (m-x.1.1) m (m+x.1.2) k]?) ((m-a,b-m),l)
  (H.weak aw aw (by simp[aB];omega) (by simp[cI,ay]) aR aR) ⟨aw,by simp;omega,by simp;omega,by simp;omega,by simp;omega,.refl _,fun k=>by simp[show m-(m-a)=a by omega,show m+(b-m)=b by omega]⟩ ?_
 rintro⟨⟨i,j⟩,lk⟩ ⟨J,hi,ae,gk,FC,U,ar⟩ _;simp only at J hi ae gk FC U ar;simp[Pv.look];((with_reducible repeat' first|refine aj ?_|simp[Pv.look]|((first|apply bP|apply bR|apply bQ)<;>intro h<;>try simp at h))<;>(try exact cm))
 ·have ak:((m:Int)-i)=(m-i:Nat):=by omega
  simp only[iq H,H.slc,H.ssc,ak,ia];refine H.doFn J (JL H lk J (m-i) m j (by omega) (by omega)) (fun a1 h=>by rw[h.1.length];exact J) (by simp[aH,aB,H.kdata J]) ?_;rintro a1 ⟨a8,bF⟩;have b0:a1.length=n:=by rw[a8.length];exact J
  simp;((with_reducible repeat' first|refine aj ?_|simp|((first|apply bP|apply bR|apply bQ)<;>intro h<;>try simp at h))<;>(try exact cm));refine bK.whl ((i-j,j),a1) (by simp;omega) ⟨b0,by simp;omega,ae,by simp;omega,FC,U.trans (a8.mono (by omega) (by omega)),fun k=>?_⟩ (H.weakC aw b0 (by simp[aB];omega));rw[ar,bF];congr 1;simp only[hV,sf];repeat' split
  all_goals omega
 ·have ak:((m:Int)-i)=(m-i:Nat):=by omega
  have aE:((m:Int)+j-i)=(m+j-i:Nat):=by omega
  simp only[iq H,H.slc,H.ssc,ak,aE,ia];refine H.doFn J (JL H lk J (m-i) (m+j-i) i (by omega) (by omega)) (fun a1 h=>by rw[h.1.length];exact J) (by simp[aH,aB,H.kdata J]) ?_;rintro a1 ⟨a8,bF⟩;have b0:a1.length=n:=by rw[a8.length];exact J
  simp;(with_reducible repeat' first|refine aj ?_|simp);refine bK.whl ((i,j-i),a1) (by simp;omega) ⟨b0,hi,by simp;omega,gk,by simp;omega,U.trans (a8.mono (by omega) (by omega)),fun k=>?_⟩ (H.weakC aw b0 (by simp[aB];omega));rw[ar,bF];congr 1;simp only[hV,sf];repeat' split
  all_goals omega
 ·have ak:((m:Int)-i)=(m-i:Nat):=by omega
  simp only[iq H,H.slc,H.ssc,ak,ia];refine H.doFn J (JL H lk J (m-i) m i (by omega) (by omega)) (fun a1 h=>by rw[h.1.length];exact J) (by simp[aH,aB,H.kdata J]) ?_;rintro a1 ⟨a8,bF⟩;have b0:a1.length=n:=by rw[a8.length];exact J
  simp;refine H.ret aw b0 (.inr rfl) ⟨rfl,a1,rfl,U.trans (a8.mono (by omega) (by omega)),fun k=>?_⟩;rw[ar,bF];congr 1;simp only[hV,sf];repeat' split
  all_goals omega
end Go.Proofs.YtahlgcidhnjlbaaGreat
namespace Go.Proofs.YtahlgcidhnjlbaaGreat
open Go Go.Pv
variable {α:Type} {S:List α→cK} {n g cc:Nat} {lc b6:List ah} {lt:α→α→Bool}
def tT(lt:α→α→Bool)(a b j:Nat)(l:List α):Prop:= ∀p q x y,a≤p→p<q→q<b→q≠j→l[p]? =some x→l[q]? =some y→lt y x=false
theorem tT.swap(bE:qy lt){a b j:Nat}{l:List α}(h:tT lt a b (j+1) l)(Sq:a≤j)(FC:j+1<b)(ae:j+1<l.length){x y:α}(af:l[j+1]? =some x)(aM:l[j]? =some y)(hR:lt x y=true):tT lt a b j (hf l (j+1) j):=by
 intro p q u v bG kB bo apY hu aF;rw[Aq _ _ _ _ ae (by omega)]at hu aF;rw[if_neg (by omega:¬(q=j))]at aF;split at aF
 ·rename_i e;subst e;rw[aM]at aF;cases aF;split at hu
  ·omega
  ·split at hu
   ·rw[af]at hu;cases hu;exact bE.asym _ _ hR
   ·exact h p j u y bG (by omega) (by omega) (by omega) hu aM
 ·split at hu
  ·rename_i e;subst e;rw[aM]at hu;cases hu;exact h j q y v Sq (by omega) bo (by omega) aM aF
  ·split at hu
   ·rename_i e;subst e;rw[af]at hu;cases hu;exact h (p+1) q x v (by omega) (by omega) bo (by omega) af aF
   ·exact h p q u v bG kB bo (by omega) hu aF
theorem tT.done(bE:qy lt){a b j:Nat}{l:List α}(h:tT lt a b (j+1) l)(Sq:a≤j)(FC:j+1<b){x y:α}(af:l[j+1]? =some x)(aM:l[j]? =some y)(hR:lt x y=false):fa lt a b l:=by
 intro p q u v bG kB bo hu aF;by_cases e:q=j+1
 ·subst e;rw[af]at aF;cases aF;by_cases aE:p=j
  ·subst aE;rw[aM]at hu;cases hu;exact hR
  ·exact bE.ntr _ _ _ (h p j u y bG (by omega) (by omega) (by omega) hu aM) hR
 ·exact h p q u v bG kB bo e hu aF
theorem tT.first{a b:Nat}{l:List α}(h:tT lt a b a l):fa lt a b l:=fun p q u v bG kB bo hu aF=>h p q u v bG kB bo (by omega) hu aF
theorem fa.but{a b:Nat}{l:List α}(h:fa lt a b l):tT lt a (b+1) b l:=fun p q u v bG kB bo Kp hu aF=>h p q u v bG kB (by omega) hu aF
theorem RY(H:e4 S n g cc lc b6 lt)(bE:qy lt)(l:List α)(aw:l.length=n)(a b:Nat)(ng:a≤b)(ad:b≤n):
  bU ao 231 [eS g cc lc b6,.int .i64 a,.int .i64 b] (S l) fun r ai=>r= .tuple []∧∃a1,ai=S a1∧gr a b l a1∧fa lt a b a1:=by
 have ag:=H.ok l;have ay:∀l m,Pv.look (.loc m) (S l).b=none:=fun l=>(H.ok l).obj.1;have hu:∀l m cs,cB (.loc m) cs (S l).b=(S l).b++[(.loc m,cs)]:=fun l m cs=>j8 (ay l m);have ax:∀m,aI.loc m∉cX (S l):=j1 ag.obj;have hle:=H.le;refine bU.mk mixed Be RB Vi (by simp) ag.obj fun aO cL=>?_;unfold IJ;simp[eS,hu,ax,cI,ay];(with_reducible repeat' first|refine aj ?_|simp[hu,ax,cI,ay]);refine oz (fun(x:Nat×List α)=>⟨[(1,.int .i64 a),(2,.int .i64 b),(3,.ptr (.loc 0) 0),(6,.int .i64 x.1)],(.loc 0,[.func g lc,.func cc b6])::(S x.2).b,(S x.2).e,1,cX (S l)⟩) (fun x=>b+1-x.1)
  (fun x=>x.2.length=n∧a<x.1∧x.1≤b+1∧(x.1≤b∨x.1=a+1)∧gr a b l x.2∧fa lt a x.1 x.2) (a+1,l)
  (H.weak aw aw (by simp[aB]) (by simp[cI,ay]) aR aR) ⟨aw,by simp,by simp;omega,.inr rfl,.refl _,fun i j x y J U ar=>by simp at ar;omega⟩ ?_
 rintro⟨i,lk⟩ ⟨J,nh,zN,sZ,U,ar⟩ _;simp only at J nh zN sZ U ar;simp;((with_reducible repeat' first|refine aj ?_|simp|((first|apply bP|apply bR|apply bQ)<;>intro h<;>try simp at h))<;>(try exact cm))
 ·refine oz (fun(x:Nat×List α)=>⟨[(1,.int .i64 a),(2,.int .i64 b),(3,.ptr (.loc 0) 0),(6,.int .i64 i),(7,.int .i64 x.1)],(.loc 0,[.func g lc,.func cc b6])::(S x.2).b,(S x.2).e,1,cX (S l)⟩) (fun x=>x.1)
   (fun x=>x.2.length=n∧a≤x.1∧x.1≤i∧gr a b l x.2∧tT lt a (i+1) x.1 x.2) (i,lk)
   (H.weakC aw J (by simp[aB])) ⟨J,by simp;omega,by simp,U,fa.but ar⟩ ?_
  rintro⟨j,C3⟩ ⟨aU,agO,ag3,bC,cf⟩ _;simp only at aU agO ag3 bC cf;simp[Pv.look];((with_reducible repeat' first|refine aj ?_|simp[Pv.look]|((first|apply bP|apply bR|apply bQ)<;>intro h<;>try simp at h))<;>(try exact cm))
  ·obtain⟨dD,rfl⟩:∃dD,j=dD+1:=⟨j-1,by omega⟩;obtain⟨x,af⟩:∃x,C3[dD+1]? =some x:=⟨_,bZ (by omega)⟩;obtain⟨y,aM⟩:∃y,C3[dD]? =some y:=⟨_,bZ (by omega)⟩;have ak:(((dD+1:Nat):Int)-1)=(dD:Nat):=by omega
   rw[H.slc,ak];refine H.doLess aU (dD+1) dD af aM ?_;simp;cases hR:lt x y with
   |true=>
    simp[Pv.look];(with_reducible repeat' first|refine aj ?_|simp[Pv.look]);have bj:((dD:Int)+1)=(dD+1:Nat):=by omega
    rw[H.ssc,bj];refine H.doSwap aU (dD+1) dD (by omega) (by omega) (by omega) ?_;simp;(with_reducible repeat' first|refine aj ?_|simp);refine bK.whl (dD,hf C3 (dD+1) dD) (by simp) ⟨by simp[aU],by simp;omega,by simp;omega,.step bC (by omega) (by omega) (by omega) (by omega) (by omega) (by omega),cf.swap bE (by omega) (by omega) (by omega) af aM hR⟩ (H.weakC aw (by simp[aU]) (by simp[aB]))
   |false=>simp;((with_reducible repeat' first|refine aj ?_|simp|((first|apply bP|apply bR|apply bQ)<;>intro h<;>try simp at h))<;>(try exact cm));refine bK.whl (i+1,C3) (by simp;omega) ⟨aU,by simp;omega,by simp;omega,by simp;omega,bC,cf.done bE (by omega) (by omega) af aM hR⟩ (H.weakC aw aU (by simp[aB]))
  ·obtain rfl:j=a:=by omega
   refine bK.whl (i+1,C3) (by simp;omega) ⟨aU,by simp;omega,by simp;omega,by simp;omega,bC,cf.first⟩ (H.weakC aw aU (by simp[aB]))
 ·refine H.ret aw J (.inr rfl) ⟨rfl,lk,rfl,U,fun p q x y bG kB bo=>ar p q x y bG kB (by omega)⟩
end Go.Proofs.YtahlgcidhnjlbaaGreat
namespace Go.Proofs.YtahlgcidhnjlbaaGreat
open Go Go.Pv
variable {α:Type} [Inhabited α] {S:List α→cK} {n g cc:Nat} {lc b6:List ah} {lt:α→α→Bool}
theorem y9{d:Array α}{i:Nat}(h:i<d.size):d.toList[i]? =some d[i]!:=by simp[getElem!_pos,h]
theorem Gs(d:Array α){i j:Nat}(hi:i<d.size)(ae:j<d.size):hf d.toList i j=(Sort.swp d i j).toList:=by simp[hf,Sort.swp,y9 hi,y9 ae]
section
variable (H:e4 S n g cc lc b6 lt)
include H
theorem e4.swapA{d:Array α}(J:d.size=n)(U:2≤n)(i j:Nat)(hi:i<n)(ae:j<n){t:List (Nat×ah)}{D:List ah}{o:List aI}{cg:aZ Nat}{K:bs→Prop}
  (h:∀o,K ⟨eM cg (.tuple []) t,(.loc 0,D)::(S (Sort.swp d i j).toList).b,(S (Sort.swp d i j).toList).e,1,o⟩):c8 ao cc (.int .i64 i:: .int .i64 j::b6) ⟨t,(.loc 0,D)::(S d.toList).b,(S d.toList).e,1,o⟩ cg K:=by
 refine H.doSwap (by simpa using J) i j hi ae U ?_;rw[Gs d (by omega) (by omega)];exact h _
theorem e4.lessA{d:Array α}(J:d.size=n)(i j:Nat)(hi:i<n)(ae:j<n){t:List (Nat×ah)}{D:List ah}{o:List aI}{cg:aZ Nat}{K:bs→Prop}
  (h:∀o,K ⟨eM cg (.bool (lt d[i]! d[j]!)) t,(.loc 0,D)::(S d.toList).b,(S d.toList).e,1,o⟩):c8 ao g (.int .i64 i:: .int .i64 j::lc) ⟨t,(.loc 0,D)::(S d.toList).b,(S d.toList).e,1,o⟩ cg K:=
 H.doLess (by simpa using J) i j (y9 (by omega)) (y9 (by omega)) (h _)
theorem e4.fnA{d d2:Array α}(J:d.size=n)(U:d2.size=n){f:Nat}{args:List ah}{r:ah}(aL:bU ao f args (S d.toList) fun eF ai=>eF=r∧ai=S d2.toList)(ab:aH (inObs (S d.toList)) args){t:List (Nat×ah)}{D:List ah}{o:List aI}{cg:aZ Nat}{K:bs→Prop}
  (h:∀o,K ⟨eM cg r t,(.loc 0,D)::(S d2.toList).b,(S d2.toList).e,1,o⟩):c8 ao f args ⟨t,(.loc 0,D)::(S d.toList).b,(S d.toList).e,1,o⟩ cg K:=
 H.call (by simpa using J) (R:=fun eF a1=>eF=r∧a1=d2.toList) (aL.mono fun r ai ⟨ak,aE⟩=>⟨_,aE,ak,rfl⟩) (fun r a1 ⟨_,e⟩=>by rw[e];simpa using U) ab (by rintro eF a1 ⟨rfl,rfl⟩;exact h _)
end
section
variable (H:e4 S n g cc lc b6 lt)
include H
theorem e4.loopA{β:Type}{yj:List α}(aw:yj.length=n){t:List (Nat×ah)}{b:List (aI×List ah)}{e:List (aI×fN)}{q:Nat}{o:List aI}(ch:List Nat)(cs:β→List (Nat×ah))(A:β→Array α)(mQ:β→Nat)(gP:β→Prop)(a0:β)(bk:(A a0).size=n)(bn:gP a0)
  (vO:Pv.look (.loc 0) b=some [.func g lc,.func cc b6]) (ad:∀k cs,Pv.look k (S (A a0).toList).b=some cs→Pv.look k b=some cs) (he:∀k o,Pv.look k (S (A a0).toList).e=some o→Pv.look k e=some o)
  (aK:∀x∈uN t ch++cs a0,Pv.get x.1 t=x.2∧aB (me (S (A a0).toList) 1) x.2) {c:C} {Q:Exit→bs→Prop}
  (ag:∀a,gP a→cZ ao (cX (S yj)) c (bK (cX (S yj)) (Bq (fun a=>⟨uN t ch++cs a,(.loc 0,[.func g lc,.func cc b6])::(S (A a).toList).b,(S (A a).toList).e,1,cX (S yj)⟩) mQ gP) (mQ a) Q) ⟨uN t ch++cs a,(.loc 0,[.func g lc,.func cc b6])::(S (A a).toList).b,(S (A a).toList).e,1,cX (S yj)⟩):
  cZ ao (cX (S yj)) (.loop c) Q ⟨t,b,e,q,o⟩:=
 oz (fun a=>⟨uN t ch++cs a,(.loc 0,[.func g lc,.func cc b6])::(S (A a).toList).b,(S (A a).toList).e,1,cX (S yj)⟩) mQ gP a0 (H.weak aw (by simpa using bk) aK vO ad he) bn fun a ae _=>ag a ae
theorem e4.callA0{lk:List α}(J:lk.length=n){f:Nat}{args:List ah}{R:ah→List α→Prop}(aL:bU ao f args (S lk) fun r ai=> ∃a1,ai=S a1∧R r a1)(bd:∀r a1,R r a1→a1.length=n)(ab:aH (inObs (S lk)) args){t:List (Nat×ah)}{D:List ah}{o:List aI}{d:aZ Nat}{K:bs→Prop}
  (h:∀r a1,R r a1→∀o,K ⟨eM d r t,(.loc 0,D)::(S a1).b,(S a1).e,1,o⟩):c8 ao f args ⟨t,(S lk).b++[(.loc 0,D)],(S lk).e,1,o⟩ d K:=by
 refine c8.ob aL (H.ok lk) (fun k cs af=>by rw[cI,af]) (fun _ _ af=>af) ab ?_;rintro r ai ⟨a1,rfl,aJ⟩;refine⟨H.same _ _ J (bd _ _ aJ),?_⟩;have ak:cz (S lk).b ((S lk).b++[(.loc 0,D)])=[(.loc 0,D)]:=by rw[iA,gW];simp[cz,H.loc]
 have aE:cz (S lk).e (S lk).e=[]:=gW _;have:=h _ _ aJ (o++cX (S a1));simp only[ak,aE];exact this
theorem e4.swapA0{d:Array α}(J:d.size=n)(U:2≤n)(i j:Nat)(hi:i<n)(ae:j<n){t:List (Nat×ah)}{D:List ah}{o:List aI}{cg:aZ Nat}{K:bs→Prop}
  (h:∀o,K ⟨eM cg (.tuple []) t,(.loc 0,D)::(S (Sort.swp d i j).toList).b,(S (Sort.swp d i j).toList).e,1,o⟩):c8 ao cc (.int .i64 i:: .int .i64 j::b6) ⟨t,(S d.toList).b++[(.loc 0,D)],(S d.toList).e,1,o⟩ cg K:=by
 refine H.callA0 (by simpa using J) (R:=fun r a1=>r= .tuple []∧a1=(Sort.swp d i j).toList) ((H.swap d.toList (by simpa using J) U i j hi ae).mono fun r ai ⟨ak,aE⟩=>⟨_,aE,ak,Gs d (by omega) (by omega)⟩) (fun r a1 ⟨_,e⟩=>by rw[e];simp[Sort.swp,J]) (by simp[aB,aH,H.ksc d.toList (by simpa using J)]) ?_;rintro r a1 ⟨rfl,rfl⟩ o;exact h o
theorem e4.retA{l:List α}{d:Array α}(aw:l.length=n)(J:d.size=n){Q:ah→cK→Prop}{e:Exit}(he:e= .ret∨e= .normal){t:List (Nat×ah)}{D:List ah}{q:Nat}{o:List aI}(bo:Q (.tuple []) (S d.toList)):cV [] (S l) Q e ⟨t,(.loc 0,D)::(S d.toList).b,(S d.toList).e,q,o⟩:=H.ret aw (by simpa using J) he bo
theorem e4.retR{fk:List bA}{l:List α}{d:Array α}(aw:l.length=n)(J:d.size=n){Q:ah→cK→Prop}{e:Exit}(he:e= .ret∨e= .normal){t:List (Nat×ah)}{D:List ah}{q:Nat}{o:List aI}(h:c1 ⟨t,(.loc 0,D)::(S d.toList).b,(S d.toList).e,q,o⟩ fk fun r=>aB (inObs (S d.toList)) r∧Q r (S d.toList)):cV fk (S l) Q e ⟨t,(.loc 0,D)::(S d.toList).b,(S d.toList).e,q,o⟩:=by
 refine cV.at (S d.toList) he (H.ok _) (H.same _ _ aw (by simpa using J)) (fun k cs af=>?_) (fun _ _ af=>af) h;cases k with
 |loc m=>rw[H.loc m]at af;cases af
 |obj m=>simpa[Pv.look]using af
end
theorem gN(d:Array α)(i j:Nat):(Sort.swp d i j).size=d.size:=by simp[Sort.swp]
end Go.Proofs.YtahlgcidhnjlbaaGreat
namespace Go.Proofs.YtahlgcidhnjlbaaGreat
open Go Go.Pv
def PQ:C:=(aa [bJ 2 0] (.seq (.cond (.c (.bool false)) (aa [I 3 0,ca 4 (.conv .u32 (.t 3)),cJ 5 236 4,I 2 5] .ret) .skip) (aa [I 6 0,cJ 7 237 6,I 2 7] .ret)))
@[simp] def ak1:List bA:=[.tmp 2]
def IK:C:=(aa [a6 91 2 4,I 92 1,I 93 2,I 94 11,dJ 95 244 [.t 91,.t 92,.t 93,.t 94],I 90 95,cH 96 0 90,cH 97 1 90,I 14 96,I 15 97] (aa [I 98 15,I 9 98] (aa [I 99 14,I 100 1,bg 101 .sub 99 100,I 102 2,I 103 14,bg 104 .sub 102 103,I 16 101,I 17 104] (aa [I 105 10,aS 106 .quo 105 8,I 18 106] (aa [I 107 16,I 108 17,bg 109 .lss 107 108] (aT 109 (aa [I 110 16,I 111 18,bg 112 .geq 110 111,I 8 112] (aa [a6 113 2 4,I 114 1,I 115 14,I 116 3,dJ 117 214 [.t 113,.t 114,.t 115,.t 116]] (.region [I 118 14,aS 119 .add 118 1,I 1 119]))) (aa [I 120 17,I 121 18,bg 122 .geq 120 121,I 8 122] (aa [a6 123 2 4,I 124 14,aS 125 .add 124 1,I 126 2,I 127 3,dJ 128 214 [.t 123,.t 125,.t 126,.t 127]] (.region [I 129 14,I 2 129])))))))))
def BF:C:=(.seq (aa [I 73 1,aS 74 .gtr 73 0,I 75 74,aq 75 true (aG 76 0 1 4),aq 75 true (av 77 1 76),bW 75 true 78 1,aq 75 true (aS 79 .sub 78 1),bW 75 true 80 11,aq 75 true (gH 81 77 [.t 79,.t 80]),aq 75 true (cy 82 81),du 83 75 82] (aT 83 (aa [a6 84 2 4,I 85 1,I 86 2,I 87 11,dJ 88 243 [.t 84,.t 85,.t 86,.t 87],I 13 88] (aa [I 89 13,I 1 89] (.exit 1))) .skip)) IK)
def IL:C:=(.seq (aa [I 61 8,I 62 61,bW 62 true 63 9,du 64 62 63,I 65 64,bW 65 true 66 12,aq 65 true (aS 67 .eql 66 1),du 68 65 67] (aT 68 (aa [a6 69 2 4,I 70 1,I 71 2,dJ 72 242 [.t 69,.t 70,.t 71]] (aT 72 .ret .skip)) .skip)) BF)
def IM:C:=(aa [a6 43 2 4,I 44 1,I 45 2,dJ 46 240 [.t 43,.t 44,.t 45],I 42 46,cH 47 0 42,cH 48 1 42,I 11 47,I 12 48] (.seq (aa [I 49 12,aS 50 .eql 49 2] (aT 50 (aa [a6 51 2 4,I 52 1,I 53 2,dJ 54 241 [.t 51,.t 52,.t 53]] (aa [I 55 2,aS 56 .sub 55 1,I 57 11,I 58 1,bg 59 .sub 57 58,bg 60 .sub 56 59,I 11 60] (.region [bJ 12 1]))) .skip)) IL))
def P3:C:=(aa [cM 4 0] (aa [be 8 true] (aa [be 9 true] (.block 0 (.loop (.block 1 (aa [I 19 2,I 20 1,bg 21 .sub 19 20,I 10 21] (.seq (aa [I 22 10,aS 23 .leq 22 12] (aT 23 (aa [a6 24 2 4,I 25 1,I 26 2,dJ 27 231 [.t 24,.t 25,.t 26]] .ret) .skip)) (.seq (aa [I 28 3,aS 29 .eql 28 0] (aT 29 (aa [a6 30 2 4,I 31 1,I 32 2,dJ 33 238 [.t 30,.t 31,.t 32]] .ret) .skip)) (.seq (aa [I 34 8,cy 35 34] (aT 35 (aa [a6 36 2 4,I 37 1,I 38 2,dJ 39 239 [.t 36,.t 37,.t 38]] (.region [I 40 3,aS 41 .sub 40 1,I 3 41])) .skip)) IM))))))))))
@[simp] def We:List bA:=[]
@[simp] def asd:List bA:=[.tmp 2]
def PR:C:=(aa [bJ 2 0] (.seq (aa [I 3 0,ca 4 (.bin .geq false (.t 3) (.c (.int .u64 4294967296)))] (aT 4 (aa [I 5 0,ca 6 (.bin .shr false (.t 5) (.c (.int .u64 32))),I 0 6] (.region [bJ 2 32])) .skip)) (.seq (aa [I 7 0,ca 8 (.bin .geq false (.t 7) (.c (.int .u64 65536)))] (aT 8 (aa [I 9 0,ca 10 (.bin .shr false (.t 9) (.c (.int .u64 16))),I 0 10] (.region [I 11 2,aS 12 .add 11 16,I 2 12])) .skip)) (.seq (aa [I 13 0,ca 14 (.bin .geq false (.t 13) (.c (.int .u64 256)))] (aT 14 (aa [I 15 0,ca 16 (.bin .shr false (.t 15) (.c (.int .u64 8))),I 0 16] (.region [I 17 2,aS 18 .add 17 8,I 2 18])) .skip)) (aa [I 19 2,I 20 0,ca 21 (.conv .u8 (.t 20)),ca 22 (.sidx (.c (.str [0,1,2,2,3,3,3,3,4,4,4,4,4,4,4,4,5,5,5,5,5,5,5,5,5,5,5,5,5,5,5,5,6,6,6,6,6,6,6,6,6,6,6,6,6,6,6,6,6,6,6,6,6,6,6,6,6,6,6,6,6,6,6,6,7,7,7,7,7,7,7,7,7,7,7,7,7,7,7,7,7,7,7,7,7,7,7,7,7,7,7,7,7,7,7,7,7,7,7,7,7,7,7,7,7,7,7,7,7,7,7,7,7,7,7,7,7,7,7,7,7,7,7,7,7,7,7,7,8,8,8,8,8,8,8,8,8,8,8,8,8,8,8,8,8,8,8,8,8,8,8,8,8,8,8,8,8,8,8,8,8,8,8,8,8,8,8,8,8,8,8,8,8,8,8,8,8,8,8,8,8,8,8,8,8,8,8,8,8,8,8,8,8,8,8,8,8,8,8,8,8,8,8,8,8,8,8,8,8,8,8,8,8,8,8,8,8,8,8,8,8,8,8,8,8,8,8,8,8,8,8,8,8,8,8,8,8,8,8,8,8,8,8,8,8,8,8,8,8,8,8,8,8,8,8,8])) (.t 21)),ca 23 (.conv .i64 (.t 22)),bg 24 .add 19 23,I 2 24] .ret)))))
@[simp] def AT:List bA:=[.tmp 2]
def PV:C:=(aa [cM 3 0] (aa [I 11 1,I 6 11] (aa [bJ 7 0] (aa [I 12 2,I 13 1,bg 14 .sub 12 13,I 8 14] (.seq (aa [I 15 8,aS 16 .sub 15 1,aS 17 .quo 16 2,I 9 17] (.block 0 (.loop (.seq (aa [I 18 9,aS 19 .geq 18 0] (aT 19 .skip (.exit 0))) (.seq (.block 1 (.region [a6 22 2 3,I 23 9,I 24 8,I 25 6,dJ 26 252 [.t 22,.t 23,.t 24,.t 25]])) (.region [I 20 9,aS 21 .sub 20 1,I 9 21])))))) (aa [I 27 8,aS 28 .sub 27 1,I 10 28] (.block 2 (.loop (.seq (aa [I 29 10,aS 30 .geq 29 0] (aT 30 .skip (.exit 2))) (.seq (.block 3 (aa [aG 33 1 1 3,av 34 1 33,I 35 6,I 36 6,I 37 10,bg 38 .add 36 37,gH 39 34 [.t 35,.t 38]] (.region [a6 40 2 3,I 41 7,I 42 10,I 43 6,dJ 44 252 [.t 40,.t 41,.t 42,.t 43]]))) (.region [I 31 10,aS 32 .sub 31 1,I 10 32])))))))))))
@[simp] def ak2:List bA:=[]
def PT:C:=(aa [cM 3 0] (aa [I 11 2,I 12 1,bg 13 .sub 11 12,I 6 13] (aa [I 14 6,aS 15 .geq 14 8] (aT 15 (aa [I 16 6,ca 17 (.conv .u64 (.t 16)),cW (.alloc 7 (some 902) (.int .u64 0)),bT 1 7 17] (aa [I 18 6,cJ 19 253 18,I 8 19] (aa [I 20 1,I 21 6,aS 22 .quo 21 4,aS 23 .mul 22 2,bg 24 .add 20 23,aS 25 .sub 24 1,I 9 25] (.block 0 (.loop (.seq (aa [I 26 9,I 27 1,I 28 6,aS 29 .quo 28 4,aS 30 .mul 29 2,bg 31 .add 27 30,aS 32 .add 31 1,bg 33 .leq 26 32] (aT 33 .skip (.exit 0))) (.seq (.block 1 (aa [cJ 36 254 7,I 37 8,ca 38 (.bin .sub true (.t 37) (.c (.int .u64 1))),bg 39 .and 36 38,ca 40 (.conv .i64 (.t 39)),I 10 40] (.seq (aa [I 41 10,I 42 6,bg 43 .geq 41 42] (aT 43 (.region [I 44 10,I 45 6,bg 46 .sub 44 45,I 10 46]) .skip)) (.region [aG 47 1 1 3,av 48 1 47,I 49 9,I 50 1,I 51 10,bg 52 .add 50 51,gH 53 48 [.t 49,.t 52]])))) (.region [I 34 9,aS 35 .add 34 1,I 9 35])))))))) .skip))))
@[simp] def Wa:List bA:=[]
def PU:C:=(aa [cM 3 0,bJ 6 0,bJ 7 0] (aa [I 13 2,I 14 1,bg 15 .sub 13 14,I 8 15] (aa [cW (.alloc 9 (some 901) (.int .i64 0))] (aa [I 16 1,I 17 8,aS 18 .quo 17 4,aS 19 .mul 18 1,bg 20 .add 16 19,I 10 20] (aa [I 21 1,I 22 8,aS 23 .quo 22 4,aS 24 .mul 23 2,bg 25 .add 21 24,I 11 25] (aa [I 26 1,I 27 8,aS 28 .quo 27 4,aS 29 .mul 28 3,bg 30 .add 26 29,I 12 30] (.seq (aa [I 31 8,aS 32 .geq 31 8] (aT 32 (.seq (aa [I 33 8,aS 34 .geq 33 50] (aT 34 (aa [a6 35 2 3,I 36 10,dJ 37 255 [.t 35,.t 36,.t 9],I 10 37] (aa [a6 38 2 3,I 39 11,dJ 40 255 [.t 38,.t 39,.t 9],I 11 40] (.region [a6 41 2 3,I 42 12,dJ 43 255 [.t 41,.t 42,.t 9],I 12 43]))) .skip)) (.region [a6 44 2 3,I 45 10,I 46 11,I 47 12,dJ 48 256 [.t 44,.t 45,.t 46,.t 47,.t 9],I 11 48])) .skip)) (aa [av 49 1 9] (.block 0 (aa [aS 52 .eql 49 0,I 51 52] (aT 51 (aa [I 53 11,I 6 53,bJ 7 1] .ret) (aa [aS 55 .eql 49 12,I 54 55] (aT 54 (aa [I 56 11,I 6 56,bJ 7 2] .ret) (aa [I 50 11,I 6 50,bJ 7 0] .ret))))))))))))))
@[simp] def Mh:List bA:=[.tmp 6,.tmp 7]
def P4:C:=(aa [cM 3 0] (aa [I 8 1,I 6 8] (aa [I 9 2,aS 10 .sub 9 1,I 7 10] (.block 0 (.loop (.seq (aa [I 11 6,I 12 7,bg 13 .lss 11 12] (aT 13 .skip (.exit 0))) (.block 1 (aa [aG 14 1 1 3,av 15 1 14,I 16 6,I 17 7,gH 18 15 [.t 16,.t 17]] (aa [I 19 6,aS 20 .add 19 1,I 6 20] (.region [I 21 7,aS 22 .sub 21 1,I 7 22]))))))))))
@[simp] def ak4:List bA:=[]
def P0:C:=(aa [cM 3 0,be 6 false] (aa [I 11 1,aS 12 .add 11 1,I 7 12] (.seq (aa [bJ 8 0] (.block 0 (.loop (.seq (aa [I 13 8,aS 14 .lss 13 5] (aT 14 .skip (.exit 0))) (.seq (.block 1 (.seq (.block 2 (.loop (.seq (aa [I 17 7,I 18 2,bg 19 .lss 17 18,I 20 19,aq 20 true (aG 21 0 1 3),aq 20 true (av 22 1 21),bW 20 true 23 7,bW 20 true 24 7,aq 20 true (aS 25 .sub 24 1),aq 20 true (gH 26 22 [.t 23,.t 25]),aq 20 true (cy 27 26),du 28 20 27] (aT 28 .skip (.exit 2))) (.block 3 (.region [I 29 7,aS 30 .add 29 1,I 7 30]))))) (.seq (aa [I 31 7,I 32 2,bg 33 .eql 31 32] (aT 33 (aa [be 6 true] .ret) .skip)) (.seq (aa [I 34 2,I 35 1,bg 36 .sub 34 35,aS 37 .lss 36 50] (aT 37 (aa [be 6 false] .ret) .skip)) (aa [aG 38 1 1 3,av 39 1 38,I 40 7,I 41 7,aS 42 .sub 41 1,gH 43 39 [.t 40,.t 42]] (.seq (aa [I 44 7,I 45 1,bg 46 .sub 44 45,aS 47 .geq 46 2] (aT 47 (aa [I 48 7,aS 49 .sub 48 1,I 9 49] (.block 4 (.loop (.seq (aa [I 50 9,aS 51 .geq 50 1] (aT 51 .skip (.exit 4))) (.seq (.block 5 (.seq (aa [aG 54 0 1 3,av 55 1 54,I 56 9,I 57 9,aS 58 .sub 57 1,gH 59 55 [.t 56,.t 58],cy 60 59] (aT 60 (.exit 4) .skip)) (.region [aG 61 1 1 3,av 62 1 61,I 63 9,I 64 9,aS 65 .sub 64 1,gH 66 62 [.t 63,.t 65]]))) (.region [I 52 9,aS 53 .sub 52 1,I 9 53])))))) .skip)) (aa [I 67 2,I 68 7,bg 69 .sub 67 68,aS 70 .geq 69 2] (aT 70 (aa [I 71 7,aS 72 .add 71 1,I 10 72] (.block 6 (.loop (.seq (aa [I 73 10,I 74 2,bg 75 .lss 73 74] (aT 75 .skip (.exit 6))) (.seq (.block 7 (.seq (aa [aG 78 0 1 3,av 79 1 78,I 80 10,I 81 10,aS 82 .sub 81 1,gH 83 79 [.t 80,.t 82],cy 84 83] (aT 84 (.exit 6) .skip)) (.region [aG 85 1 1 3,av 86 1 85,I 87 10,I 88 10,aS 89 .sub 88 1,gH 90 86 [.t 87,.t 89]]))) (.region [I 76 10,aS 77 .add 76 1,I 10 77])))))) .skip)))))))) (.region [I 15 8,aS 16 .add 15 1,I 8 16])))))) (aa [be 6 false] .ret))))
@[simp] def G5:List bA:=[.tmp 6]
def P1:C:=(aa [cM 4 0,bJ 8 0] (aa [aG 11 1 1 4,av 12 1 11,I 13 1,I 14 3,gH 15 12 [.t 13,.t 14]] (aa [I 16 1,aS 17 .add 16 1,I 18 2,aS 19 .sub 18 1,I 9 17,I 10 19] (.seq (.block 0 (.loop (.block 1 (.seq (.block 2 (.loop (.seq (aa [I 20 9,I 21 10,bg 22 .leq 20 21,I 23 22,aq 23 true (aG 24 0 1 4),aq 23 true (av 25 1 24),bW 23 true 26 1,bW 23 true 27 9,aq 23 true (gH 28 25 [.t 26,.t 27]),aq 23 true (cy 29 28),du 30 23 29] (aT 30 .skip (.exit 2))) (.block 3 (.region [I 31 9,aS 32 .add 31 1,I 9 32]))))) (.seq (.block 4 (.loop (.seq (aa [I 33 9,I 34 10,bg 35 .leq 33 34,I 36 35,aq 36 true (aG 37 0 1 4),aq 36 true (av 38 1 37),bW 36 true 39 1,bW 36 true 40 10,aq 36 true (gH 41 38 [.t 39,.t 40]),du 42 36 41] (aT 42 .skip (.exit 4))) (.block 5 (.region [I 43 10,aS 44 .sub 43 1,I 10 44]))))) (.seq (aa [I 45 9,I 46 10,bg 47 .gtr 45 46] (aT 47 (.exit 0) .skip)) (aa [aG 48 1 1 4,av 49 1 48,I 50 9,I 51 10,gH 52 49 [.t 50,.t 51]] (aa [I 53 9,aS 54 .add 53 1,I 9 54] (.region [I 55 10,aS 56 .sub 55 1,I 10 56]))))))))) (aa [I 57 9,I 8 57] .ret)))))
@[simp] def Mj:List bA:=[.tmp 8]
def P2:C:=(aa [cM 4 0,bJ 8 0,be 9 false] (aa [aG 12 1 1 4,av 13 1 12,I 14 1,I 15 3,gH 16 13 [.t 14,.t 15]] (aa [I 17 1,aS 18 .add 17 1,I 19 2,aS 20 .sub 19 1,I 10 18,I 11 20] (.seq (.block 0 (.loop (.seq (aa [I 21 10,I 22 11,bg 23 .leq 21 22,I 24 23,aq 24 true (aG 25 0 1 4),aq 24 true (av 26 1 25),bW 24 true 27 10,bW 24 true 28 1,aq 24 true (gH 29 26 [.t 27,.t 28]),du 30 24 29] (aT 30 .skip (.exit 0))) (.block 1 (.region [I 31 10,aS 32 .add 31 1,I 10 32]))))) (.seq (.block 2 (.loop (.seq (aa [I 33 10,I 34 11,bg 35 .leq 33 34,I 36 35,aq 36 true (aG 37 0 1 4),aq 36 true (av 38 1 37),bW 36 true 39 11,bW 36 true 40 1,aq 36 true (gH 41 38 [.t 39,.t 40]),aq 36 true (cy 42 41),du 43 36 42] (aT 43 .skip (.exit 2))) (.block 3 (.region [I 44 11,aS 45 .sub 44 1,I 11 45]))))) (.seq (aa [I 46 10,I 47 11,bg 48 .gtr 46 47] (aT 48 (aa [aG 49 1 1 4,av 50 1 49,I 51 11,I 52 1,gH 53 50 [.t 51,.t 52]] (aa [I 54 11,I 8 54,be 9 true] .ret)) .skip)) (aa [aG 55 1 1 4,av 56 1 55,I 57 10,I 58 11,gH 59 56 [.t 57,.t 58]] (aa [I 60 10,aS 61 .add 60 1,I 10 61] (aa [I 62 11,aS 63 .sub 62 1,I 11 63] (.seq (.block 4 (.loop (.block 5 (.seq (.block 6 (.loop (.seq (aa [I 64 10,I 65 11,bg 66 .leq 64 65,I 67 66,aq 67 true (aG 68 0 1 4),aq 67 true (av 69 1 68),bW 67 true 70 10,bW 67 true 71 1,aq 67 true (gH 72 69 [.t 70,.t 71]),du 73 67 72] (aT 73 .skip (.exit 6))) (.block 7 (.region [I 74 10,aS 75 .add 74 1,I 10 75]))))) (.seq (.block 8 (.loop (.seq (aa [I 76 10,I 77 11,bg 78 .leq 76 77,I 79 78,aq 79 true (aG 80 0 1 4),aq 79 true (av 81 1 80),bW 79 true 82 11,bW 79 true 83 1,aq 79 true (gH 84 81 [.t 82,.t 83]),aq 79 true (cy 85 84),du 86 79 85] (aT 86 .skip (.exit 8))) (.block 9 (.region [I 87 11,aS 88 .sub 87 1,I 11 88]))))) (.seq (aa [I 89 10,I 90 11,bg 91 .gtr 89 90] (aT 91 (.exit 4) .skip)) (aa [aG 92 1 1 4,av 93 1 92,I 94 10,I 95 11,gH 96 93 [.t 94,.t 95]] (aa [I 97 10,aS 98 .add 97 1,I 10 98] (.region [I 99 11,aS 100 .sub 99 1,I 11 100]))))))))) (aa [aG 101 1 1 4,av 102 1 101,I 103 11,I 104 1,gH 105 102 [.t 103,.t 104]] (aa [I 106 11,I 8 106,be 9 false] .ret))))))))))))
@[simp] def DD:List bA:=[.tmp 8,.tmp 9]
def P6:C:=(aa [cM 4 0] (aa [I 10 1,I 8 10] (.block 0 (.loop (.block 1 (aa [I 11 8,ca 12 (.bin .mul false (fQ 2) (.t 11)),aS 13 .add 12 1,I 9 13] (.seq (aa [I 14 9,I 15 2,bg 16 .geq 14 15] (aT 16 (.exit 0) .skip)) (.seq (aa [I 17 9,aS 18 .add 17 1,I 19 2,bg 20 .lss 18 19,I 21 20,aq 21 true (aG 22 0 1 4),aq 21 true (av 23 1 22),bW 21 true 24 3,bW 21 true 25 9,aq 21 true (bg 26 .add 24 25),bW 21 true 27 3,bW 21 true 28 9,aq 21 true (bg 29 .add 27 28),aq 21 true (aS 30 .add 29 1),aq 21 true (gH 31 23 [.t 26,.t 30]),du 32 21 31] (aT 32 (.region [I 33 9,aS 34 .add 33 1,I 9 34]) .skip)) (.seq (aa [aG 35 0 1 4,av 36 1 35,I 37 3,I 38 8,bg 39 .add 37 38,I 40 3,I 41 9,bg 42 .add 40 41,gH 43 36 [.t 39,.t 42],cy 44 43] (aT 44 .ret .skip)) (aa [aG 45 1 1 4,av 46 1 45,I 47 3,I 48 8,bg 49 .add 47 48,I 50 3,I 51 9,bg 52 .add 50 51,gH 53 46 [.t 49,.t 52]] (.region [I 54 9,I 8 54])))))))))))
@[simp] def ak6:List bA:=[]
def PY:C:=(aa [ca 2 (.mov (.c (.int .u64 0)))] (aa [I 4 0,ca 5 (.conv .u64 (.t 4)),cJ 6 213 5,ca 7 (.conv .u64 (.t 6)),I 3 7] (aa [I 8 3,ca 9 (.bin .shl false (.c (.int .u64 1)) (.t 8)),I 2 9] .ret)))
@[simp] def Wd:List bA:=[.tmp 2]
def Qa:C:=(aa [ca 2 (.mov (.c (.int .u64 0)))] (.seq (.drawn true 33 [I 3 0,fw 4 3,av 5 1 4,I 6 0,fw 7 6,av 8 1 7,ca 9 (.bin .shl false (.t 8) (.c (.int .u64 13))),bg 10 .xor 5 9,fw 11 3,bT 1 11 10]) (.seq (.drawn true 33 [I 12 0,fw 13 12,av 14 1 13,I 15 0,fw 16 15,av 17 1 16,ca 18 (.bin .shr false (.t 17) (.c (.int .u64 7))),bg 19 .xor 14 18,fw 20 12,bT 1 20 19]) (.seq (.drawn true 33 [I 21 0,fw 22 21,av 23 1 22,I 24 0,fw 25 24,av 26 1 25,ca 27 (.bin .shl false (.t 26) (.c (.int .u64 17))),bg 28 .xor 23 27,fw 29 21,bT 1 29 28]) (aa [I 30 0,fw 31 30,av 32 1 31,I 2 32] .ret)))))
@[simp] def Wg:List bA:=[.tmp 2]
def PW:C:=(aa [cM 3 0,bJ 6 0] (aa [a6 7 2 3,I 8 1,aS 9 .sub 8 1,I 10 1,I 11 1,aS 12 .add 11 1,I 13 2,dJ 14 256 [.t 7,.t 9,.t 10,.t 12,.t 13],I 6 14] .ret))
@[simp] def Wb:List bA:=[.tmp 6]
def PX:C:=(aa [cM 5 0,bJ 10 0] (aa [a6 12 2 5,I 13 1,I 14 2,I 15 4,dJ 16 271 [.t 12,.t 13,.t 14,.t 15],I 11 16,cH 17 0 11,cH 18 1 11,I 1 17,I 2 18] (aa [a6 20 2 5,I 21 2,I 22 3,I 23 4,dJ 24 271 [.t 20,.t 21,.t 22,.t 23],I 19 24,cH 25 0 19,cH 26 1 19,I 2 25,I 3 26] (aa [a6 28 2 5,I 29 1,I 30 2,I 31 4,dJ 32 271 [.t 28,.t 29,.t 30,.t 31],I 27 32,cH 33 0 27,cH 34 1 27,I 1 33,I 2 34] (aa [I 35 2,I 10 35] .ret)))))
@[simp] def Wc:List bA:=[.tmp 10]
def PZ:C:=(aa [cM 4 0,bJ 8 0,bJ 9 0] (.seq (aa [aG 10 0 1 4,av 11 1 10,I 12 2,I 13 1,gH 14 11 [.t 12,.t 13]] (aT 14 (aa [I 15 3,fw 16 15,av 17 1 16,aS 18 .add 17 1,fw 19 15,bT 1 19 18] (aa [I 20 2,I 21 1,I 8 20,I 9 21] .ret)) .skip)) (aa [I 22 1,I 23 2,I 8 22,I 9 23] .ret)))
@[simp] def Mi:List bA:=[.tmp 8,.tmp 9]
def nC:List (Nat×dF):=[
 (3,⟨1,8,.int .i64,.int .i64 0⟩),
 (5,⟨1,1,.int .u8,.int .u8 0⟩),
 (9,⟨1,16,.str,.str []⟩),
 (143,⟨1,8,.other,.junk⟩),
 (181,⟨1,8,.other,.junk⟩),
 (185,⟨2,16,.struct [(0,143),(1,181)],.agg [.junk,.junk]⟩),
 (192,⟨1,8,.int .u64,.int .u64 0⟩),
 (206,⟨1,4,.int .u32,.int .u32 0⟩),
 (208,⟨1,8,.int .u64,.int .u64 0⟩),
 (222,⟨1,8,.int .u64,.int .u64 0⟩)]
theorem n7:fP ao nC=true:=by kernel_rfl
theorem ai8:b1 nC PQ ak1 1 Tryz.f213=true:=by kernel_rfl
theorem acy:ao.funcs[(213:Nat)]? =some Tryz.f213:=Tryz.func213
theorem ajl:b1 nC P3 We 4 Tryz.f214=true:=by kernel_rfl
theorem acL:ao.funcs[(214:Nat)]? =some Tryz.f214:=Tryz.func214
theorem ai9:b1 nC PR AT 1 Tryz.f237=true:=by kernel_rfl
theorem acz:ao.funcs[(237:Nat)]? =some Tryz.f237:=Tryz.func237
theorem ajd:b1 nC PV ak2 3 Tryz.f238=true:=by kernel_rfl
theorem acD:ao.funcs[(238:Nat)]? =some Tryz.f238:=Tryz.func238
theorem ajb:b1 nC PT Wa 3 Tryz.f239=true:=by kernel_rfl
theorem acB:ao.funcs[(239:Nat)]? =some Tryz.f239:=Tryz.func239
theorem ajc:b1 nC PU Mh 3 Tryz.f240=true:=by kernel_rfl
theorem acC:ao.funcs[(240:Nat)]? =some Tryz.f240:=Tryz.func240
theorem ajm:b1 nC P4 ak4 3 Tryz.f241=true:=by kernel_rfl
theorem acM:ao.funcs[(241:Nat)]? =some Tryz.f241:=Tryz.func241
theorem aji:b1 nC P0 G5 3 Tryz.f242=true:=by kernel_rfl
theorem acI:ao.funcs[(242:Nat)]? =some Tryz.f242:=Tryz.func242
theorem ajj:b1 nC P1 Mj 4 Tryz.f243=true:=by kernel_rfl
theorem acJ:ao.funcs[(243:Nat)]? =some Tryz.f243:=Tryz.func243
theorem ajk:b1 nC P2 DD 4 Tryz.f244=true:=by kernel_rfl
theorem acK:ao.funcs[(244:Nat)]? =some Tryz.f244:=Tryz.func244
theorem ajo:b1 nC P6 ak6 4 Tryz.f252=true:=by kernel_rfl
theorem acO:ao.funcs[(252:Nat)]? =some Tryz.f252:=Tryz.func252
theorem ajg:b1 nC PY Wd 1 Tryz.f253=true:=by kernel_rfl
theorem acG:ao.funcs[(253:Nat)]? =some Tryz.f253:=Tryz.func253
theorem ajs:b1 nC Qa Wg 1 Tryz.f254=true:=by kernel_rfl
theorem acS:ao.funcs[(254:Nat)]? =some Tryz.f254:=Tryz.func254
theorem aje:b1 nC PW Wb 3 Tryz.f255=true:=by kernel_rfl
theorem acE:ao.funcs[(255:Nat)]? =some Tryz.f255:=Tryz.func255
theorem ajf:b1 nC PX Wc 5 Tryz.f256=true:=by kernel_rfl
theorem acF:ao.funcs[(256:Nat)]? =some Tryz.f256:=Tryz.func256
theorem ajh:b1 nC PZ Mi 4 Tryz.f271=true:=by kernel_rfl
theorem acH:ao.funcs[(271:Nat)]? =some Tryz.f271:=Tryz.func271
end Go.Proofs.YtahlgcidhnjlbaaGreat
