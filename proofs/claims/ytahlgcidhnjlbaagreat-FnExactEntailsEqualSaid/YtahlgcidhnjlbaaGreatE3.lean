/- made by mk2.py: the code of the functions, and the checks against the program's own form. -/
import Derived.Test.YtahlgcidhnjlbaaGreatProg
import Derived.Shelf.Sort.Plain
import Derived.Ground.NamesProg
import Derived.Sort.OwnSortedInts
import Derived.Lib.OwnBridge
import Derived.Sort.AssemblyPlain
import Derived.Sort.LotD5
import Derived.Test.YtahlgcidhnjlbaaGreatE2
set_option linter.all false
set_option maxHeartbeats 4000000
open Bool renaming and_eq_true→cz,eq_iff_iff→p5,false_eq_true→gP,or_eq_true→mB
open Go renaming Program→cB
open Go.IntKind renaming bits→nN,signed→rX,u64→hc,wrap→rY
open Go.IntWalk renaming i64_in→oO
open Go.Op renaming bytesLess→hl
open Go.Proofs.Tryz renaming prog→al
open Go.Value renaming cells→po
open List renaming all_eq_true→jc,cons_append→bT,drop→nm,drop_eq_getElem_cons→la,getElem?_eq_getElem→cf,getElem?_eq_none→p7,getElem?_eq_some_iff→fN,getElem_of_mem→nn,length_append→pq,length_cons→p8,length_drop→r1,map_cons→gG,mem_append→jU,mem_cons→fU,mem_filter→mD,mem_map→h8,mem_of_getElem?→eK,nil_append→bY,pairwise_cons→mE,pairwise_iff_getElem→pt,take_of_length_le→hn
open List.Nodup renaming length_le_of_subset→M9
open List.Pairwise renaming filter→XF,imp_of_mem→am3,sublist→asq
open List.Perm renaming eq_of_pairwise→Na,swap→asr
open List.cons renaming injEq→p6
open Nat renaming le_refl→eR,le_trans→jV
open Ne renaming symm→kR
open Option renaming bind_eq_some_iff→mF,getD_none→kB,getD_some→j9,map_eq_some_iff→gH,map_some→nQ
open Option.some renaming inj→fh,injEq→dG
open Prod.mk renaming injEq→jm
open _root_ renaming False→eo,UInt8→dB,beq_iff_eq→dL,congrArg→e7,decide_eq_false→jn,decide_eq_false_iff_not→hE,decide_eq_true→jd,decide_eq_true_eq→fE
namespace Go.Pv
open Go
structure bJ where
 v:Int
 k:Int
 deriving DecidableEq,Inhabited
def bJ.e(b:bJ):ah:= .agg [.int .i64 b.v,.int .i64 b.k]
@[simp] theorem bJ.eta(b:bJ):bJ.mk b.v b.k=b:=rfl
@[simp] theorem Nx(v k:Int):ah.agg [.int .i64 v,.int .i64 k]=(bJ.mk v k).e:=rfl
@[simp] theorem apw(S:aH→Prop)(b:bJ):aC S b.e=True:=by simp[bJ.e,-Nx]
@[simp] theorem ar5(b:bJ):dh b.e=b.e:=by simp[bJ.e,-Nx]
theorem Tw(S:aH→Prop):∀l:List bJ,aJ S (l.map bJ.e)
 |[]=>by simp[aJ]
 |x::xs=>by simp[aJ,Tw S xs]
@[simp] theorem ape(S:aH→Prop)(l:List bJ):aJ S (l.map bJ.e)=True:=eq_true (Tw S l)
@[simp] theorem Mm:∀l:List bJ,cR (l.map bJ.e)=l.map bJ.e
 |[]=>rfl
 |x::xs=>by simp[cR,Mm xs]
@[simp] theorem arG(b:bJ):dX b.e=true:=rfl
@[simp] theorem anI(b:bJ):cells b.e=[.int .i64 b.v,.int .i64 b.k]:=rfl
@[simp] theorem aoW(b:bJ):Pv.isAgg 2 b.e:=⟨_,rfl,rfl⟩
@[simp] theorem aoh(off:Nat)(e2:Bool)(sz:Nat)(b:bJ):qZ off e2 sz b.e=if e2 then some (off+sz≤2,.agg (([.int .i64 b.v,.int .i64 b.k].drop off).take sz))else(([.int .i64 b.v,.int .i64 b.k]:List ah)[off]?).map fun p=>(True,p):=rfl
@[simp] theorem an7(off:Nat)(e2:Bool)(sz:Nat)(b:bJ):pH off e2 sz (.eptr b.e)=if e2 then some (off+sz≤2,.eptr (.agg (([.int .i64 b.v,.int .i64 b.k].drop off).take sz)))else(([.int .i64 b.v,.int .i64 b.k]:List ah)[off]?).map fun p=>(dX p=true∧cells p=[p],.eptr p):=rfl
structure bj where
 v:Int
 s:List dB
 deriving DecidableEq,Inhabited
def bj.e(b:bj):ah:= .agg [.int .i64 b.v,.str b.s]
@[simp] theorem bj.eta(b:bj):bj.mk b.v b.s=b:=rfl
@[simp] theorem HB(v:Int)(s:List dB):ah.agg [.int .i64 v,.str s]=(bj.mk v s).e:=rfl
@[simp] theorem afT(S:aH→Prop)(b:bj):aC S b.e=True:=by simp[bj.e,-HB]
@[simp] theorem ar9(b:bj):dh b.e=b.e:=by simp[bj.e,-HB]
theorem Kk(S:aH→Prop):∀l:List bj,aJ S (l.map bj.e)
 |[]=>by simp[aJ]
 |x::xs=>by simp[aJ,Kk S xs]
@[simp] theorem Ty(S:aH→Prop)(l:List bj):aJ S (l.map bj.e)=True:=eq_true (Kk S l)
@[simp] theorem Mn:∀l:List bj,cR (l.map bj.e)=l.map bj.e
 |[]=>rfl
 |x::xs=>by simp[cR,Mn xs]
@[simp] theorem arK(b:bj):dX b.e=true:=rfl
@[simp] theorem anM(b:bj):cells b.e=[.int .i64 b.v,.str b.s]:=rfl
@[simp] theorem aoY(b:bj):Pv.isAgg 2 b.e:=⟨_,rfl,rfl⟩
@[simp] theorem aoi(off:Nat)(e2:Bool)(sz:Nat)(b:bj):qZ off e2 sz b.e=if e2 then some (off+sz≤2,.agg (([.int .i64 b.v,.str b.s].drop off).take sz))else(([.int .i64 b.v,.str b.s]:List ah)[off]?).map fun p=>(True,p):=rfl
@[simp] theorem an8(off:Nat)(e2:Bool)(sz:Nat)(b:bj):pH off e2 sz (.eptr b.e)=if e2 then some (off+sz≤2,.eptr (.agg (([.int .i64 b.v,.str b.s].drop off).take sz)))else(([.int .i64 b.v,.str b.s]:List ah)[off]?).map fun p=>(dX p=true∧cells p=[p],.eptr p):=rfl
def fc(x y:bj):Int:=if ez x.v y.v=0 then ku x.s y.s else ez x.v y.v
theorem lD:jo fc:=by
 refine⟨fun x y=>?_,fun x y z J U=>?_,fun x y=>?_⟩
 ·unfold fc;have:=j6.neg x.v y.v;have:=CI.neg x.s y.s;by_cases e:ez x.v y.v=0
  ·rw[if_pos e,if_pos (by omega)];omega
  ·rw[if_neg e,if_neg (by omega)];omega
 ·unfold fc at J U⊢;by_cases ak:ez x.v y.v=0
  ·rw[if_pos ak]at J;rw[(j6.zero _ _).1 ak];by_cases aB:ez y.v z.v=0
   ·rw[if_pos aB]at U⊢;exact CI.tr _ _ _ J U
   ·rw[if_neg aB]at U⊢;exact U
  ·rw[if_neg ak]at J;have bC:ez x.v y.v<0:=by omega
   by_cases aB:ez y.v z.v=0
   ·rw[←(j6.zero _ _).1 aB,if_neg ak];exact J
   ·rw[if_neg aB]at U;have:=j6.ltr bC U;rw[if_neg (by omega)];omega
 ·unfold fc;by_cases e:ez x.v y.v=0
  ·rw[if_pos e,CI.zero];have:=(j6.zero _ _).1 e;cases x;cases y;simp_all
  ·rw[if_neg e];exact⟨fun h=>absurd h e,fun h=>by rw[h]at e;exact absurd (j6.refl _) e⟩
def sL(x y:bj):Bool:=decide (x.v<y.v)||(x.v==y.v&&hl x.s y.s)
theorem Yv(a:List dB):hl a a=false:=by
 cases h:hl a a with
 |false=>rfl
 |true=>rw[HH a a h]at h;cases h
theorem Uj(x y:bj):sL x y=hB fc x y:=by
 unfold sL hB fc;rw[p5];simp only[mB,fE,cz,dL];by_cases e:x.v=y.v
 ·have:ez x.v y.v=0:=(j6.zero _ _).2 e;rw[if_pos this];simp only[e,Int.lt_irrefl,false_or,true_and,ku];by_cases aB:x.s=y.s
  ·rw[if_pos aB,aB,Yv];simp
  ·rw[if_neg aB];split<;>simp_all
 ·have bB:¬ez x.v y.v=0:=fun h=>e ((j6.zero _ _).1 h);rw[if_neg bB];simp only[e,false_and,or_false];unfold ez;(repeat' split)<;>omega
def h0{α:Type}(p:α→Prop)(r:α→α→Prop)(l:List α)(i:Nat):Prop:= ∀b,l[i]? =some b→p b∧∀c,0<i→l[i-1]? =some c→r c b
theorem Nt{α:Type}{p:α→Prop}{r:α→α→Prop}(aN:∀a b c,r a b→r b c→r a c){l:List α}:(∀i,i<l.length→h0 p r l i)↔(∀b∈l,p b)∧l.Pairwise r:=by
 constructor
 ·intro h;refine⟨fun b ae=>?_,?_⟩
  ·obtain⟨i,hi,e⟩:=nn ae;exact(h i hi b (by rw[cf hi,e])).1
  ·rw[pt];have jx:∀i (h:i+1<l.length),r l[i] l[i+1]:=fun i hi=>(h (i+1) hi l[i+1] (by simp[cf hi])).2 l[i] (by omega) (by simp[cf (show i<l.length by omega)]);have:∀(d i:Nat) (h:i+d+1<l.length),r l[i] l[i+d+1]:=by
    intro d;induction d with
    |zero=>intro i h;exact jx i h
    |succ d bS=>intro i h;exact aN _ _ _ (bS i (by omega)) (jx (i+d+1) (by omega))
   intro i j hi af lS;have:=this (j-i-1) i (by omega);simpa[show i+(j-i-1)+1=j from by omega]using this
 ·rintro⟨J,U⟩ i hi b ae;refine⟨J b (eK ae),fun c bB ay=>?_⟩;obtain⟨g1,ak⟩:=fN.1 ay;obtain⟨g2,aB⟩:=fN.1 ae;have:=pt.1 U (i-1) i g1 g2 (by omega);rw[ak,aB]at this;exact this
def j4{α:Type}(c:α→α→Int)(x:α):List α→List α
 |[]=>[x]
 |y::l=>if c y x<0 then y::j4 c x l else if c y x=0 then y::l else x::y::l
section
variable {α:Type} {c:α→α→Int}
theorem FI(ay:jo c){x z:α}:∀{l:List α},z∈j4 c x l↔z=x∨z∈l
 |[]=>by simp[j4]
 |y::l=>by
  simp only[j4];split
  ·simp only[fU,FI ay (l:=l)];constructor
   ·rintro(h|h|h)
    ·exact .inr (.inl h)
    ·exact .inl h
    ·exact .inr (.inr h)
   ·rintro(h|h|h)
    ·exact .inr (.inl h)
    ·exact .inl h
    ·exact .inr (.inr h)
  ·split
   ·rename_i h;obtain rfl:=(ay.zero _ _).1 h;simp
   ·simp
theorem J5(ay:jo c){x:α}:∀{l:List α},hF c l→hF c (j4 c x l)
 |[],_=>by simp[j4,hF]
 |y::l,h=>by
  obtain⟨J,U⟩:=mE.1 h;simp only[j4];split
  ·rename_i ao;refine mE.2 ⟨fun z br=>?_,J5 ay U⟩;rcases(FI ay).1 br with rfl|br
   ·exact ao
   ·exact J z br
  ·split
   ·exact h
   ·rename_i ao a8;have hK:c x y<0:=by have:=ay.neg x y;omega
    refine mE.2 ⟨fun z br=>?_,h⟩;rcases fU.1 br with rfl|br
    ·exact hK
    ·exact ay.ltr hK (by have:=J z br;omega)
theorem J7(x:α):∀l:List α,(j4 c x l).length≤l.length+1
 |[]=>by simp[j4]
 |y::l=>by
  have:=J7 x l;simp only[j4];split
  ·simp;omega
  ·split<;>simp
theorem J6(ay:jo c)(x:α):∀(l:List α) (k:Nat),(∀i y,i<k→l[i]? =some y→c y x<0)→(∀y,l[k]? =some y→0≤c y x)→k≤l.length→j4 c x l=if(match l[k]? with|some y=>decide (c y x=0)|none=>false)=true then l else l.take k++x::l.drop k
 |[],k,_,_,ad=>by simp at ad;subst ad;simp[j4]
 |y::l,0,_,U,_=>by
  have:=U y rfl;by_cases e:c y x=0
  ·simp[j4,e]
  ·have ao:¬c y x<0:=by omega
   simp[j4,ao,e]
 |y::l,k+1,J,U,ad=>by
  have bB:=J 0 y (by omega) rfl;simp only[j4,if_pos bB,List.take_succ_cons,List.drop_succ_cons,bT,List.getElem?_cons_succ];rw[J6 ay x l k (fun i d hi aQ=>J (i+1) d (by omega) (by simpa using aQ)) (fun d aQ=>U d (by simpa using aQ)) (by simpa using ad)];cases l[k]? with
  |none=>rfl
  |some z=>simp only[];split<;>rfl
end
structure iV (l:List bJ):Prop where
 at':∀x∈l,(0≤x.v∧x.v≤100000)∧(x.k=2∨x.k=3)
 asc:l.Pairwise fun x y=>x.v<y.v
def k2(l:List bJ)(v:Int):Option Int:=(l.find? fun x=>x.v==v).map (·.k)
def lz(x:bJ):List bJ→List bJ
 |[]=>[x]
 |y::l=>if y.v<x.v then y::lz x l else x::y::l
theorem FJ{x z:bJ}:∀{l:List bJ},z∈lz x l↔z=x∨z∈l
 |[]=>by simp[lz]
 |y::l=>by
  simp only[lz];split
  ·simp only[fU,FJ (l:=l)];constructor
   ·rintro(h|h|h)
    ·exact .inr (.inl h)
    ·exact .inl h
    ·exact .inr (.inr h)
   ·rintro(h|h|h)
    ·exact .inr (.inl h)
    ·exact .inl h
    ·exact .inr (.inr h)
  ·simp
theorem J8(x:bJ):∀l:List bJ,(lz x l).Perm (x::l)
 |[]=>.refl _
 |y::l=>by
  simp only[lz];split
  ·exact((J8 x l).cons y).trans (asr _ _ _)
  ·exact .refl _
theorem Fc{x:bJ}:∀{l:List bJ},l.Pairwise (fun x y=>x.v<y.v)→(∀y∈l,y.v≠x.v)→(lz x l).Pairwise fun x y=>x.v<y.v
 |[],_,_=>by simp[lz]
 |y::l,h,aw=>by
  obtain⟨J,U⟩:=mE.1 h;have aG:=aw y (by simp);simp only[lz];split
  ·rename_i ao;refine mE.2 ⟨fun z br=>?_,Fc U fun z br=>aw z (by simp[br])⟩;rcases FJ.1 br with rfl|br
   ·exact ao
   ·exact J z br
  ·refine mE.2 ⟨fun z br=>?_,h⟩;rcases fU.1 br with rfl|br
   ·omega
   ·have:=J z br;omega
theorem SY(x:bJ):∀(l:List bJ) (k:Nat),(∀i y,i<k→l[i]? =some y→y.v<x.v)→(∀y,l[k]? =some y→¬y.v<x.v)→k≤l.length→lz x l=l.take k++x::l.drop k
 |[],k,_,_,ad=>by simp at ad;subst ad;rfl
 |y::l,0,_,U,_=>by have:=U y rfl;simp[lz,this]
 |y::l,k+1,J,U,ad=>by have bB:=J 0 y (by omega) rfl;simp only[lz,if_pos bB,List.take_succ_cons,List.drop_succ_cons,bT];rw[SY x l k (fun i d hi aQ=>J (i+1) d (by omega) (by simpa using aQ)) (fun d aQ=>U d (by simpa using aQ)) (by simpa using ad)]
theorem Tf{l aZ:List bJ}(bI:aZ.Perm l)(aQ:l.Pairwise fun x y=>x.v<y.v)(ag:aZ.Pairwise fun x y=>decide (y.v<x.v)=false):aZ=l:=by
 refine Na (le:=fun x y:bJ=>x.v≤y.v) (fun x y ab aG J U=>?_) (ag.imp (by simp)) (aQ.imp (by omega)) bI;have h4:x∈l:=bI.mem_iff.1 ab;have rq:y∈l:=aG;obtain⟨i,hi,rfl⟩:=nn h4;obtain⟨j,af,rfl⟩:=nn rq;have:=pt.1 aQ;rcases Nat.lt_trichotomy i j with h|h|h
 ·have:=this i j hi af h;omega
 ·subst h;rfl
 ·have:=this j i af hi h;omega
theorem xy{l:List bJ}{v:Int}:k2 l v=none↔∀x∈l,x.v≠v:=by simp[k2]
theorem Tn{l:List bJ}{v k:Int}(h:k2 l v=some k):(⟨v,k⟩:bJ)∈l:=by unfold k2 at h;rw[gH]at h;obtain⟨x,J,rfl⟩:=h;have U:=List.find?_some J;simp at U;subst U;exact List.mem_of_find?_eq_some J
theorem Fs{l:List bJ}(bE:l.Pairwise fun x y=>x.v<y.v){x:bJ}(h:x∈l):k2 l x.v=some x.k:=by
 induction l with
 |nil=>simp at h
 |cons y l bS=>
  obtain⟨J,U⟩:=mE.1 bE;rcases fU.1 h with rfl|h
  ·simp[k2]
  ·have:=J x h;have e:=bS U h;unfold k2 at e⊢;rw[List.find?_cons_of_neg (by simp;omega)];exact e
def ka(l:List bJ)(t:T)(k:Int):Option (List bJ):=match t with
 | .var n=>match k2 l n with
  |some bL=>if bL=k then some l else none
  |none=>some (lz ⟨n,k⟩ l)
 |t=>if t.kind=k then some l else none
theorem Hv{l aZ:List bJ}{t:T}{k:Int}(h:iV l)(aN:t.ok=true)(ad:k=2∨k=3)(he:ka l t k=some aZ):iV aZ:=by
 unfold ka at he;split at he
 ·rename_i n;split at he
  ·split at he
   ·cases he;exact h
   ·cases he
  ·rename_i aw;cases he;rw[xy]at aw;refine⟨fun x ab=>?_,Fc h.asc aw⟩;rcases FJ.1 ab with rfl|ab
   ·exact⟨by simpa[T.ok]using aN,ad⟩
   ·exact h.at' x ab
 ·split at he
  ·cases he;exact h
  ·cases he
theorem sD{l:List bJ}(h:iV l):l.length≤100001:=by
 have J:(l.map (·.v)).Nodup:=by rw[List.nodup_iff_pairwise_ne,List.pairwise_map];exact h.asc.imp fun h e=>by omega
 have:=Tl J fun v aK=>by obtain⟨x,ab,rfl⟩:=h8.1 aK;exact(h.at' x ab).1
 simpa using this
def ga(s:List ar):List bJ→List bJ→Option (List bJ)
 |[],acc=>some acc
 |x::r,acc=>match ka acc (cA s x.v) x.k with
  |some a=>ga s r a
  |none=>none
structure hC (l:List bj):Prop where
 at':∀x∈l,(0≤x.v∧x.v≤100000)∧jy x.s=true
 asc:hF fc l
def _root_.Go.Pv.T.has(s:List dB):T→Bool
 | .sym n=>n==s
 | .pair a b=>a.has s||b.has s
 |_=>false
def lL(l:List bj)(t:T)(s:List dB):Option (List bj):=if t.has s then none else some (asc fc (l++(nl t).map fun v=>⟨v,s⟩))
theorem Dl{t:T}{v:Int}:v∈nl t↔t.occ v=true:=by
 refine⟨fun h=>?_,xG⟩;induction t with
 |var n=>simp[nl]at h;simp[T.occ,h]
 |pair a b dQ dR=>simp only[nl,jU]at h;simp only[T.occ,mB];exact h.imp dQ dR
 |_=>simp[nl]at h
theorem Cq{l aZ:List bj}{t:T}{s:List dB}(h:lL l t s=some aZ)(x:bj):x∈aZ↔x∈l∨(x.s=s∧t.occ x.v=true):=by
 unfold lL at h;split at h
 ·cases h
 ·cases h;rw[T3,jU,h8];refine or_congr_right ?_;constructor
  ·rintro⟨v,aK,rfl⟩;exact⟨rfl,Dl.1 aK⟩
  ·rintro⟨J,U⟩;exact⟨x.v,Dl.2 U,by rw[←J]⟩
theorem Hw{l aZ:List bj}{t:T}{s:List dB}(cM:t.has s=false)(bE:hF fc aZ)(hm:∀x,x∈aZ↔x∈l∨(x.s=s∧t.occ x.v=true)):lL l t s=some aZ:=by
 have h:lL l t s=some (asc fc (l++(nl t).map fun v=>⟨v,s⟩)):=by unfold lL;rw[cM];rfl
 rw[h];congr 1;exact(HC lD _).ext lD bE fun x=>by rw[hm,←Cq h]
theorem Hx{l aZ:List bj}{t:T}{s:List dB}(h:hC l)(aN:t.ok=true)(ag:jy s=true)(he:lL l t s=some aZ):hC aZ:=by
 refine⟨fun x ab=>?_,?_⟩
 ·rcases(Cq he x).1 ab with J|⟨J,U⟩
  ·exact h.at' x J
  ·exact⟨wk aN U,by rw[J];exact ag⟩
 ·unfold lL at he;split at he
  ·cases he
  ·cases he;exact HC lD _
def gb(s:List ar):List bj→List bj→Option (List bj)
 |[],acc=>some acc
 |x::r,acc=>match lL acc (cA s x.v) x.s with
  |some a=>gb s r a
  |none=>none
end Go.Pv
namespace Go.Proofs.YtahlgcidhnjlbaaGreat
open Go Go.Pv
def Ob:C:=(aa [cx 1 0,be 2 false] (aa [aW 3 4 1,dn 4 131 [.t 3,(gd 5000)],aU 5 .gtr 4 0,I 2 5] .ret))
@[simp] def Va:List bt:=[.tmp 2]
@[simp] def aqC:List bt:=[.tmp 2]
def OG:C:=(aa [c3 (.box 2 (some 201) (.t 0)),cx 3 1,dk 4 dO,be 5 false] (aa [aW 6 4 3,b5 7 (.mkf 138 [.t 2]),b7 8 137 6 7,cC 9 0 8,cC 10 1 8,bK 4 4 9,I 5 10] .ret))
@[simp] def Vr:List bt:=[.cell 4 true 4,.tmp 5]
def PH:C:=(aa [dk 2 dO] (aa [I 3 0,iu 4 dO [(0,1,(gd 1)),(1,1,(.t 3))],bK 4 2 4] .ret))
@[simp] def aj6:List bt:=[.cell 2 true 4]
def yA:C:=(aa [cx 1 0,dk 2 dO] (aa [aF 6 0 1 1,ax 7 1 6,aF 8 1 1 1,ax 9 1 8,aF 10 2 1 1,ax 11 1 10,iu 12 dO [(0,1,(.t 7)),(1,1,(.t 9)),(2,1,(.t 11))],dk 3 dO,bK 4 3 12] (.seq (aa [aF 13 3 1 1,ax 14 1 13,cn 15 14,bV 16 0] (fw 17 16 15 (.seq (.block 1 (aa [ct 18 4 14 16,aW 19 4 18,dk 5 dO,bK 4 5 19] (.drawn true 29 [aF 20 3 1 3,ax 21 1 20,aW 22 4 5,cD 23 130 22,ei 24 4 30 [.t 23],gF 25 4 30 21 24,aF 26 3 1 3,bK 1 26 25]))) (.region [aU 27 .add 16 1,I 16 27])))) (aa [aW 28 4 3,bK 4 2 28] .ret))))
@[simp] def aj5:List bt:=[.cell 2 true 4]
def OC:C:=(aa [cx 2 0,bV 4 0] (.seq (aa [I 7 1,aU 8 .lss 7 1] (aT 8 (aa [bV 4 (-1)] .ret) .skip)) (.seq (aa [aF 9 0 1 2,ax 10 1 9,aU 11 .neq 10 4] (aT 11 (.seq (aa [aF 12 3 1 2,ax 13 1 12,cn 14 13,aU 15 .neq 14 0] (aT 15 (aa [bV 4 (-1)] .ret) .skip)) (.seq (aa [aF 16 0 1 2,ax 17 1 16] (.block 0 (aa [aU 19 .eql 17 0,I 18 19] (aT 18 (aa [aF 20 1 1 2,ax 21 1 20,aU 22 .neq 21 0,I 23 22,aq 23 false (aF 24 2 1 2),aq 23 false (ax 25 1 24),wq 23 false 26 (.bin .neq false (.t 25) (.c (.str []))),c2 27 23 26] (aT 27 (aa [bV 4 (-1)] .ret) .skip)) (aa [aU 29 .eql 17 1,I 28 29] (aT 28 (aa [aF 30 1 1 2,ax 31 1 30,aU 32 .lss 31 0,I 33 32,aq 33 false (aF 34 1 1 2),aq 33 false (ax 35 1 34),aq 33 false (aU 36 .gtr 35 100000),c2 37 33 36,I 38 37,aq 38 false (aF 39 2 1 2),aq 38 false (ax 40 1 39),wq 38 false 41 (.bin .neq false (.t 40) (.c (.str []))),c2 42 38 41] (aT 42 (aa [bV 4 (-1)] .ret) .skip)) (aa [aU 44 .eql 17 2,I 43 44] (aT 43 (aa [aF 45 1 1 2,ax 46 1 45,aU 47 .neq 46 0,I 48 47,aq 48 false (aF 49 2 1 2),aq 48 false (ax 50 1 49),aq 48 false (cD 51 160 50),aq 48 false (cu 52 51),c2 53 48 52] (aT 53 (aa [bV 4 (-1)] .ret) .skip)) (aa [aU 55 .eql 17 3,I 54 55] (aT 54 (aa [aF 56 1 1 2,ax 57 1 56,aU 58 .lss 57 (-1000000000),I 59 58,aq 59 false (aF 60 1 1 2),aq 59 false (ax 61 1 60),aq 59 false (aU 62 .gtr 61 1000000000),c2 63 59 62,I 64 63,aq 64 false (aF 65 2 1 2),aq 64 false (ax 66 1 65),wq 64 false 67 (.bin .neq false (.t 66) (.c (.str []))),c2 68 64 67] (aT 68 (aa [bV 4 (-1)] .ret) .skip)) (aa [bV 4 (-1)] .ret))))))))))) (aa [bV 4 1] .ret))) .skip)) (.seq (aa [aF 69 1 1 2,ax 70 1 69,aU 71 .neq 70 0,I 72 71,aq 72 false (aF 73 2 1 2),aq 72 false (ax 74 1 73),wq 72 false 75 (.bin .neq false (.t 74) (.c (.str []))),c2 76 72 75,I 77 76,aq 77 false (aF 78 3 1 2),aq 77 false (ax 79 1 78),aq 77 false (cn 80 79),aq 77 false (aU 81 .neq 80 2),c2 82 77 81] (aT 82 (aa [bV 4 (-1)] .ret) .skip)) (aa [aF 83 3 1 2,ax 84 1 83,jH 85 4 84 0,aW 86 4 85,I 87 1,aU 88 .sub 87 1,b7 89 131 86 88,I 5 89] (.seq (aa [I 90 5,aU 91 .lss 90 0] (aT 91 (aa [bV 4 (-1)] .ret) .skip)) (aa [aF 92 3 1 2,ax 93 1 92,jH 94 4 93 1,aW 95 4 94,I 96 1,aU 97 .sub 96 1,I 98 5,bo 99 .sub 97 98,b7 100 131 95 99,I 6 100] (.seq (aa [I 101 6,aU 102 .lss 101 0] (aT 102 (aa [bV 4 (-1)] .ret) .skip)) (aa [I 103 5,b5 104 (.bin .add false (gd 1) (.t 103)),I 105 6,bo 106 .add 104 105,I 4 106] .ret)))))))))
@[simp] def Ge:List bt:=[.tmp 4]
def DS:C:=(aa [cx 2 0,cx 3 1,bV 4 0] (.seq (aa [aF 6 0 1 2,ax 7 1 6,aF 8 0 1 3,ax 9 1 8,bo 10 .neq 7 9] (aT 10 (aa [aF 11 0 1 2,ax 12 1 11,aF 13 0 1 3,ax 14 1 13,b7 15 190 12 14,I 4 15] .ret) .skip)) (.seq (aa [aF 16 1 1 2,ax 17 1 16,aF 18 1 1 3,ax 19 1 18,bo 20 .neq 17 19] (aT 20 (aa [aF 21 1 1 2,ax 22 1 21,aF 23 1 1 3,ax 24 1 23,b7 25 190 22 24,I 4 25] .ret) .skip)) (.seq (aa [aF 26 2 1 2,ax 27 1 26,aF 28 2 1 3,ax 29 1 28,bo 30 .neq 27 29] (aT 30 (.seq (aa [aF 31 2 1 2,ax 32 1 31,aF 33 2 1 3,ax 34 1 33,bo 35 .lss 32 34] (aT 35 (aa [bV 4 (-1)] .ret) .skip)) (aa [bV 4 1] .ret)) .skip)) (.seq (aa [aF 36 0 1 2,ax 37 1 36,aU 38 .neq 37 4] (aT 38 (aa [bV 4 0] .ret) .skip)) (.seq (.seq (.drawn true 60 [aF 39 3 1 2,ax 40 1 39,jH 41 4 40 0,aW 42 4 41,aF 43 3 1 3,ax 44 1 43,jH 45 4 44 0,aW 46 4 45,b7 47 133 42 46,I 5 47]) (aa [I 48 5,aU 49 .neq 48 0] (aT 49 (aa [I 50 5,I 4 50] .ret) .skip))) (.seq (.drawn true 60 [aF 51 3 1 2,ax 52 1 51,jH 53 4 52 1,aW 54 4 53,aF 55 3 1 3,ax 56 1 55,jH 57 4 56 1,aW 58 4 57,b7 59 133 54 58,I 4 59]) .ret)))))))
@[simp] def Gf:List bt:=[.tmp 4]
def wJ:C:=(aa [cx 2 0] (.seq (aa [aF 4 0 1 2,ax 5 1 4,aU 6 .eql 5 1] (aT 6 (.region [I 7 1,aF 8 1 1 2,ax 9 1 8,gB 10 7 [.t 9]]) .skip)) (aa [aF 11 0 1 2,ax 12 1 11,aU 13 .eql 12 4] (aT 13 (aa [aF 14 3 1 2,ax 15 1 14,jH 16 4 15 0,aW 17 4 16,I 18 1,b7 19 134 17 18] (.region [aF 20 3 1 2,ax 21 1 20,jH 22 4 21 1,aW 23 4 22,I 24 1,b7 25 134 23 24])) .skip))))
@[simp] def xT:List bt:=[]
@[simp] def aqD:List bt:=[]
def OL:C:=(aa [ej 2 1] (aa [c3 (.bslm 5 (some 306) 1 3 []),I 3 5] (.seq (aa [I 6 0,c3 (.range 7 none (.t 6))] (.block 0 (.loop (aa [⟨none,.next 8 (.t 7)⟩,cC 9 0 8] (.seq (aT 9 .skip (.exit 0)) (.block 1 (aa [b5 10 (.ment (.t 7)),cC 11 0 10,I 4 11] (.region [I 12 3,I 13 4,ei 14 1 3 [.t 13],c3 (.appm 15 none 1 3 (.t 12) (.t 14)),I 3 15])))))))) (aa [I 16 3,cD 17 191 16] (.seq (.pub 3 (.region [I 18 3,I 2 18])) .ret)))))
@[simp] def Vt:List bt:=[.tmp 2]
def OI:C:=(aa [cx 2 0,c3 (.box 3 (some 202) (.t 1)),dk 4 dO,be 5 false] (aa [aW 7 4 2,b5 8 (.mkf 193 [.t 3]),b7 9 192 7 8,I 6 9] (.seq (aa [I 10 6,aU 11 .gtr 10 5000] (aT 11 (aa [iu 12 dO [],bK 4 4 12,be 5 false] .ret) .skip)) (aa [aW 13 4 2,ax 14 1 3,b7 15 194 13 14,bK 4 4 15,be 5 true] .ret))))
@[simp] def Lu:List bt:=[.cell 4 true 4,.tmp 5]
def OH:C:=(aa [dk 3 dO,be 4 false] (.seq (aa [ax 6 1 1,I 7 0,b7 8 139 6 7,I 5 8] (aa [I 9 5,aU 10 .geq 9 0] (aT 10 (aa [ax 11 1 1,I 12 5,ct 13 5 11 12,hD 14 1 4 13,aW 15 4 14,bK 4 3 15,be 4 true] .ret) .skip))) (aa [iu 16 dO [],bK 4 3 16,be 4 false] .ret)))
@[simp] def Lt:List bt:=[.cell 3 true 4,.tmp 4]
def Oy:C:=(aa [c3 (.box 2 (some 101) (.t 0)),c3 (.box 3 (some 102) (.t 1)),bV 4 0] (aa [ax 6 1 2,cn 7 6,b5 8 (.mkf 196 [.t 2,.t 3]),b7 9 195 7 8,I 5 9] (.seq (.seq (.drawn true 24 [I 10 5,ax 11 1 2,cn 12 11,bo 13 .lss 10 12,I 14 13,aq 14 true (ax 15 1 2),b3 14 true 16 5,aq 14 true (ct 17 5 15 16),aq 14 true (aF 18 0 1 17),aq 14 true (ax 19 1 18),aq 14 true (ax 20 1 3),aq 14 true (bo 21 .eql 19 20),dz 22 14 21]) (aT 22 (aa [I 23 5,I 4 23] .ret) .skip)) (aa [bV 4 (-1)] .ret))))
@[simp] def Vm:List bt:=[.tmp 4]
def Ow:C:=(aa [cx 2 0,cx 3 1,be 4 false] (aa [aW 5 4 2,aW 6 4 3,b7 7 133 5 6,aU 8 .eql 7 0,I 4 8] .ret))
@[simp] def Vk:List bt:=[.tmp 4]
def HQ:C:=(aa [cx 1 0,dk 2 dO] (.seq (aa [aF 3 0 1 1,ax 4 1 3,aU 5 .neq 4 4] (aT 5 (aa [aF 6 0 1 1,ax 7 1 6,aF 8 1 1 1,ax 9 1 8,aF 10 2 1 1,ax 11 1 10,iu 12 dO [(0,1,(.t 7)),(1,1,(.t 9)),(2,1,(.t 11))],bK 4 2 12] .ret) .skip)) (.seq (.drawn true 25 [aF 13 3 1 1,ax 14 1 13,jH 15 4 14 0,aW 16 4 15,cD 17 143 16,aF 18 3 1 1,ax 19 1 18,jH 20 4 19 1,aW 21 4 20,cD 22 143 21,ei 23 4 30 [.t 17,.t 22],iu 24 dO [(0,1,(gd 4)),(3,1,(.t 23))],bK 4 2 24]) .ret)))
@[simp] def ajl:List bt:=[.cell 2 true 4]
def Od:C:=(aa [be 2 false] (.seq (aa [I 5 0,cn 6 5,aU 7 .gtr 6 400] (aT 7 (aa [be 2 false] .ret) .skip)) (.seq (aa [I 8 0,cn 9 8,bV 10 0] (fw 11 10 9 (.seq (.block 1 (aa [I 12 10,ct 13 5 8 10,aW 14 5 13,dk 4 jA,I 3 12,bK 5 4 14] (.seq (.drawn true 45 [aF 15 0 1 4,ax 16 1 15,aU 17 .lss 16 0,I 18 17,aq 18 false (aF 19 0 1 4),aq 18 false (ax 20 1 19),aq 18 false (aU 21 .gtr 20 100000),c2 22 18 21,I 23 22,b3 23 false 24 3,aq 23 false (aU 25 .gtr 24 0),b3 23 false 26 25,b3 26 true 27 0,b3 26 true 28 3,aq 26 true (aU 29 .sub 28 1),aq 26 true (ct 30 5 27 29),aq 26 true (aF 31 0 1 30),aq 26 true (ax 32 1 31),aq 26 true (aF 33 0 1 4),aq 26 true (ax 34 1 33),aq 26 true (bo 35 .geq 32 34),aq 23 false (dz 36 26 35),c2 37 23 36,I 38 37,aq 38 false (hD 39 1 4 4),aq 38 false (aW 40 4 39),aq 38 false (cD 41 64 40),aq 38 false (cu 42 41),c2 43 38 42]) (aT 43 (aa [be 2 false] .ret) .skip)))) (.region [aU 44 .add 10 1,I 10 44])))) (aa [be 2 true] .ret))))
@[simp] def F9:List bt:=[.tmp 2]
def N2:C:=(aa [be 2 false] (.seq (aa [I 4 0,b5 5 (.slen (.t 4)),aU 6 .lss 5 1,I 7 6,b3 7 false 8 0,aq 7 false (b5 9 (.slen (.t 8))),aq 7 false (aU 10 .gtr 9 12),c2 11 7 10,I 12 11,b3 12 false 13 0,aq 12 false (b5 14 (.sidx (.t 13) (gd 0))),aq 12 false (b5 15 (.bin .lss false (.t 14) (.c (.int .u8 97)))),c2 16 12 15,I 17 16,b3 17 false 18 0,aq 17 false (b5 19 (.sidx (.t 18) (gd 0))),aq 17 false (b5 20 (.bin .gtr false (.t 19) (.c (.int .u8 122)))),c2 21 17 20] (aT 21 (aa [be 2 false] .ret) .skip)) (.seq (aa [bV 3 1] (.block 0 (.loop (.seq (aa [I 22 3,I 23 0,b5 24 (.slen (.t 23)),bo 25 .lss 22 24] (aT 25 .skip (.exit 0))) (.seq (.block 1 (aa [I 28 0,I 29 3,b5 30 (.sidx (.t 28) (.t 29)),b5 31 (.bin .geq false (.t 30) (.c (.int .u8 97))),I 32 31,b3 32 true 33 0,b3 32 true 34 3,aq 32 true (b5 35 (.sidx (.t 33) (.t 34))),aq 32 true (b5 36 (.bin .leq false (.t 35) (.c (.int .u8 122)))),dz 37 32 36,I 38 37,b3 38 false 39 0,b3 38 false 40 3,aq 38 false (b5 41 (.sidx (.t 39) (.t 40))),aq 38 false (b5 42 (.bin .geq false (.t 41) (.c (.int .u8 48)))),b3 38 false 43 42,b3 43 true 44 0,b3 43 true 45 3,aq 43 true (b5 46 (.sidx (.t 44) (.t 45))),aq 43 true (b5 47 (.bin .leq false (.t 46) (.c (.int .u8 57)))),aq 38 false (dz 48 43 47),c2 49 38 48,I 50 49,b3 50 false 51 0,b3 50 false 52 3,aq 50 false (b5 53 (.sidx (.t 51) (.t 52))),aq 50 false (b5 54 (.bin .eql false (.t 53) (.c (.int .u8 45)))),c2 55 50 54,cu 56 55] (aT 56 (aa [be 2 false] .ret) .skip))) (.region [I 26 3,aU 27 .add 26 1,I 3 27])))))) (aa [be 2 true] .ret))))
@[simp] def F8:List bt:=[.tmp 2]
def HS:C:=(aa [be 2 false] (.seq (aa [I 5 0,cn 6 5,bV 7 0] (fw 8 7 6 (.seq (.block 1 (aa [ct 9 4 5 7,aW 10 4 9,dk 4 dO,bK 4 4 10] (aa [aW 11 4 4,cD 12 64 11,cu 13 12] (aT 13 (aa [be 2 false] .ret) .skip)))) (.region [aU 14 .add 7 1,I 7 14])))) (aa [be 2 true] .ret)))
@[simp] def ajo:List bt:=[.tmp 2]
def PE:C:=(aa [cx 2 0,cx 3 1,dk 4 dO] (aa [aW 5 4 2,aW 6 4 3,ei 7 4 30 [.t 5,.t 6],iu 8 dO [(0,1,(gd 4)),(3,1,(.t 7))],bK 4 4 8] .ret))
@[simp] def VE:List bt:=[.cell 4 true 4]
def OE:C:=(aa [bV 4 0] (.seq (aa [I 5 0,I 6 1,bo 7 .lss 5 6] (aT 7 (aa [bV 4 (-1)] .ret) .skip)) (.seq (aa [I 8 0,I 9 1,bo 10 .gtr 8 9] (aT 10 (aa [bV 4 1] .ret) .skip)) (aa [bV 4 0] .ret))))
@[simp] def Vp:List bt:=[.tmp 4]
def uU:C:=(aa [cx 2 0,bV 4 0] (.seq (aa [aF 6 0 1 2,ax 7 1 6] (.block 0 (aa [aU 9 .eql 7 1,I 8 9] (aT 8 (aa [I 10 1,aF 11 1 1 2,ax 12 1 11,gB 13 10 [.t 12],b5 14 (.min2 (.t 13) (gd 5001)),I 4 14] .ret) (aa [aU 16 .eql 7 4,I 15 16] (aT 15 (aa [aF 17 3 1 2,ax 18 1 17,jH 19 4 18 0,aW 20 4 19,I 21 1,b7 22 192 20 21,I 5 22] (.seq (aa [I 23 5,aU 24 .gtr 23 5000] (aT 24 (aa [I 25 5,I 4 25] .ret) .skip)) (aa [I 26 5,b5 27 (.bin .add false (gd 1) (.t 26)),aF 28 3 1 2,ax 29 1 28,jH 30 4 29 1,aW 31 4 30,I 32 1,b7 33 192 31 32,bo 34 .add 27 33,b5 35 (.min2 (.t 34) (gd 5001)),I 4 35] .ret))) .skip)))))) (aa [bV 4 1] .ret)))
@[simp] def uu:List bt:=[.tmp 4]
def OJ:C:=(aa [bV 3 0] (.seq (aa [ax 7 1 1,I 8 0,gB 9 7 [.t 8],I 6 9,cC 10 0 6,cC 11 1 6,dk 4 dO,bK 4 4 10,I 5 11] (aa [I 12 5] (aT 12 (aa [aW 13 4 4,dn 14 131 [.t 13,(gd 5000)],I 3 14] .ret) .skip))) (aa [bV 3 1] .ret)))
@[simp] def Vs:List bt:=[.tmp 3]
def wK:C:=(aa [cx 2 0,dk 4 dO] (.seq (aa [aF 7 0 1 2,ax 8 1 7] (.block 0 (aa [aU 10 .eql 8 1,I 9 10] (aT 9 (.seq (aa [I 12 1,aF 13 1 1 2,ax 14 1 13,gB 15 12 [.t 14],I 11 15,cC 16 0 11,cC 17 1 11,dk 5 dO,bK 4 5 16,I 6 17] (aa [I 18 6] (aT 18 (aa [aW 19 4 5,cD 20 143 19,bK 4 4 20] .ret) .skip))) (aa [aW 21 4 2,bK 4 4 21] .ret)) (aa [aU 23 .eql 8 4,I 22 23] (aT 22 (.seq (.drawn false 38 [aF 24 3 1 2,ax 25 1 24,jH 26 4 25 0,aW 27 4 26,I 28 1,b7 29 194 27 28,aF 30 3 1 2,ax 31 1 30,jH 32 4 31 1,aW 33 4 32,I 34 1,b7 35 194 33 34,b7 36 221 29 35,bK 4 4 36]) .ret) .skip)))))) (aa [aW 37 4 2,bK 4 4 37] .ret)))
@[simp] def xU:List bt:=[.cell 4 true 4]
def O9:C:=(aa [bV 4 0] (aa [I 8 0,bV 5 0,I 6 8] (.seq (.block 0 (.loop (.seq (aa [I 9 5,I 10 6,bo 11 .lss 9 10] (aT 11 .skip (.exit 0))) (.block 1 (aa [I 12 5,I 13 6,bo 14 .add 12 13,b5 15 (.conv .u64 (.t 14)),b5 16 (.bin .shr false (.t 15) (.c (.int .u64 1))),b5 17 (.conv .i64 (.t 16)),I 7 17] (aa [I 18 1,I 19 7,gB 20 18 [.t 19],cu 21 20] (aT 21 (.region [I 22 7,aU 23 .add 22 1,I 5 23]) (.region [I 24 7,I 6 24])))))))) (aa [I 25 5,I 4 25] .ret))))
@[simp] def Vu:List bt:=[.tmp 4]
def Oz:C:=(aa [be 4 false] (.seq (.drawn true 12 [ax 5 1 1,I 6 0,ct 7 5 5 6,aF 8 0 1 7,ax 9 1 8,ax 10 1 2,bo 11 .geq 9 10,I 4 11]) .ret))
@[simp] def Vn:List bt:=[.tmp 4]
def OF:C:=(aa [cx 2 0,cx 3 1,dk 4 dO] (aa [aW 5 4 2,aW 6 4 3,ei 7 4 30 [.t 5,.t 6],iu 8 dO [(0,1,(gd 4)),(3,1,(.t 7))],bK 4 4 8] .ret))
@[simp] def Vq:List bt:=[.cell 4 true 4]
def bA:List (Nat×dC):=[
 (3,⟨1,8,.int .i64,.int .i64 0⟩),
 (9,⟨1,16,.str,.str []⟩),
 (27,⟨1,24,.slice 30,.slice 4 .nil []⟩),
 (30,⟨4,56,.struct [(0,3),(1,3),(2,9),(3,27)],.agg [.int .i64 0,.int .i64 0,.str [],.slice 4 .nil []]⟩),
 (46,⟨1,24,.slice 113,.slice 5 .nil []⟩),
 (76,⟨1,24,.slice 3,.slice 1 .nil []⟩),
 (113,⟨5,64,.struct [(0,3),(1,30)],.agg [.int .i64 0,.int .i64 0,.int .i64 0,.str [],.slice 4 .nil []]⟩),
 (136,⟨1,8,.map 3 4,.junk⟩),
 (141,⟨1,8,.other,.junk⟩),
 (192,⟨1,8,.int .u64,.int .u64 0⟩)]
theorem mixed:al.follows .mixedOrders=true:=by kernel_rfl
theorem bd{bA:List (Nat×dC)}(aN:fM al bA=true){f:FuncId}{fn:Func}(aI:al.funcs[f]? =some fn){c:C}{eG:List bt}{n:Nat}(eD:bX bA c eG n fn=true){args:List ah}{r:ah}(he:eC args→cU al [] c (bu eG r) ⟨jF 0 args,[],[],0,[]⟩)(au:args.length≤n:=by simp)(aL:aC (fun _=>eo) r:=by simp[aC]):bG al f args r:=bG.mk mixed aN aI eD au aL he
theorem fI:fM al bA=true:=by kernel_rfl
theorem aha:bX bA Ob Va 1 Tryz.f64=true:=by kernel_rfl
theorem aaI:al.funcs[(64:Nat)]? =some Tryz.f64:=Tryz.func64
theorem ahA:bX bA OG Vr 2 Tryz.f69=true:=by kernel_rfl
theorem aa8:al.funcs[(69:Nat)]? =some Tryz.f69:=Tryz.func69
theorem aiA:bX bA PH aj6 1 Tryz.f114=true:=by kernel_rfl
theorem ab8:al.funcs[(114:Nat)]? =some Tryz.f114:=Tryz.func114
theorem CD:bX bA yA aj5 1 Tryz.f130=true:=by kernel_rfl
theorem Bf:al.funcs[(130:Nat)]? =some Tryz.f130:=Tryz.func130
theorem ahw:bX bA OC Ge 2 Tryz.f131=true:=by kernel_rfl
theorem aa4:al.funcs[(131:Nat)]? =some Tryz.f131:=Tryz.func131
theorem K2:bX bA DS Gf 2 Tryz.f133=true:=by kernel_rfl
theorem IC:al.funcs[(133:Nat)]? =some Tryz.f133:=Tryz.func133
theorem zS:bX bA wJ xT 2 Tryz.f134=true:=by kernel_rfl
theorem yJ:al.funcs[(134:Nat)]? =some Tryz.f134:=Tryz.func134
theorem ahF:bX bA OL Vt 1 Tryz.f136=true:=by kernel_rfl
theorem abd:al.funcs[(136:Nat)]? =some Tryz.f136:=Tryz.func136
theorem ahC:bX bA OI Lu 2 Tryz.f137=true:=by kernel_rfl
theorem aba:al.funcs[(137:Nat)]? =some Tryz.f137:=Tryz.func137
theorem ahB:bX bA OH Lt 2 Tryz.f138=true:=by kernel_rfl
theorem aa9:al.funcs[(138:Nat)]? =some Tryz.f138:=Tryz.func138
theorem ahs:bX bA Oy Vm 2 Tryz.f139=true:=by kernel_rfl
theorem aa0:al.funcs[(139:Nat)]? =some Tryz.f139:=Tryz.func139
theorem ahq:bX bA Ow Vk 2 Tryz.f142=true:=by kernel_rfl
theorem aaY:al.funcs[(142:Nat)]? =some Tryz.f142:=Tryz.func142
theorem Uy:bX bA HQ ajl 1 Tryz.f143=true:=by kernel_rfl
theorem QJ:al.funcs[(143:Nat)]? =some Tryz.f143:=Tryz.func143
theorem ahc:bX bA Od F9 1 Tryz.f158=true:=by kernel_rfl
theorem aaK:al.funcs[(158:Nat)]? =some Tryz.f158:=Tryz.func158
theorem ag1:bX bA N2 F8 1 Tryz.f160=true:=by kernel_rfl
theorem aaz:al.funcs[(160:Nat)]? =some Tryz.f160:=Tryz.func160
theorem UA:bX bA HS ajo 1 Tryz.f172=true:=by kernel_rfl
theorem QL:al.funcs[(172:Nat)]? =some Tryz.f172:=Tryz.func172
theorem aix:bX bA PE VE 2 Tryz.f189=true:=by kernel_rfl
theorem ab5:al.funcs[(189:Nat)]? =some Tryz.f189:=Tryz.func189
theorem ahy:bX bA OE Vp 2 Tryz.f190=true:=by kernel_rfl
theorem aa6:al.funcs[(190:Nat)]? =some Tryz.f190:=Tryz.func190
theorem xM:bX bA uU uu 2 Tryz.f192=true:=by kernel_rfl
theorem wP:al.funcs[(192:Nat)]? =some Tryz.f192:=Tryz.func192
theorem ahD:bX bA OJ Vs 2 Tryz.f193=true:=by kernel_rfl
theorem abb:al.funcs[(193:Nat)]? =some Tryz.f193:=Tryz.func193
theorem zT:bX bA wK xU 2 Tryz.f194=true:=by kernel_rfl
theorem yK:al.funcs[(194:Nat)]? =some Tryz.f194:=Tryz.func194
theorem ah3:bX bA O9 Vu 2 Tryz.f195=true:=by kernel_rfl
theorem abC:al.funcs[(195:Nat)]? =some Tryz.f195:=Tryz.func195
theorem aht:bX bA Oz Vn 3 Tryz.f196=true:=by kernel_rfl
theorem aa1:al.funcs[(196:Nat)]? =some Tryz.f196:=Tryz.func196
theorem ahz:bX bA OF Vq 2 Tryz.f221=true:=by kernel_rfl
theorem aa7:al.funcs[(221:Nat)]? =some Tryz.f221:=Tryz.func221
def afw(s:List dB)(k:Nat)(st:bq):Prop:=∃i:Nat,1≤i∧i≤s.length∧k=s.length-i∧((s.drop 1).all ml=(s.drop i).all ml)∧st=⟨[(0,.str s),(3,.int .i64 i)],[],[],0,[]⟩
theorem s6(s:List dB):bG al 160 [.str s] (.bool (jy s)):=by
 refine bG.mk mixed fI aaz ag1 (by simp) (by simp[aC]) fun ae=>?_;unfold N2;simp;(with_reducible repeat' first|((first|refine bM (fun h=>?_) fun h=>?_|refine bR (fun h=>?_) fun h=>?_|refine bQ (fun h=>?_) fun h=>?_)<;>try simp at h)|refine aj ?_|simp);case refine_1.refine_1.refine_1.refine_2=>
  have aez:jy s=(s.drop 1).all ml:=by simp[jy,low];omega
  rw[aez];refine o3 (afw s) (s.length-1) _ ⟨by simp,by simp[gA],by simp[oE],by simp⟩ ⟨1,by omega,by omega,rfl,rfl,rfl⟩ ?_;rintro k st ⟨i,lR,hv,ad,lj,rfl⟩ kG cP;rw[lj];simp;refine bM (fun bC=>?_) (fun tL=>?_)
  ·simp at bC;have aQ:s.drop i=s[i]?.getD 0::s.drop (i+1):=by rw[la bC];simp[bC]
   simp;(with_reducible repeat' first|((first|refine bM (fun h=>?_) fun h=>?_|refine bR (fun h=>?_) fun h=>?_|refine bQ (fun h=>?_) fun h=>?_)<;>try simp at h)|refine aj ?_|simp);all_goals first
    |(simp[bu,F8,aX,aY,aV,aQ,ml,low];omega)
    |(simp only[Dv];refine⟨s.length-(i+1),_,by omega,⟨by simp,by simp[gA],by simp[oE],by simp⟩,i+1,by omega,by omega,rfl,?_,rfl⟩;rw[lj,aQ];simp[ml,low];omega)
  ·simp at tL;have:s.drop i=[]:=by simp;omega
   simp[bu,F8,aX,aY,aV,this]
 all_goals simp[bu,F8,aX,aY,aV,jy,low]
 all_goals omega
theorem Xj(m:Nat):∀(t:bF),t.sz≤m→∀(room:Int),0≤room∧room≤10000→bG al 131 [enc t,.int .i64 room] (.int .i64 (fq t room)):=by
 induction m with
 |zero=>intro t aN;cases t;simp[bF.sz]at aN
 |succ m bS=>
 rintro⟨k,n,s,args⟩ aN room rl;refine bd fI aa4 ahw fun aP=>?_;unfold OC;simp[bF.kind,bF.num,bF.name,bF.args];(with_reducible repeat' first|((first|refine bM (fun h=>?_) fun h=>?_|refine bR (fun h=>?_) fun h=>?_|refine bQ (fun h=>?_) fun h=>?_)<;>try simp at h)|refine aj ?_|simp);all_goals try refine c4.val (by simp) (s6 _) ?_
 all_goals try simp
 (with_reducible repeat' first|((first|refine bM (fun h=>?_) fun h=>?_|refine bR (fun h=>?_) fun h=>?_|refine bQ (fun h=>?_) fun h=>?_)<;>try simp at h)|refine aj ?_|simp);all_goals try simp[bu,Ge,aX,aY,aV]
 case succ.refine_2.refine_2.refine_1.refine_1.refine_2=>
  rename_i bB J U ao;match args,h with
  |[a,b],_=>
  simp[bF.sz,bF.szL]at aN;subst J U ao;simp;(with_reducible repeat' first|((first|refine bM (fun h=>?_) fun h=>?_|refine bR (fun h=>?_) fun h=>?_|refine bQ (fun h=>?_) fun h=>?_)<;>try simp at h)|refine aj ?_|simp);refine c4.val (by simp) (bS a (by omega) (room-1) (by omega)) ?_;simp;have bE:=KS a (room-1);have mP:=Cx a (room-1);(with_reducible repeat' first|((first|refine bM (fun h=>?_) fun h=>?_|refine bR (fun h=>?_) fun h=>?_|refine bQ (fun h=>?_) fun h=>?_)<;>try simp at h)|refine aj ?_|simp)
  ·simp[bu,Ge,aX,aY,aV];rw[KR];simp;omega
  ·refine c4.val (by simp) (bS b (by omega) (room-1-fq a (room-1)) (by omega)) ?_;simp;have ae:=KS b (room-1-fq a (room-1));have fR:=Cx b (room-1-fq a (room-1));(with_reducible repeat' first|((first|refine bM (fun h=>?_) fun h=>?_|refine bR (fun h=>?_) fun h=>?_|refine bQ (fun h=>?_) fun h=>?_)<;>try simp at h)|refine aj ?_|simp);all_goals simp[bu,Ge,aX,aY,aV]
   all_goals rw[KR];simp;omega
 all_goals rw[KR]
 all_goals simp_all[k4]
 all_goals first|omega|(split<;>simp at h⊢)
theorem G2(t:bF):bG al 64 [enc t] (.bool t.fits):=by refine bd fI aaI aha fun aP=>?_;unfold Ob;simp;refine c4.val (by simp) (Xj t.sz t (eR _) 5000 (by omega)) ?_;simp;simp[bu,Va,aX,aY,aV];simp[bF.fits]
theorem alG(t:T):bG al 64 [t.e] (.bool t.fit):=by have:=G2 t.tm;rwa[iR,bF.fits_T]at this
theorem Ha(a b:T):bG al 221 [a.e,b.e] (T.pair a b).e:=by refine bd fI aa7 ahz fun aP=>?_;unfold OF;simp;(with_reducible repeat' first|((first|refine bM (fun h=>?_) fun h=>?_|refine bR (fun h=>?_) fun h=>?_|refine bQ (fun h=>?_) fun h=>?_)<;>try simp at h)|refine aj ?_|simp);all_goals try simp[bu,Vq,aX,aY,aV]
theorem G5(a b:T):bG al 189 [a.e,b.e] (T.pair a b).e:=by refine bd fI ab5 aix fun aP=>?_;unfold PE;simp;(with_reducible repeat' first|((first|refine bM (fun h=>?_) fun h=>?_|refine bR (fun h=>?_) fun h=>?_|refine bQ (fun h=>?_) fun h=>?_)<;>try simp at h)|refine aj ?_|simp);all_goals try simp[bu,VE,aX,aY,aV]
theorem s7(t:T):bG al 143 [t.e] t.e:=by
 induction t with
 |pair a b dQ dR=>refine bd fI QJ Uy fun aP=>?_;unfold HQ;exact b0
 |_=>refine bd fI QJ Uy fun aP=>?_;unfold HQ;exact b0
theorem nM(a b:Int):bG al 190 [.int .i64 a,.int .i64 b] (.int .i64 (ez a b)):=by
 refine bd fI aa6 ahy fun aP=>?_;unfold OE;simp;((with_reducible repeat' first|refine aj ?_|simp|((first|apply bM|apply bR|apply bQ)<;>intro h<;>try simp at h))<;>(try exact ch));all_goals simp[bu,Vp,aX,aY,aV]
 all_goals simp[ez]
 all_goals omega
theorem AH(a:T):∀b:T,bG al 133 [a.e,b.e] (.int .i64 (eu a b)):=by
 induction a with
 |pair bD a2 Fa Fb=>
  intro b;cases b with
  |pair cc b4=>
   refine bd fI IC K2 fun aP=>?_;unfold DS;simp;((with_reducible repeat' first|refine aj ?_|refine aD (Fa _) ?_|refine aE (Fa _) ?_|refine aD (Fb _) ?_|refine aE (Fb _) ?_|refine aD (nM _ _) ?_|refine aE (nM _ _) ?_|simp|((first|apply bM|apply bR|apply bQ)<;>intro h<;>try simp at h))<;>(try exact ch));all_goals simp[bu,Gf,aX,aY,aV]
   all_goals simp_all[eu]
  |_=>
   refine bd fI IC K2 fun aP=>?_;unfold DS;simp;(with_reducible repeat' first|refine aj ?_|refine aD (nM _ _) ?_|refine aE (nM _ _) ?_|simp);all_goals simp[bu,Gf,aX,aY,aV]
   all_goals simp_all[eu]
 |_=>
  intro b;cases b<;>
  (refine bd fI IC K2 fun aP=>?_;unfold DS
   simp
   (with_reducible repeat' first|((first|apply bM|apply bR|apply bQ)<;>intro h<;>try simp at h)|refine aj ?_|refine aD (nM _ _) ?_|refine aE (nM _ _) ?_|simp)
   all_goals simp[bu,Gf,aX,aY,aV]
   all_goals simp_all[eu,ku])
theorem s8(a b:T):bG al 142 [a.e,b.e] (.bool (decide (a=b))):=by
 refine bd fI aaY ahq fun aP=>?_;unfold Ow;simp;(with_reducible repeat' first|refine aj ?_|refine aD (AH _ _) ?_|refine aE (AH _ _) ?_|simp);all_goals simp[bu,Vk,aX,aY,aV]
 have:=qF a b;by_cases h:eu a b=0<;>simp_all
open Classical in
def afA(l:List cW)(k:Nat)(st:bq):Prop:=∃i:Nat,i≤l.length∧k=l.length-i∧(∀j,j<i→zR l j)∧st=⟨[(0,.slice 5 .no (l.map cW.e)),(8,.slice 5 .no (l.map cW.e)),(9,.int .i64 l.length),(10,.int .i64 i)],[],[],0,[]⟩
open Classical in
theorem alI(l:List cW):bG al 158 [.slice 5 .no (l.map cW.e)] (.bool (decide (yq l))):=by
 refine bd fI aaK ahc fun aP=>?_;unfold Od;simp;(with_reducible repeat' first|((first|apply bM|apply bR|apply bQ)<;>intro h<;>try simp at h)|refine aj ?_|simp)
 ·simp[bu,F9,aX,aY,aV];intro cr;have:=cr.1;omega
 ·refine o3 (afA l) l.length _ ⟨by simp,by simp[gA],by simp[oE],by simp⟩ ⟨0,by omega,by omega,by simp,rfl⟩ ?_;rintro k st ⟨i,hi,ad,lj,rfl⟩ kG cP;simp;refine bM (fun bC=>?_) (fun tL=>?_)
  ·simp at bC;obtain⟨b,ae⟩:∃b,l[i]? =some b:=⟨_,cf bC⟩;obtain⟨c,ay⟩:∃c,l[i-1]? =some c:=⟨_,cf (by omega)⟩;clear kG cP;simp[ae,ay];((with_reducible repeat' first|refine aj ?_|refine aD (G2 _) ?_|refine aE (G2 _) ?_|simp[ay]|((first|apply bM|apply bR|apply bQ)<;>intro h<;>try simp at h))<;>(try exact ch));all_goals first
    |(simp[bu,F9,aX,aY,aV];intro cr;have J:=cr.2 i bC b ae;have U:=J.2.1 c;have ao:=J.2.2;first|omega|(have:=U (by omega) ay;omega)|(rw[ao]at h;cases h)|simp_all)
    |(simp only[Dv];refine⟨l.length-(i+1),_,by omega,⟨by simp,by simp[gA],by simp[oE],by simp⟩,i+1,by omega,rfl,fun j af=>?_,rfl⟩
      by_cases e:j=i
      ·subst e;intro bO fR;rw[ae]at fR;cases fR;refine⟨by omega,fun cl bB gT=>?_,by assumption⟩;rw[ay]at gT;cases gT;omega
      ·exact lj j (by omega))
  ·simp at tL;simp[bu,F9,aX,aY,aV];exact⟨by omega,fun j af=>lj j (by omega)⟩
def l2(p:Nat→Bool)(i j:Nat):Nat:=if i<j then(if p ((i+j)/2)then l2 p i ((i+j)/2)else l2 p ((i+j)/2+1) j)else i
termination_by j-i
def afz(s:cI)(n g:Nat)(dp:List ah)(p:Nat→Bool)(k:Nat)(st:bq):Prop:=∃i j:Nat,i≤j∧j≤n∧k=j-i∧l2 p i j=l2 p 0 n∧st=⟨[(1,.func g dp),(5,.int .i64 i),(6,.int .i64 j)],s.b,s.e,0,cQ s⟩
theorem acN(s:cI)(ag:ea s)(n g:Nat)(aw:n≤1000000)(dp:List ah)(ay:aJ (inObs s) dp)(dc:cR dp=dp)(p:Nat→Bool)(aI:∀i:Nat,i<n→bN al g (.int .i64 i::dp) s fun r ai=>r= .bool (p i)∧ai=s):
  bN al 195 [.int .i64 n,.func g dp] s fun r ai=>r= .int .i64 (l2 p 0 n)∧ai=s:=by
 refine bN.mk mixed fI abC ah3 (by simp) ag.obj fun aP cP=>?_;unfold O9;simp;refine o3 (afz s n g dp p) n _ (iA.ob ag (by simp[ay]) aR aR) ⟨0,n,by omega,by omega,rfl,rfl,rfl⟩ ?_;rintro k st ⟨i,j,lS,af,ad,JQ,rfl⟩ kG cP;clear kG cP;simp;refine bM (fun bC=>?_) (fun tL=>?_)
 ·simp at bC;have hw:hc.wrap ((i:Int)+j)=i+j:=by simp[rY,nN,rX];omega
  obtain⟨m,hm⟩:∃m,m=(i+j)/2:=⟨_,rfl⟩;have aQ:Int.fdiv ((i:Int)+j) 2=(m:Int):=by rw[Int.fdiv_eq_ediv_of_nonneg _ (by omega)];omega
  have oo:IntKind.i64.wrap (m:Int)=m:=by rw[oO];omega
  have Jf:hc.bits=64:=rfl;simp[hw,dc,Jf,aQ,oo];refine⟨by unfold sA;omega,?_⟩;refine c4.ob (aI m (by omega)) ag aR aR (by simp[ay]) ?_;rintro r ai ⟨rfl,rfl⟩;refine⟨Same.refl _,?_⟩;simp[gO];(with_reducible repeat' first|((first|apply bM|apply bR|apply bQ)<;>intro h<;>try simp at h)|refine aj ?_|simp)
  ·simp only[Dv];refine⟨j-(m+1),_,by omega,iA.ob ag (by simp[ay]) aR aR,m+1,j,by omega,by omega,rfl,?_,rfl⟩;rw[←JQ];conv=>rhs;unfold l2
   simp[bC,←hm,h]
  ·simp only[Dv];refine⟨m-i,_,by omega,iA.ob ag (by simp[ay]) aR aR,i,m,by omega,by omega,rfl,?_,rfl⟩;rw[←JQ];conv=>rhs;unfold l2
   simp[bC,←hm,h]
 ·simp at tL;have:l2 p 0 n=i:=by rw[←JQ];unfold l2;rw[if_neg (by omega)]
  rw[this];simp;refine cS.at s (.inl rfl) ag (Same.refl s) aR aR ?_;simp[cZ,Vu,aX,aY,aV]
def mM(l:List ar)(v:Int):Int:=
 let i:=l2 (fun i=>match l[i]? with|some b=>decide (v≤b.v)|none=>false) 0 l.length
 match l[i]? with|some b=>if b.v=v then i else-1|none=> -1
theorem acU(l:List ar)(v:Int)(i:Nat)(b:ar)(ae:l[i]? =some b):bN al 196 [.int .i64 i,.ptr (.obj 101) 0,.ptr (.obj 102) 0] ⟨[(.obj 101,[.slice 5 .no (l.map ar.e)]),(.obj 102,[.int .i64 v])],[]⟩ fun r ai=>r= .bool (decide (v≤b.v))∧ai=⟨[(.obj 101,[.slice 5 .no (l.map ar.e)]),(.obj 102,[.int .i64 v])],[]⟩:=by have ag:ea ⟨[(.obj 101,[.slice 5 .no (l.map ar.e)]),(.obj 102,[.int .i64 v])],[]⟩:=(ea.of ⟨by intro m;simp[Pv.look],by intro m;simp[Pv.look]⟩ (by simp[aJ,aC,inObs,Pv.look]) (by simp[aJ,aC,inObs,Pv.look]));have bC:i<l.length:=(fN.1 ae).1;refine bN.mk mixed fI aa1 aht (by simp) ag.obj fun aP cP=>?_;unfold Oz;simp[ae];(with_reducible repeat' first|refine aj ?_|simp);refine cS.at _ (.inl rfl) ag (Same.refl _) aR aR ?_;simp[cZ,Vn,aX,aY,aV]
theorem s9(l:List ar)(v:Int)(au:l.length≤1000000):bG al 139 [.slice 5 .no (l.map ar.e),.int .i64 v] (.int .i64 (mM l v)):=by
 refine bd fI aa0 ahs fun aP=>?_;unfold Oy;simp;have ag:ea ⟨[(.obj 101,[.slice 5 .no (l.map ar.e)]),(.obj 102,[.int .i64 v])],[]⟩:=(ea.of ⟨by intro m;simp[Pv.look],by intro m;simp[Pv.look]⟩ (by simp[aJ,aC,inObs,Pv.look]) (by simp[aJ,aC,inObs,Pv.look]));refine c4.ob (acN ⟨[(.obj 101,[.slice 5 .no (l.map ar.e)]),(.obj 102,[.int .i64 v])],[]⟩ ag l.length 196 au [.ptr (.obj 101) 0,.ptr (.obj 102) 0] (by simp[inObs]) (by simp) (fun i=>match l[i]? with|some b=>decide (v≤b.v)|none=>false) fun i hi=>?_) ag aR aR (by simp[inObs]) ?_
 ·obtain⟨b,ae⟩:∃b,l[i]? =some b:=⟨_,cf hi⟩;simp only[ae];exact acU l v i b ae
 rintro r ai ⟨rfl,rfl⟩;refine⟨Same.refl _,?_⟩;unfold mM;generalize l2 _ 0 l.length=i;cases ae:l[i]? with
 |none=>
  have bC:¬i<l.length:=by simpa using ae
  simp[cv,bC];exact b0
 |some b=>
  have bC:i<l.length:=(fN.1 ae).1;simp[cv,ae,bC];((with_reducible repeat' first|refine aj ?_|simp[ae]|((first|apply bM|apply bR|apply bQ)<;>intro h<;>try simp at h))<;>(try exact ch));all_goals simp[bu,Vm,aX,aY,aV]
  all_goals simp_all
def rH(l:List ar)(v:Int):Option T:=if mM l v<0 then none else(l[(mM l v).toNat]?).map (·.t)
theorem Q3(l:List ar)(v:Int):mM l v<l.length∧ -1≤mM l v:=by
 unfold mM;simp only;split
 ·rename_i b ae;have:=(fN.1 ae).1;split<;>omega
 ·omega
theorem Rk(l:List ar)(v:Int)(au:l.length≤1000000)(o:Option T)(av:o=rH l v):bN al 138 [.int .i64 v,.ptr (.obj 201) 0] ⟨[(.obj 201,[.slice 5 .no (l.map ar.e)])],[]⟩ fun r ai=>r= .tuple [(o.getD .nil).e,.bool o.isSome]∧ai=⟨[(.obj 201,[.slice 5 .no (l.map ar.e)])],[]⟩:=by
 have ag:ea ⟨[(.obj 201,[.slice 5 .no (l.map ar.e)])],[]⟩:=(ea.of ⟨by intro m;simp[Pv.look],by intro m;simp[Pv.look]⟩ (by simp[aJ,aC,inObs,Pv.look]) (by simp[aJ,aC,inObs,Pv.look]));have bC:=(Q3 l v).1;unfold rH at av;refine bN.mk mixed fI aa9 ahB (by simp) ag.obj fun aP cP=>?_;unfold OH;simp;(with_reducible repeat' first|((first|apply bM|apply bR|apply bQ)<;>intro h<;>try simp at h)|refine aj ?_|refine aD (s9 l v au) ?_|refine aE (s9 l v au) ?_|simp)
 ·obtain⟨b,ae⟩:∃b,l[(mM l v).toNat]? =some b:=⟨_,cf (by omega)⟩;have hI:o=some b.t:=by rw[av,if_neg (by omega),ae];rfl
  simp[ae];(with_reducible repeat' first|((first|apply bM|apply bR|apply bQ)<;>intro h<;>try simp at h)|refine aj ?_|simp[ae]);refine cS.at _ (.inl rfl) ag (Same.refl _) aR aR ?_;simp[cZ,Lt,aX,aY,aV];simp[hI]
 ·have hI:o=none:=by rw[av,if_pos h]
  refine cS.at _ (.inl rfl) ag (Same.refl _) aR aR ?_;simp[cZ,Lt,aX,aY,aV];simp[hI]
theorem ada(s:cI)(ag:ea s)(g:Nat)(dp:List ah)(ay:aJ (inObs s) dp)(dc:cR dp=dp)(f:Int→Int)(BD:∀v,-1≤f v)(t:T)(aI:∀v,t.occ v=true→bN al g (.int .i64 v::dp) s fun r ai=>r= .int .i64 (f v)∧ai=s):
  bN al 192 [t.e,.func g dp] s fun r ai=>r= .int .i64 (k5 f t)∧ai=s:=by
 have aw:∀m,Pv.look (.loc m) s.b=none:=ag.obj.1;have hu:∀m cs,cw (.loc m) cs s.b=s.b++[(.loc m,cs)]:=fun m cs=>jT (aw m);have av:∀m,aH.loc m∉cQ s:=jO ag.obj;induction t with
 |pair a b dQ dR=>
  have aoL:=GM f BD a;have aoO:=GM f BD b;refine bN.mk mixed fI wP xM (by simp) ag.obj fun aP cP=>?_;unfold uU;simp[hu,av,cH,aw,dc];(with_reducible repeat' first|refine aj ?_|simp[hu,av,cH,aw]);refine c4.ob (dQ fun v aK=>aI v (by simp[T.occ,aK])) ag aR aR (by simp[ay]) ?_;rintro r ai ⟨rfl,rfl⟩;refine⟨Same.refl _,?_⟩;simp[gO,ir,cv,aw];(with_reducible repeat' first|((first|apply bM|apply bR|apply bQ)<;>intro h<;>try simp at h)|refine aj ?_|simp[hu,av,cH,aw])
  ·refine cS.at ai (.inl rfl) ag (Same.refl _) aR aR ?_;simp[cZ,uu,aX,aY,aV];simp[k5];omega
  ·rw[dc];refine c4.ob (dR fun v aK=>aI v (by simp[T.occ,aK])) ag aR aR (by simp[ay]) ?_;rintro r s2 ⟨rfl,rfl⟩;refine⟨Same.refl _,?_⟩;simp[gO,ir,cv,aw];(with_reducible repeat' first|((first|apply bM|apply bR|apply bQ)<;>intro h<;>try simp at h)|refine aj ?_|simp[hu,av,cH,aw]);refine cS.at s2 (.inl rfl) ag (Same.refl _) aR aR ?_;simp[cZ,uu,aX,aY,aV];simp[k5];omega
 |var n=>refine bN.mk mixed fI wP xM (by simp) ag.obj fun aP cP=>?_;unfold uU;simp[hu,av,cH,aw,dc];(with_reducible repeat' first|refine aj ?_|simp[hu,av,cH,aw]);refine c4.ob (aI n (by simp[T.occ])) ag aR aR (by simp[ay]) ?_;rintro r ai ⟨rfl,rfl⟩;refine⟨Same.refl _,?_⟩;simp[gO,ir,cv,aw];refine cS.at ai (.inl rfl) ag (Same.refl _) aR aR ?_;simp[cZ,uu,aX,aY,aV];simp[k5]
 |_=>refine bN.mk mixed fI wP xM (by simp) ag.obj fun aP cP=>?_;unfold uU;simp[hu,av,cH,aw,dc];(with_reducible repeat' first|refine aj ?_|simp[hu,av,cH,aw]);refine cS.at s (.inl rfl) ag (Same.refl _) aR aR ?_;simp[cZ,uu,aX,aY,aV];simp[k5]
theorem acX(s:cI)(ag:ea s)(g:Nat)(dp:List ah)(ay:aJ (inObs s) dp)(dc:cR dp=dp)(f:Int→Option T)(t:T)(aI:∀v,t.occ v=true→bN al g (.int .i64 v::dp) s fun r ai=>r= .tuple [((f v).getD .nil).e,.bool (f v).isSome]∧ai=s):
  bN al 194 [t.e,.func g dp] s fun r ai=>r=(t.sub f).e∧ai=s:=by
 have aw:∀m,Pv.look (.loc m) s.b=none:=ag.obj.1;have cF:∀m,Pv.look (.loc m) s.e=none:=ag.obj.2;have hu:∀m cs,cw (.loc m) cs s.b=s.b++[(.loc m,cs)]:=fun m cs=>jT (aw m);have av:∀m,aH.loc m∉cQ s:=jO ag.obj;have ly:∀m p r,cw (.loc m) p (s.b++r)=s.b++cw (.loc m) p r:=fun m p r=>AE (aw m);induction t with
 |pair a b dQ dR=>refine bN.mk mixed fI yK zT (by simp) ag.obj fun aP cP=>?_;unfold wK;simp[hu,av,cH,aw,cF,dc,ly];(with_reducible repeat' first|refine aj ?_|simp[hu,av,cH,aw,cF,ly]);refine hX.ob (dQ fun v aK=>aI v (by simp[T.occ,aK])) ag ag (Same.refl _) aR aR (by simp[ay]) ?_;simp[gO,ir,cv,aw,dc];refine hX.ob (dR fun v aK=>aI v (by simp[T.occ,aK])) ag ag (Same.refl _) aR aR (by simp[ay]) ?_;simp[gO,ir,cv,aw,dc];(with_reducible repeat' first|refine aj ?_|refine aD (Ha _ _) ?_|refine aE (Ha _ _) ?_|simp);refine cS.at s (.inl rfl) ag (Same.refl _) aR aR ?_;simp[cZ,xU,aX,aY,aV,cH,aw];simp[T.sub]
 |var n=>
  refine bN.mk mixed fI yK zT (by simp) ag.obj fun aP cP=>?_;unfold wK;simp[hu,av,cH,aw,dc,ly];(with_reducible repeat' first|refine aj ?_|simp[hu,av,cH,aw,ly]);refine c4.ob (aI n (by simp[T.occ])) ag aR aR (by simp[ay]) ?_;rintro r ai ⟨rfl,rfl⟩;refine⟨Same.refl _,?_⟩;simp[gO,ir,cv,aw,hu,av,cH];(with_reducible repeat' first|((first|apply bM|apply bR|apply bQ)<;>intro h<;>try simp at h)|refine aj ?_|refine aD (s7 _) ?_|refine aE (s7 _) ?_|simp[hu,av,cH,aw,ly]);all_goals refine cS.at ai (.inl rfl) ag (Same.refl _) aR aR ?_
  all_goals simp[cZ,xU,aX,aY,aV,cH,aw]
  all_goals cases qq:f n<;>simp_all[T.sub]
 |_=>refine bN.mk mixed fI yK zT (by simp) ag.obj fun aP cP=>?_;unfold wK;simp[hu,av,cH,aw,dc,ly];(with_reducible repeat' first|((first|apply bM|apply bR|apply bQ)<;>intro h<;>try simp at h)|refine aj ?_|simp[hu,av,cH,aw,ly]);refine cS.at s (.inl rfl) ag (Same.refl _) aR aR ?_;simp[cZ,xU,aX,aY,aV,cH,aw];simp[T.sub]
def nT(l:List ar):cI:=⟨[(.obj 201,[.slice 5 .no (l.map ar.e)])],[]⟩
def qR(l:List ar):cI:=⟨[(.obj 201,[.slice 5 .no (l.map ar.e)]),(.obj 202,[.func 138 [.ptr (.obj 201) 0]])],[]⟩
theorem AP(l:List ar):ea (nT l):=by unfold nT;exact(ea.of ⟨by intro m;simp[Pv.look],by intro m;simp[Pv.look]⟩ (by simp[aJ,aC,inObs,Pv.look]) (by simp[aJ,aC,inObs,Pv.look]))
theorem Hk(l:List ar):ea (qR l):=by unfold qR;exact(ea.of ⟨by intro m;simp[Pv.look],by intro m;simp[Pv.look]⟩ (by simp[aJ,aC,inObs,Pv.look]) (by simp[aJ,aC,inObs,Pv.look]))
def tC(l:List ar)(v:Int):Int:=match rH l v with|some x=>fq x.tm 5000|none=>1
theorem acF(l:List ar)(v:Int): -1≤tC l v:=by
 unfold tC;split
 ·rename_i x _;rcases Cx x.tm 5000 with h|h<;>omega
 ·omega
theorem Xk(t:T):bG al 131 [t.e,.int .i64 5000] (.int .i64 (fq t.tm 5000)):=by have:=Xj t.tm.sz t.tm (eR _) 5000 (by omega);rwa[iR]at this
theorem ac7(l:List ar)(v:Int)(au:l.length≤1000000):bN al 193 [.int .i64 v,.ptr (.obj 202) 0] (qR l) fun r ai=>r= .int .i64 (tC l v)∧ai=qR l:=by
 have ag:=Hk l;unfold qR at ag⊢;refine bN.mk mixed fI abb ahD (by simp) ag.obj fun aP cP=>?_;unfold OJ;simp;refine c4.ob (Rk l v au _ rfl) (AP l) aR aR (by simp[inObs]) ?_;rintro r ai ⟨rfl,rfl⟩;refine⟨Same.refl _,?_⟩;simp[cv];(with_reducible repeat' first|((first|apply bM|apply bR|apply bQ)<;>intro h<;>try simp at h)|refine aj ?_|refine aD (Xk _) ?_|refine aE (Xk _) ?_|simp);all_goals refine cS.at _ (.inl rfl) ag (Same.refl _) aR aR ?_
 all_goals simp[cZ,Vs,aX,aY,aV]
 all_goals unfold tC
 all_goals cases bI:rH l v<;>simp_all
def CP(l:List ar)(t:T):T:=t.sub (rH l)
def sP(l:List ar)(t:T):Bool:=decide (k5 (tC l) t≤5000)
theorem ac6(l:List ar)(t:T)(au:l.length≤1000000):bN al 137 [t.e,.func 138 [.ptr (.obj 201) 0]] (nT l) fun r ai=>r= .tuple [(if sP l t then CP l t else .nil).e,.bool (sP l t)]∧ai=nT l:=by
 have ag:=AP l;unfold nT at ag⊢;refine bN.mk mixed fI aba ahC (by simp) ag.obj fun aP cP=>?_;unfold OI;simp;refine c4.ob (ada (qR l) (Hk l) 193 [.ptr (.obj 202) 0] (by simp[inObs,qR]) (by simp) (tC l) (acF l) t fun v aK=>ac7 l v au) (Hk l) (by unfold qR;exact aR) (by unfold qR;exact aR) (by simp[inObs,qR]) ?_;rintro r ai ⟨rfl,rfl⟩;refine⟨Same.refl _,?_⟩;unfold qR;simp[cv];(with_reducible repeat' first|((first|apply bM|apply bR|apply bQ)<;>intro h<;>try simp at h)|refine aj ?_|simp)
 ·refine cS.at _ (.inl rfl) ag (Same.refl _) aR aR ?_;simp[cZ,Lu,aX,aY,aV];have:sP l t=false:=by simp[sP];omega
  simp[this]
 ·refine c4.ob (acX (nT l) (AP l) 138 [.ptr (.obj 201) 0] (by simp[inObs,nT]) (by simp) (rH l) t fun v aK=>Rk l v au _ rfl) (AP l) (by unfold nT;exact aR) (by unfold nT;exact aR) (by simp[inObs,nT]) ?_;rintro r ai ⟨rfl,rfl⟩;refine⟨Same.refl _,?_⟩;unfold nT;simp[cv];refine cS.at _ (.inl rfl) ag (Same.refl _) aR aR ?_;simp[cZ,Lu,aX,aY,aV];have:sP l t=true:=by simp[sP];omega
  simp[this,CP]
theorem amn(l:List ar)(t:T)(au:l.length≤1000000):bG al 69 [.slice 5 .no (l.map ar.e),t.e] (.tuple [(if sP l t then CP l t else .nil).e,.bool (sP l t)]):=by refine bd fI aa8 ahA fun aP=>?_;unfold OG;simp;refine c4.ob (ac6 l t au) (AP l) (by unfold nT;exact aR) (by unfold nT;exact aR) (by simp[inObs,nT]) ?_;rintro r ai ⟨rfl,rfl⟩;refine⟨Same.refl _,?_⟩;unfold nT;simp[cv];simp[bu,Vr,aX,aY,aV]
theorem Mi(p:Nat→Bool)(n:Nat)(hm:∀k bL,k≤bL→bL<n→p k=true→p bL=true):∀(m i j:Nat),j-i≤m→i≤j→j≤n→(∀k,k<i→p k=false)→(∀k,j≤k→k<n→p k=true)→
  (i≤l2 p i j∧l2 p i j≤j)∧(∀k,k<l2 p i j→p k=false)∧(∀k,l2 p i j≤k→k<n→p k=true)
 |m,i,j,aQ,lS,af,J,U=>by
  rw[l2];split
  ·rename_i bC;obtain⟨m,rfl⟩:∃hk,m=hk+1:=⟨m-1,by omega⟩;split
   ·rename_i bI;have:=Mi p n hm m i ((i+j)/2) (by omega) (by omega) (by omega) J (fun k ad EP=>hm _ k ad EP bI);exact⟨⟨this.1.1,by omega⟩,this.2⟩
   ·rename_i bI;have:=Mi p n hm m ((i+j)/2+1) j (by omega) (by omega) af (fun k ad=>by
     by_cases nA:p k=true
     ·exact absurd (hm k ((i+j)/2) (by omega) (by omega) nA) bI
     ·simpa using nA) U
    exact⟨⟨by omega,this.1.2⟩,this.2⟩
  ·obtain rfl:i=j:=by omega
   exact⟨⟨eR _,eR _⟩,J,U⟩
theorem Lj{l:List ar}(ag:iv l)(v:Int):rH l v=di l v:=by
 have bC:∀(i j:Nat) (x y:ar),i<j→l[i]? =some x→l[j]? =some y→x.v<y.v:=by intro i j x y lS ab aG;obtain⟨J,rfl⟩:=fN.1 ab;obtain⟨U,rfl⟩:=fN.1 aG;exact pt.1 ag i j J U lS
 obtain⟨p,bI⟩:∃p:Nat→Bool,p=(fun i=>match l[i]? with|some b=>decide (v≤b.v)|none=>false):=⟨_,rfl⟩;have EX:∀i b,l[i]? =some b→p i=decide (v≤b.v):=fun i b ae=>by rw[bI];simp[ae]
 have hm:∀k bL,k≤bL→bL<l.length→p k=true→p bL=true:=by
  intro k bL ad nA h;have ak:l[k]? =some l[k]:=cf (by omega);have aB:l[bL]? =some l[bL]:=cf nA;rw[EX k _ ak]at h;rw[EX bL _ aB];simp only[fE]at h⊢;rcases Nat.lt_or_eq_of_le ad with vj|rfl
  ·have:=bC k bL _ _ vj ak aB;omega
  ·exact h
 obtain⟨⟨_,hle⟩,hbef,haft⟩:=Mi p l.length hm l.length 0 l.length (by omega) (by omega) (eR _) (fun k ad=>by omega) (fun k J U=>by omega);have Jp:mM l v=(match l[l2 p 0 l.length]? with|some b=>if b.v=v then((l2 p 0 l.length:Nat):Int)else-1|none=> -1):=by rw[bI];rfl
 generalize l2 p 0 l.length=r at hle hbef haft Jp;by_cases hex:∃(k:Nat) (b:ar),l[k]? =some b∧b.v=v
 ·obtain⟨k,b,ae,RI⟩:=hex;have ih:k<l.length:=(fN.1 ae).1;have gp:r≤k:=by
   rcases Nat.lt_or_ge k r with h|h
   ·have:=hbef k h;rw[EX k b ae]at this;simp at this;omega
   ·exact h
  have aL:l[r]? =some l[r]:=cf (by omega);have zj:=haft r (eR _) (by omega);rw[EX r _ aL]at zj;simp only[fE]at zj;have aeS:r=k:=by
   rcases Nat.lt_or_eq_of_le gp with h|h
   ·have:=bC r k _ _ h aL ae;omega
   ·exact h
  subst aeS;have Js:mM l v=r:=by rw[Jp,ae];simp[RI]
  have J:rH l v=some b.t:=by unfold rH;rw[Js,if_neg (by omega)];simp[ae]
  have U:l.find? (fun b=>b.v==v)=some b:=by
   rw[List.find?_eq_some_iff_getElem];refine⟨by simp[RI],r,ih,?_,fun j af=>?_⟩
   ·rw[cf ih]at ae;simpa using ae
   ·have:=bC j r l[j] b af (cf (by omega)) ae;simp;omega
  rw[J];simp[di,U]
 ·have U:l.find? (fun b=>b.v==v)=none:=by rw[List.find?_eq_none];intro b ae;obtain⟨k,ad,rfl⟩:=List.mem_iff_getElem.1 ae;simp;intro e;exact hex ⟨k,l[k],cf ad,e⟩
  have Js:mM l v= -1:=by
   rw[Jp];split
   ·rename_i b ae;rw[if_neg (fun e=>hex ⟨r,b,ae,e⟩)]
   ·rfl
  unfold rH;rw[Js];simp[di,U]
theorem Q4{l:List ar}(ag:iv l)(v:Int):mM l v<0↔di l v=none:=by
 rw[←Lj ag v];unfold rH;have J:=Q3 l v;by_cases h:mM l v<0
 ·simp[h]
 ·simp only[h,if_false,false_iff];intro e;rw[Option.map_eq_none_iff,List.getElem?_eq_none_iff]at e;omega
def yP(s:List ar):Prop:= ∀b∈s,b.t.fit=true
theorem acE{l:List ar}(ag:iv l)(h:yP l)(v:Int):tC l v=(cA l v).size:=by
 unfold tC cA;rw[Lj ag];cases ae:di l v with
 |none=>simp[T.size]
 |some x=>have:=h _ (jY ae);simp only[T.fit,cz,fE]at this;simp only[j9];rw[FQ,if_pos ⟨this.1,by omega⟩]
theorem akG{l:List ar}(ag:iv l)(h:yP l)(t:T):k5 (tC l) t=cut (t.ap (cA l)).size:=by
 induction t with
 |var n=>simp only[k5,acE ag h,T.ap];rfl
 |pair a b dQ dR=>have ae:=T.size_pos (b.ap (cA l));simp only[k5,dQ,dR,T.ap,T.size];unfold cut;(repeat' split)<;>omega
 |_=>simp[k5,T.ap,T.size,cut]
theorem ai4{l:List ar}(ag:iv l)(h:yP l)(t:T):sP l t=decide ((t.ap (cA l)).size≤5000):=by unfold sP;rw[akG ag h];unfold cut;split<;>simp<;>omega
theorem ai5{l:List ar}(ag:iv l)(t:T):CP l t=t.ap (cA l):=by unfold CP;rw[Wx];exact tn fun v _=>by rw[Lj ag];rfl
theorem Hb(l:List ar)(t:T)(au:l.length≤1000000)(ag:iv l)(h:yP l):bG al 69 [.slice 5 .no (l.map ar.e),t.e] (.tuple [(if(t.ap (cA l)).size≤5000 then t.ap (cA l)else .nil).e,.bool (decide ((t.ap (cA l)).size≤5000))]):=by have:=amn l t au;rw[ai4 ag h,ai5 ag]at this;simpa using this
def Cm(l:List (Int×T)):List ah:=jB (l.map fun x=>(x.1,x.2.e))
@[simp] theorem apR:Cm []=jB []:=rfl
@[simp] theorem aq9(m:aH)(l:List (Int×T)):vV m (Cm l)=some (cd l.length [] m):=by simp[Cm]
@[simp] theorem aqm(l:List (Int×T)):hN (Cm l)=false:=rfl
@[simp] theorem ap7(f:aH→Option (List ah))(m:aH)(l:List (Int×T))(hm:f m=some (Cm l)):ug f (.gmap m)=some (True,.int .i64 l.length):=by have:=agJ f m _ hm;simpa using this
def aku(x:Int×T):Bool:= !(decide (x.2= .var x.1))
end Go.Proofs.YtahlgcidhnjlbaaGreat
namespace Go.Proofs
open Go.Shelf
def Tryz.lays191_ren:Go.Shelf.Ren:=⟨fun|191=>191|189=>220|125=>213|257=>250|128=>236|129=>237|294=>261|295=>262|296=>263|297=>264|298=>265|299=>266|216=>267|300=>268|301=>269|328=>272|329=>273|330=>274|331=>275|332=>276|215=>277|343=>278|n=>n,fun|28=>76|0=>0|3=>3|46=>192|51=>206|53=>208|4=>4|183=>230|182=>229|131=>214|5=>5|9=>9|218=>238|222=>226|228=>241|229=>236|n=>n,fun|n=>n⟩
theorem Tryz.lays191:Go.Proofs.Lays.n191 al Tryz.lays191_ren:={
 mixed:=by kernel_rfl
 f125:=Tryz.func213.trans (e7 some (by kernel_rfl))
 f128:=Tryz.func236.trans (e7 some (by kernel_rfl))
 f129:=Tryz.func237.trans (e7 some (by kernel_rfl))
 f189:=Tryz.func220.trans (e7 some (by kernel_rfl))
 f191:=Tryz.func191.trans (e7 some (by kernel_rfl))
 f215:=Tryz.func277.trans (e7 some (by kernel_rfl))
 f216:=Tryz.func267.trans (e7 some (by kernel_rfl))
 f257:=Tryz.func250.trans (e7 some (by kernel_rfl))
 f294:=Tryz.func261.trans (e7 some (by kernel_rfl))
 f295:=Tryz.func262.trans (e7 some (by kernel_rfl))
 f296:=Tryz.func263.trans (e7 some (by kernel_rfl))
 f297:=Tryz.func264.trans (e7 some (by kernel_rfl))
 f298:=Tryz.func265.trans (e7 some (by kernel_rfl))
 f299:=Tryz.func266.trans (e7 some (by kernel_rfl))
 f300:=Tryz.func268.trans (e7 some (by kernel_rfl))
 f301:=Tryz.func269.trans (e7 some (by kernel_rfl))
 f328:=Tryz.func272.trans (e7 some (by kernel_rfl))
 f329:=Tryz.func273.trans (e7 some (by kernel_rfl))
 f330:=Tryz.func274.trans (e7 some (by kernel_rfl))
 f331:=Tryz.func275.trans (e7 some (by kernel_rfl))
 f332:=Tryz.func276.trans (e7 some (by kernel_rfl))
 f343:=Tryz.func278.trans (e7 some (by kernel_rfl))
 t0:=Tryz.underlying0
 a0:=Tryz.isAgg0
 z0:=Tryz.sizeOf0
 v0:=Tryz.zeroValue0
 t3:=Tryz.underlying3
 a3:=Tryz.isAgg3
 z3:=Tryz.sizeOf3
 v3:=Tryz.zeroValue3
 t4:=Tryz.underlying4
 a4:=Tryz.isAgg4
 z4:=Tryz.sizeOf4
 v4:=Tryz.zeroValue4
 t5:=Tryz.underlying5
 a5:=Tryz.isAgg5
 z5:=Tryz.sizeOf5
 v5:=Tryz.zeroValue5
 t9:=Tryz.underlying9
 a9:=Tryz.isAgg9
 z9:=Tryz.sizeOf9
 v9:=Tryz.zeroValue9
 t28:=Tryz.underlying76
 a28:=Tryz.isAgg76
 z28:=Tryz.sizeOf76
 v28:=Tryz.zeroValue76
 t46:=Tryz.underlying192
 a46:=Tryz.isAgg192
 z46:=Tryz.sizeOf192
 v46:=Tryz.zeroValue192
 t51:=Tryz.underlying206
 a51:=Tryz.isAgg206
 z51:=Tryz.sizeOf206
 v51:=Tryz.zeroValue206
 t53:=Tryz.underlying208
 a53:=Tryz.isAgg208
 z53:=Tryz.sizeOf208
 v53:=Tryz.zeroValue208
 t131:=Tryz.underlying214
 a131:=Tryz.isAgg214
 z131:=Tryz.sizeOf214
 v131:=Tryz.zeroValue214
 t182:=Tryz.underlying229
 a182:=Tryz.isAgg229
 z182:=Tryz.sizeOf229
 v182:=Tryz.zeroValue229
 t183:=Tryz.underlying230
 a183:=Tryz.isAgg230
 z183:=Tryz.sizeOf230
 v183:=Tryz.zeroValue230
 t218:=Tryz.underlying238
 a218:=Tryz.isAgg238
 z218:=Tryz.sizeOf238
 v218:=Tryz.zeroValue238
 t222:=Tryz.underlying226
 a222:=Tryz.isAgg226
 z222:=Tryz.sizeOf226
 v222:=Tryz.zeroValue226
 t228:=Tryz.underlying241
 a228:=Tryz.isAgg241
 z228:=Tryz.sizeOf241
 v228:=Tryz.zeroValue241
 t229:=Tryz.underlying236
 a229:=Tryz.isAgg236
 z229:=Tryz.sizeOf236
 v229:=Tryz.zeroValue236}
end Go.Proofs

namespace Go.Proofs.YtahlgcidhnjlbaaGreat
open Go Go.Pv
def et(xs:List Int):List ah:=xs.map (ah.int .i64)
theorem VZ{w:World}{ν:bc}:∀{xs:List Int} {us:List Value},dA w ν 1 (et xs) us→us=xs.map (Value.int .i64)
 |[],us,h=>by simpa[et,dA]using h
 |x::xs,us,h=>by simp only[et,gG,dA]at h;obtain⟨u,ca,rfl,⟨J,_,_⟩,U⟩:=h;simp only[a7]at J;subst J;rw[VZ U];rfl
theorem S0(w:World)(ν:bc):∀xs:List Int,dA w ν 1 (et xs) (xs.map (Value.int .i64))
 |[]=>by simp[et,dA]
 |x::xs=>by simp only[et,gG,dA];exact⟨.int .i64 x,_,rfl,⟨by simp[a7],rfl,by intro c ay;simp[po]at ay;subst ay;rfl⟩,S0 w ν xs⟩
def mH(K:Nat)(xs:List Int):cI:=⟨[],[(.obj K,⟨xs.length,3,1,some (et xs)⟩)]⟩
theorem sG(S:aH→Prop)(xs:List Int):aJ S (et xs):=by
 induction xs with
 |nil=>simp[et,aJ]
 |cons x r bS=>simp only[et,gG,aJ,aC];exact⟨trivial,bS⟩
theorem Hn(K:Nat)(xs:List Int):ea (mH K xs):=by unfold mH;refine ea.of ⟨by intro m;simp[Pv.look],by intro m;simp[Pv.look]⟩ (by simp) ?_;intro x ab ys aG;simp at ab;subst ab;simp at aG;subst aG;exact sG _ xs
def qI(xs:List Int):List Int:=xs.mergeSort fun x y=>decide (x≤y)
theorem Wo(xs:List Int):(qI xs).length=xs.length:=List.length_mergeSort xs
theorem adh(K:Nat)(xs:List Int)(au:xs.length≤1000000):bN al 191 [.row 1 (.obj K) xs.length] (mH K xs) fun r ai=>r= .tuple []∧ai=mH K (qI xs):=by
 refine bN.sem (Hn K xs).obj fun w ν ba ko aL=>?_;refine .inl ⟨⟨Tryz.f191,Tryz.func191,by kernel_rfl,by kernel_rfl⟩,?_⟩;have rn:=aL.slot 0;simp only[jF,Pv.get,if_true]at rn;have kH:Pv.look (.obj K) (mH K xs).e=some ⟨xs.length,3,1,some (et xs)⟩:=by simp[mH,Pv.look]
 obtain⟨v,us,a6,bz,bU,cT⟩:=aL.good.own (.obj K) _ kH;obtain⟨c8,nF,uq⟩:=cT _ rfl;have qy:=VZ nF;subst qy;simp only[a7]at rn;obtain⟨⟨ani,YD,va⟩,_,n',u,ak,aB,bf⟩:=rn;rw[a6]at ak;simp only[dG,jm]at ak;obtain⟨rfl,rfl⟩:=ak;have aK:=bf rfl;have ae6:ba= #[v]:=by
  have J:ba.size=1:=by simpa using ko
  apply Array.ext (by simpa using J);intro i U ao;simp at ao;subst ao;rw[←aK];simp[Array.getD,J]
 have cF:v≠ .slice none 0 0:=by rw[←aK,va];simp
 obtain⟨g,cap,rfl,_,qs,rb,ad4,BF,Bu⟩:=Lib.holds_of_ownsRow bz cF;have ay:=Any.sort_Ints Tryz.lays191 g 0 cap xs w Bu qs (by omega);subst ae6;refine ay.mono ?_;rintro e w' ⟨rfl,n,os,rfl⟩;have pL:=Wo xs;have ls:=Lib.ownsRow_putRow (q:=n) (k:=xs.length) (ys:=qI xs) bz pL (eR _);rw[hn (by omega)]at ls;obtain⟨cN,dq,_⟩:=aL.setRowM (w':=Sort.putRow (Value.int .i64) (Sort.ahead w n) g 0 (qI xs).toArray) kH rfl a6 (bl:=g) rfl (v':= .slice (some ⟨g,0,none⟩) xs.length cap) rfl (xs':=et (qI xs)) (us:=(qI xs).map (Value.int .i64)) (.inl ⟨by simp[et,pL],rfl⟩) rfl rfl rfl
  (fun j af=>by simp[Sort.putRow,Sort.mapBlock,Sort.ahead,Array.getElem?_modify,kR af]) (by simp[Sort.putRow,Sort.mapBlock,Sort.ahead]) (by simpa[et,pL]using ls) (S0 _ _ _)
 have iJ:=cN.grown (w':=Sort.grow (Sort.putRow (Value.int .i64) (Sort.ahead w n) g 0 (qI xs).toArray) os) ⟨rfl,rfl,rfl,by simp,fun k ad _=>Sort.heap_grow_old _ _ ad⟩;refine⟨_,_,_,_,.tuple [],mH K (qI xs),rfl,iJ,by simp[a7,cK],by simp[mH,lZ],?_,?_,?_,(Hn K _).obj,by simp[aC,aJ],rfl,rfl⟩
 ·simp[mH,lZ,inObs,Pv.look]
 ·intro k cs ad;simp[mH,Pv.look]at ad
 ·intro k o ad;have hm:=sI ad;simp[mH]at hm;obtain⟨rfl,rfl⟩:=hm;refine⟨by simp[mH,Pv.look,cw,et,pL],.inr (by simp[ad]),fun ys aG=>?_⟩;simp at aG;subst aG;exact sG _ _
def nY(l:List Int):List ah:=jB (l.map fun x=>(x,.bool true))
theorem mr(S:aH→Prop)(l:List Int):aJ S (nY l):=by
 have:∀l:List Int,aJ S (kg (l.map fun x=>(x,.bool true))):=by
  intro l;induction l with
  |nil=>simp[kg,aJ]
  |cons x r bS=>simp[kg,aJ,bS,aC]
 simp[nY,jB,aJ,this,aC]
def Hz(v:Int)(l:List Int):List Int:=if v∈l then l else l++[v]
theorem NG(k:Int):∀l:List Int,oU k (.bool true) (l.map fun x=>(x,ah.bool true))=if k∈l then some (l.map fun x=>(x,ah.bool true))else none
 |[]=>rfl
 |i::r=>by
  by_cases h:k=i
  ·simp[oU,h]
  ·by_cases U:k∈r<;>simp[oU,h,U,NG k r]
@[simp] theorem ap8(k:Int)(l:List Int):ov .i (.int .i64 k) (.bool true) (nY l)=some (nY (Hz k l)):=by
 simp only[nY,Uk,DH,NG,Hz];split<;>rename_i h
 ·split at h
  ·simp at h;subst h;simp[*]
  ·cases h
 ·split at h
  ·cases h
  ·simp[*]
@[simp] theorem anj:nY []=jB []:=rfl
@[simp] theorem aqk(l:List Int):hN (nY l)=false:=rfl
@[simp] theorem aq8(m:aH)(l:List Int):vV m (nY l)=some (cd l.length [] m):=by simp[nY]
theorem agn(f:aH→Option (List ah))(fj mk:aH)(n:Nat)(seen:List Nat)(b:Nat)(l:List Int)(x:Int)(hi:f fj=some (cd n (seen++[b]) mk))(hm:f mk=some (nY l))(aw:n=l.length)(ab:l[b]? =some x):pe f (.ptr fj 0)=some (True,.tuple [.int .i64 x,.bool true]):=by rw[T5 f fj mk n seen b _ hi hm (by simpa using aw)];simp[ab]
theorem ZE{st:bq}{d:Nat}{K:bq→Prop}{fj mk:aH}{n:Nat}{seen:List Nat}{l:List Int}(hi:Pv.look fj st.b=some (cd n seen mk))(hm:Pv.look mk st.b=some (nY l))(aw:n=l.length)
  (J:(∀b,b<l.length→b∈seen)→K {st with t:=Pv.put d (.tuple [.bool false]) st.t}) (U:∀b x,l[b]? =some x→b∉seen→K {st with t:=Pv.put d (.tuple [.bool true,.int .i64 x,.bool true]) st.t,b:=cw fj (cd n (seen++[b]) mk) st.b}):
  sd st d (.ptr fj 0) K:=by
 refine Qy hi hm (by simpa using aw) (fun h=>J fun b ae=>h b (by omega)) (fun b k v ae ag=>?_);simp only[List.getElem?_map,gH]at ae;obtain⟨x,ak,aB⟩:=ae;simp only[jm]at aB;obtain⟨rfl,rfl⟩:=aB;exact U b x ak ag
def _root_.Go.Pv.T.fold{α:Type}(f:Int→α→α):T→α→α
 | .var n,a=>f n a
 | .pair x y,a=>y.fold f (x.fold f a)
 |_,a=>a
theorem Rf{α:Type}(S:α→cI)(dE:∀a,ea (S a))(e4:∀a b,Same (S a) (S b))(g:Nat)(dp:List ah)(ay:∀a,aJ (inObs (S a)) dp)(dc:cR dp=dp)(f:Int→α→α)(aI:∀v a,bN al g (.int .i64 v::dp) (S a) fun r ai=>r= .tuple []∧ai=S (f v a))(t:T):
  ∀a,bN al 134 [t.e,.func g dp] (S a) fun r ai=>r= .tuple []∧ai=S (t.fold f a):=by
 have aw:∀a m,Pv.look (.loc m) (S a).b=none:=fun a=>(dE a).obj.1;have hu:∀a m cs,cw (.loc m) cs (S a).b=(S a).b++[(.loc m,cs)]:=fun a m cs=>jT (aw a m);have av:∀a m,aH.loc m∉cQ (S a):=fun a=>jO (dE a).obj;induction t with
 |pair x y pb rv=>intro a;have ag:=dE a;refine bN.mk mixed fI yJ zS (by simp) ag.obj fun aP cP=>?_;unfold wJ;simp[hu,av,cH,aw,dc];(with_reducible repeat' first|refine aj ?_|simp[hu,av,cH,aw]);refine c4.ob (pb a) ag aR aR (by simp[ay]) ?_;rintro r ai ⟨rfl,rfl⟩;refine⟨e4 _ _,?_⟩;simp[gO,ir,cv,aw];(with_reducible repeat' first|refine aj ?_|simp[hu,av,cH,aw]);rw[dc];refine c4.ob (rv (x.fold f a)) (dE (x.fold f a)) aR aR (by simp[ay]) ?_;rintro r ai ⟨rfl,rfl⟩;refine⟨e4 _ _,?_⟩;simp[gO,ir,cv,aw];refine cS.at (S (y.fold f (x.fold f a))) (.inr rfl) (dE _) (e4 _ _) aR aR ?_;simp[cZ,xT,aX,aY,aV];simp[T.fold]
 |var n=>intro a;have ag:=dE a;refine bN.mk mixed fI yJ zS (by simp) ag.obj fun aP cP=>?_;unfold wJ;simp[hu,av,cH,aw,dc];(with_reducible repeat' first|refine aj ?_|simp[hu,av,cH,aw]);refine c4.ob (aI n a) ag aR aR (by simp[ay]) ?_;rintro r ai ⟨rfl,rfl⟩;refine⟨e4 _ _,?_⟩;simp[gO,ir,cv,aw,cH];refine cS.at (S (f n a)) (.inr rfl) (dE _) (e4 _ _) aR aR ?_;simp[cZ,xT,aX,aY,aV];simp[T.fold]
 |_=>intro a;have ag:=dE a;refine bN.mk mixed fI yJ zS (by simp) ag.obj fun aP cP=>?_;unfold wJ;simp[hu,av,cH,aw,dc];(with_reducible repeat' first|refine aj ?_|simp[hu,av,cH,aw]);refine cS.at (S a) (.inr rfl) ag (Same.refl _) aR aR ?_;simp[cZ,xT,aX,aY,aV];simp[T.fold]
def th(l:List Int):cI:=⟨[(.obj 304,nY l)],[]⟩
theorem Nn(l:List Int):ea (th l):=by unfold th;exact ea.of ⟨by intro m;simp[Pv.look],by intro m;simp[Pv.look]⟩ (by simp[mr,aJ,aC,inObs,Pv.look]) (by simp)
def HM:C:=(aa [cx 1 0,be 2 false] (.seq (.seq (.fz false 1 (.region [ax 6 1 1,cD 7 158 6,cu 8 7])) (aT 8 (aa [be 2 false] .ret) .skip)) (.seq (aa [ax 9 1 1,cn 10 9,bV 11 0] (fw 12 11 10 (.seq (.block 1 (aa [ct 13 5 9 11,aW 14 5 13,dk 4 jA,bK 5 4 14] (aa [c3 (.alloc 5 (some 731) (.bool false)),c3 (.store 1 (.t 5) (.c (.bool true)))] (aa [hD 15 1 4 4,aW 16 4 15,b5 17 (.mkf 159 [.t 1,.t 5]),b7 18 134 16 17] (aa [ax 19 1 5,cu 20 19,I 21 20,aq 21 false (hD 22 1 4 4),aq 21 false (aF 23 0 1 22),aq 21 false (ax 24 1 23),aq 21 false (aU 25 .eql 24 1),b3 21 false 26 25,aq 26 true (hD 27 1 4 4),aq 26 true (aF 28 1 1 27),aq 26 true (ax 29 1 28),aq 26 true (aF 30 0 1 4),aq 26 true (ax 31 1 30),aq 26 true (bo 32 .geq 29 31),aq 21 false (dz 33 26 32),c2 34 21 33] (aT 34 (aa [be 2 false] .ret) .skip)))))) (.region [aU 35 .add 11 1,I 11 35])))) (aa [be 2 true] .ret))))
@[simp] def ajf:List bt:=[.tmp 2]
def HN:C:=(aa [ax 4 1 1,I 5 0,b7 6 139 4 5,aU 7 .geq 6 0] (aT 7 (.region [c3 (.store 1 (.t 2) (.c (.bool false)))]) .skip))
@[simp] def Lq:List bt:=[]
def N3:C:=(aa [ej 4 5,be 5 false] (.seq (aa [I 8 0,cD 9 86 8,cu 10 9,I 11 10,b3 11 false 12 1,aq 11 false (cD 13 86 12),aq 11 false (cu 14 13),c2 15 11 14] (aT 15 (aa [ej 4 5,be 5 false] .ret) .skip)) (aa [I 17 1,cD 18 205 17,I 16 18,cC 19 0 16,cC 20 1 16,I 6 19,I 7 20] (aa [I 21 0,I 22 6,I 23 7,dn 24 186 [.t 21,.t 22,.t 23],cC 25 0 24,cC 26 1 24,I 4 25,I 5 26] .ret))))
@[simp] def U7:List bt:=[.tmp 4,.tmp 5]
def N8:C:=(aa [ej 4 5] (.seq (aa [I 8 0,cD 9 86 8,cu 10 9,I 11 10,b3 11 false 12 1,aq 11 false (cD 13 86 12),aq 11 false (cu 14 13),c2 15 11 14] (aT 15 (aa [ej 4 5] .ret) .skip)) (aa [ei 16 5 113 [],I 5 16] (.seq (aa [I 17 1,cn 18 17,bV 19 0] (fw 20 19 18 (.seq (.block 1 (aa [ct 21 5 17 19,aW 22 5 21,dk 7 jA,bK 5 7 22] (aa [I 23 0,aF 24 0 1 7,ax 25 1 24,b7 26 139 23 25,aU 27 .lss 26 0] (aT 27 (.drawn true 39 [I 28 5,aF 29 0 1 7,ax 30 1 29,hD 31 1 4 7,aW 32 4 31,cD 33 143 32,iu 34 jA [(0,1,(.t 30)),(1,4,(.t 33))],ei 35 5 113 [.t 34],gF 36 5 113 28 35,I 5 36]) .skip)))) (.region [aU 37 .add 19 1,I 19 37])))) (aa [I 38 5,I 4 38] .ret)))))
@[simp] def ajd:List bt:=[.tmp 4]
def Ou:C:=(aa [ej 2 5] (aa [ei 6 5 113 [],I 3 6] (.seq (aa [I 7 0,cn 8 7,bV 9 0] (fw 10 9 8 (.seq (.block 1 (aa [ct 11 5 7 9,aW 12 5 11,dk 5 jA,bK 5 5 12] (.drawn true 24 [I 13 3,aF 14 0 1 5,ax 15 1 14,hD 16 1 4 5,aW 17 4 16,cD 18 143 17,iu 19 jA [(0,1,(.t 15)),(1,4,(.t 18))],ei 20 5 113 [.t 19],gF 21 5 113 13 20,I 3 21]))) (.region [aU 22 .add 9 1,I 9 22])))) (aa [I 23 3,I 2 23] .ret))))
@[simp] def ajk:List bt:=[.tmp 2]
def HR:C:=(aa [be 4 false] (.seq (aa [I 6 0,cn 7 6,I 8 1,cn 9 8,bo 10 .neq 7 9] (aT 10 (aa [be 4 false] .ret) .skip)) (.seq (aa [I 11 0,cn 12 11,bV 13 0] (fw 14 13 12 (.seq (.block 1 (aa [I 15 13,I 5 15] (.seq (.drawn true 42 [I 16 0,I 17 5,ct 18 5 16 17,aF 19 0 1 18,ax 20 1 19,I 21 1,I 22 5,ct 23 5 21 22,aF 24 0 1 23,ax 25 1 24,bo 26 .neq 20 25,I 27 26,b3 27 false 28 0,b3 27 false 29 5,aq 27 false (ct 30 5 28 29),aq 27 false (hD 31 1 4 30),aq 27 false (aW 32 4 31),b3 27 false 33 1,b3 27 false 34 5,aq 27 false (ct 35 5 33 34),aq 27 false (hD 36 1 4 35),aq 27 false (aW 37 4 36),aq 27 false (b7 38 142 32 37),aq 27 false (cu 39 38),c2 40 27 39]) (aT 40 (aa [be 4 false] .ret) .skip)))) (.region [aU 41 .add 13 1,I 13 41])))) (aa [be 4 true] .ret))))
@[simp] def Vj:List bt:=[.tmp 4]
def Ox:C:=(aa [ej 2 4,ej 3 4] (aa [ei 8 4 30 [],I 4 8] (aa [ei 9 4 30 [],I 5 9] (.seq (aa [I 10 0,cn 11 10,bV 12 0] (fw 13 12 11 (.seq (.block 1 (aa [ct 14 5 10 12,aW 15 5 14,dk 7 jA,bK 5 7 15] (aa [I 16 4,aF 17 0 1 7,ax 18 1 17,cD 19 116 18,ei 20 4 30 [.t 19],gF 21 4 30 16 20,I 4 21] (.region [I 22 5,hD 23 1 4 7,aW 24 4 23,ei 25 4 30 [.t 24],gF 26 4 30 22 25,I 5 26])))) (.region [aU 27 .add 12 1,I 12 27])))) (aa [I 28 4,I 29 5,I 2 28,I 3 29] .ret)))))
@[simp] def Vl:List bt:=[.tmp 2,.tmp 3]
def OD:C:=(aa [bV 4 0] (.seq (aa [bV 5 0] (.block 0 (.loop (.seq (aa [I 8 5,I 9 0,cn 10 9,bo 11 .lss 8 10,I 12 11,b3 12 true 13 5,b3 12 true 14 1,aq 12 true (cn 15 14),aq 12 true (bo 16 .lss 13 15),dz 17 12 16] (aT 17 .skip (.exit 0))) (.seq (.block 1 (.seq (.seq (.drawn true 53 [I 20 0,I 21 5,ct 22 5 20 21,aF 23 0 1 22,ax 24 1 23,I 25 1,I 26 5,ct 27 5 25 26,aF 28 0 1 27,ax 29 1 28,b7 30 190 24 29,I 6 30]) (aa [I 31 6,aU 32 .neq 31 0] (aT 32 (aa [I 33 6,I 4 33] .ret) .skip))) (.seq (.drawn true 53 [I 34 0,I 35 5,ct 36 5 34 35,hD 37 1 4 36,aW 38 4 37,I 39 1,I 40 5,ct 41 5 39 40,hD 42 1 4 41,aW 43 4 42,b7 44 133 38 43,I 7 44]) (aa [I 45 7,aU 46 .neq 45 0] (aT 46 (aa [I 47 7,I 4 47] .ret) .skip))))) (.region [I 18 5,aU 19 .add 18 1,I 5 19])))))) (aa [I 48 0,cn 49 48,I 50 1,cn 51 50,b7 52 190 49 51,I 4 52] .ret)))
@[simp] def CQ:List bt:=[.tmp 4]
def OA:C:=(aa [be 4 false] (.seq (aa [I 11 0,cn 12 11,bV 13 0] (fw 14 13 12 (.seq (.block 1 (aa [ct 15 5 11 13,aW 16 5 15,dk 6 jA,bK 5 6 16] (aa [I 18 1,aF 19 0 1 6,ax 20 1 19,cD 21 116 20,b7 22 69 18 21,I 17 22,cC 23 0 17,cC 24 1 17,dk 7 dO,bK 4 7 23,I 8 24] (aa [I 26 1,hD 27 1 4 6,aW 28 4 27,b7 29 69 26 28,I 25 29,cC 30 0 25,cC 31 1 25,dk 9 dO,bK 4 9 30,I 10 31] (aa [I 32 8,cu 33 32,I 34 33,b3 34 false 35 10,aq 34 false (cu 36 35),c2 37 34 36,I 38 37,aq 38 false (aW 39 4 7),aq 38 false (aW 40 4 9),aq 38 false (b7 41 142 39 40),aq 38 false (cu 42 41),c2 43 38 42] (aT 43 (aa [be 4 false] .ret) .skip)))))) (.region [aU 44 .add 13 1,I 13 44])))) (aa [be 4 true] .ret)))
@[simp] def Ls:List bt:=[.tmp 4]
def sZ:List (Nat×dC):=[
 (3,⟨1,8,.int .i64,.int .i64 0⟩),
 (4,⟨1,1,.bool,.bool false⟩),
 (27,⟨1,24,.slice 30,.slice 4 .nil []⟩),
 (30,⟨4,56,.struct [(0,3),(1,3),(2,9),(3,27)],.agg [.int .i64 0,.int .i64 0,.str [],.slice 4 .nil []]⟩),
 (46,⟨1,24,.slice 113,.slice 5 .nil []⟩),
 (113,⟨5,64,.struct [(0,3),(1,30)],.agg [.int .i64 0,.int .i64 0,.int .i64 0,.str [],.slice 4 .nil []]⟩)]
theorem qM:fM al sZ=true:=by kernel_rfl
theorem Uu:bX sZ HM ajf 1 Tryz.f86=true:=by kernel_rfl
theorem QF:al.funcs[(86:Nat)]? =some Tryz.f86:=Tryz.func86
theorem Uv:bX sZ HN Lq 3 Tryz.f159=true:=by kernel_rfl
theorem QG:al.funcs[(159:Nat)]? =some Tryz.f159:=Tryz.func159
theorem ag2:bX sZ N3 U7 2 Tryz.f165=true:=by kernel_rfl
theorem aaA:al.funcs[(165:Nat)]? =some Tryz.f165:=Tryz.func165
theorem ag7:bX sZ N8 ajd 2 Tryz.f166=true:=by kernel_rfl
theorem aaF:al.funcs[(166:Nat)]? =some Tryz.f166:=Tryz.func166
theorem aho:bX sZ Ou ajk 1 Tryz.f168=true:=by kernel_rfl
theorem aaW:al.funcs[(168:Nat)]? =some Tryz.f168:=Tryz.func168
theorem Uz:bX sZ HR Vj 2 Tryz.f169=true:=by kernel_rfl
theorem QK:al.funcs[(169:Nat)]? =some Tryz.f169:=Tryz.func169
theorem ahr:bX sZ Ox Vl 1 Tryz.f205=true:=by kernel_rfl
theorem aaZ:al.funcs[(205:Nat)]? =some Tryz.f205:=Tryz.func205
theorem ahx:bX sZ OD CQ 2 Tryz.f207=true:=by kernel_rfl
theorem aa5:al.funcs[(207:Nat)]? =some Tryz.f207:=Tryz.func207
theorem ahu:bX sZ OA Ls 2 Tryz.f208=true:=by kernel_rfl
theorem aa2:al.funcs[(208:Nat)]? =some Tryz.f208:=Tryz.func208
def OM:C:=(aa [dk 2 dO] (aa [I 3 0,iu 4 dO [(0,1,(gd 1)),(1,1,(.t 3))],bK 4 2 4] .ret))
@[simp] def ajp:List bt:=[.cell 2 true 4]
def OB:C:=(aa [b5 0 (.mov (.c (.nilp)))] (aa [c3 (.mkmap 1 (some 702)),c3 (.mkmap 2 (some 703)),c3 (.mkmap 3 (some 704)),c3 (.mkmap 4 (some 705)),c3 (.mkmap 5 (some 706)),c3 (.mkmap 6 (some 707)),b5 7 (.build [.junk,.junk,.junk,.junk,.junk,.junk] [(0,1,(.t 1)),(1,1,(.t 2)),(2,1,(.t 3)),(3,1,(.t 4)),(4,1,(.t 5)),(5,1,(.t 6))]),cx 8 7,I 0 8] (.fz true 0 .ret)))
@[simp] def Vo:List bt:=[.tmp 0]
def On:C:=(aa [bV 4 0] (.seq (aa [I 8 0,fv 9 8,aF 10 0 1 9,ax 11 1 10,I 12 1,b5 13 (.mget .i (.int .i64 0) true (.t 11) (.t 12)),I 7 13,cC 14 0 7,cC 15 1 7,I 5 14,I 6 15] (aa [I 16 6,cu 17 16] (aT 17 (.region [I 18 0,fv 19 18,aF 20 0 1 19,ax 21 1 20,I 22 1,I 23 1,c3 (.mput .i (.t 21) (.t 22) (.t 23))]) .skip))) (.seq (.block 0 (.loop (.seq (aa [I 24 0,fv 25 24,aF 26 0 1 25,ax 27 1 26,I 28 1,b5 29 (.mget .i (.int .i64 0) false (.t 27) (.t 28)),I 30 1,bo 31 .neq 29 30] (aT 31 .skip (.exit 0))) (.block 1 (.seq (.drawn true 55 [I 32 0,fv 33 32,aF 34 0 1 33,ax 35 1 34,I 36 1,I 37 0,fv 38 37,aF 39 0 1 38,ax 40 1 39,I 41 0,fv 42 41,aF 43 0 1 42,ax 44 1 43,I 45 1,b5 46 (.mget .i (.int .i64 0) false (.t 44) (.t 45)),b5 47 (.mget .i (.int .i64 0) false (.t 40) (.t 46)),c3 (.mput .i (.t 35) (.t 36) (.t 47))]) (.region [I 48 0,fv 49 48,aF 50 0 1 49,ax 51 1 50,I 52 1,b5 53 (.mget .i (.int .i64 0) false (.t 51) (.t 52)),I 1 53])))))) (aa [I 54 1,I 4 54] .ret))))
@[simp] def Vf:List bt:=[.tmp 4]
def Oi:C:=(aa [cx 2 0,cx 3 1] (.fz false 2 (.region [aW 4 4 3,b5 5 (.mkf 245 [.t 2]),b7 6 134 4 5])))
@[simp] def Vc:List bt:=[]
def uT:C:=(aa [cx 4 1,cx 5 2,be 6 false] (.seq (.block 0 (aa [aF 12 0 1 4,ax 13 1 12,aU 14 .eql 13 1,I 15 14,aq 15 true (aF 16 0 1 5),aq 15 true (ax 17 1 16),aq 15 true (aU 18 .eql 17 1),dz 19 15 18,I 11 19] (aT 11 (aa [I 20 0,aF 21 1 1 4,ax 22 1 21,b7 23 216 20 22,I 7 23] (aa [I 24 0,aF 25 1 1 5,ax 26 1 25,b7 27 216 24 26,I 8 27] (.seq (aa [I 28 7,I 29 8,bo 30 .eql 28 29] (aT 30 (aa [be 6 true] .ret) .skip)) (.seq (aa [I 31 8,I 32 7,bo 33 .lss 31 32] (aT 33 (.region [I 34 8,I 35 7,I 7 34,I 8 35]) .skip)) (aa [I 36 0,fv 37 36,aF 38 0 1 37,ax 39 1 38,I 40 8,I 41 7,c3 (.mput .i (.t 39) (.t 40) (.t 41))] (.seq (aa [I 42 0,fv 43 42,aF 44 2 1 43,ax 45 1 44,I 46 8,b5 47 (.mget .i (.bool false) false (.t 45) (.t 46)),cu 48 47] (aT 48 (aa [I 49 0,fv 50 49,aF 51 2 1 50,ax 52 1 51,I 53 7,b5 54 (.mget .i (.bool false) false (.t 52) (.t 53)),cu 55 54,I 56 55,b3 56 false 57 0,b3 56 false 58 0,aq 56 false (fv 59 58),aq 56 false (aF 60 1 1 59),aq 56 false (ax 61 1 60),b3 56 false 62 7,wq 56 false 63 (.mget .i (.agg dO) false (.t 61) (.t 62)),b3 56 false 64 7,ys 56 false (.mkmap 65 (some 715)),aq 56 false (dn 66 246 [.t 57,.t 63,.t 64,.t 65]),aq 56 false (cu 67 66),c2 68 56 67,I 6 68] .ret) .skip)) (aa [I 69 0,fv 70 69,aF 71 1 1 70,ax 72 1 71,I 73 8,b5 74 (.mget .i (.agg dO) false (.t 72) (.t 73)),dk 9 dO,bK 4 9 74] (.seq (aa [I 75 0,fv 76 75,aF 77 2 1 76,ax 78 1 77,I 79 7,b5 80 (.mget .i (.bool false) false (.t 78) (.t 79)),cu 81 80] (aT 81 (aa [I 82 0,I 83 7,aW 84 4 9,dn 85 247 [.t 82,.t 83,.t 84],I 6 85] .ret) .skip)) (.seq (.drawnW [715,716] 198 [I 86 0,aW 87 4 9,I 88 7,c3 (.mkmap 89 (some 715)),dn 90 246 [.t 86,.t 87,.t 88,.t 89],cu 91 90,I 92 91,b3 92 true 93 0,b3 92 true 94 0,aq 92 true (fv 95 94),aq 92 true (aF 96 1 1 95),aq 92 true (ax 97 1 96),b3 92 true 98 7,wq 92 true 99 (.mgetB .i (.agg dO) false (.t 97) (.t 98)),b3 92 true 100 7,ys 92 true (.mkmap 101 (some 716)),aq 92 true (dn 102 246 [.t 93,.t 99,.t 100,.t 101]),aq 92 true (cu 103 102),dz 104 92 103,I 105 104,b3 105 true 106 0,b3 105 true 107 0,aq 105 true (fv 108 107),aq 105 true (aF 109 1 1 108),aq 105 true (ax 110 1 109),b3 105 true 111 7,wq 105 true 112 (.mgetB .i (.agg dO) false (.t 110) (.t 111)),aq 105 true (aW 113 4 9),aq 105 true (dn 114 218 [.t 106,.t 112,.t 113]),dz 115 105 114,I 6 115]) .ret))))))))) (aa [aF 117 0 1 4,ax 118 1 117,aU 119 .eql 118 1,I 116 119] (aT 116 (aa [I 120 0,aF 121 1 1 4,ax 122 1 121,b7 123 216 120 122,I 10 123] (.seq (aa [I 124 0,fv 125 124,aF 126 2 1 125,ax 127 1 126,I 128 10,b5 129 (.mget .i (.bool false) false (.t 127) (.t 128)),cu 130 129] (aT 130 (aa [I 131 0,I 132 10,aW 133 4 5,dn 134 247 [.t 131,.t 132,.t 133],I 6 134] .ret) .skip)) (.seq (.drawn false 198 [I 135 0,I 136 0,fv 137 136,aF 138 1 1 137,ax 139 1 138,I 140 10,b5 141 (.mgetB .i (.agg dO) false (.t 139) (.t 140)),aW 142 4 5,dn 143 218 [.t 135,.t 141,.t 142],I 6 143]) .ret))) (aa [aF 145 0 1 5,ax 146 1 145,aU 147 .eql 146 1,I 144 147] (aT 144 (aa [I 148 0,aW 149 4 5,aW 150 4 4,dn 151 218 [.t 148,.t 149,.t 150],I 6 151] .ret) (aa [aF 153 0 1 4,ax 154 1 153,aF 155 0 1 5,ax 156 1 155,bo 157 .neq 154 156,I 158 157,aq 158 false (aF 159 1 1 4),aq 158 false (ax 160 1 159),aq 158 false (aF 161 1 1 5),aq 158 false (ax 162 1 161),aq 158 false (bo 163 .neq 160 162),c2 164 158 163,I 165 164,aq 165 false (aF 166 2 1 4),aq 165 false (ax 167 1 166),aq 165 false (aF 168 2 1 5),aq 165 false (ax 169 1 168),aq 165 false (bo 170 .neq 167 169),c2 171 165 170,I 152 171] (aT 152 (aa [be 6 false] .ret) (aa [aF 173 0 1 4,ax 174 1 173,aU 175 .eql 174 4,I 172 175] (aT 172 (.seq (.drawn false 198 [I 176 0,aF 177 3 1 4,ax 178 1 177,jH 179 4 178 0,aW 180 4 179,aF 181 3 1 5,ax 182 1 181,jH 183 4 182 0,aW 184 4 183,dn 185 218 [.t 176,.t 180,.t 184],I 186 185,b3 186 true 187 0,aq 186 true (aF 188 3 1 4),aq 186 true (ax 189 1 188),aq 186 true (jH 190 4 189 1),aq 186 true (aW 191 4 190),aq 186 true (aF 192 3 1 5),aq 186 true (ax 193 1 192),aq 186 true (jH 194 4 193 1),aq 186 true (aW 195 4 194),aq 186 true (dn 196 218 [.t 187,.t 191,.t 195]),dz 197 186 196,I 6 197]) .ret) .skip))))))))))) (aa [be 6 true] .ret)))
@[simp] def nG:List bt:=[.tmp 6]
def Oj:C:=(.region [ax 3 1 1,I 4 0,b7 5 216 3 4])
@[simp] def Vd:List bt:=[]
def Ol:C:=(aa [cx 4 0,cx 5 1,cx 6 2,cx 7 3,be 8 false] (aa [c3 (.alloc 9 (some 712) (.bool false)),c3 (.store 1 (.t 9) (.c (.bool false)))] (.seq (.fz false 7 (.fz false 6 (.fz false 4 (.region [aW 10 4 5,b5 11 (.mkf 257 [.t 4,.t 9,.t 6,.t 7]),b7 12 134 10 11])))) (aa [ax 13 1 9,I 8 13] .ret))))
@[simp] def Ve:List bt:=[.tmp 8]
def Oh:C:=(aa [cx 5 2,be 6 false] (.seq (.drawn true 24 [I 7 0,fv 8 7,aF 9 1 1 8,ax 10 1 9,I 11 1,aW 12 4 5,c3 (.mput .i (.t 10) (.t 11) (.t 12))]) (aa [I 13 0,fv 14 13,aF 15 2 1 14,ax 16 1 15,I 17 1,c3 (.mput .i (.t 16) (.t 17) (.c (.bool true)))] (aa [I 18 0,aW 19 4 5,I 20 1,c3 (.mkmap 21 (some 715)),dn 22 246 [.t 18,.t 19,.t 20,.t 21],cu 23 22,I 6 23] .ret))))
@[simp] def Vb:List bt:=[.tmp 6]
def yy:C:=(aa [cx 2 0,be 4 false] (.seq (.seq (.fz false 2 (.region [ax 6 1 2,fv 7 6,aF 8 3 1 7,ax 9 1 8,I 10 1,b5 11 (.mget .i (.int .i64 0) false (.t 9) (.t 10)),aU 12 .eql 11 2])) (aT 12 (aa [be 4 true] .ret) .skip)) (.seq (aa [ax 13 1 2,fv 14 13,aF 15 3 1 14,ax 16 1 15,I 17 1,b5 18 (.mget .i (.int .i64 0) false (.t 16) (.t 17)),aU 19 .eql 18 1] (aT 19 (aa [be 4 false] .ret) .skip)) (aa [ax 20 1 2,fv 21 20,aF 22 3 1 21,ax 23 1 22,I 24 1,c3 (.mput .i (.t 23) (.t 24) (gd 1))] (aa [ax 25 1 2,fv 26 25,aF 27 4 1 26,ax 28 1 27,I 29 1,c3 (.mput .i (.t 28) (.t 29) (gd 1))] (.seq (aa [ax 30 1 2,fv 31 30,aF 32 2 1 31,ax 33 1 32,I 34 1,b5 35 (.mget .i (.bool false) false (.t 33) (.t 34))] (aT 35 (aa [c3 (.alloc 5 (some 712) (.bool false)),c3 (.store 1 (.t 5) (.c (.bool true)))] (aa [ax 36 1 2,fv 37 36,aF 38 1 1 37,ax 39 1 38,I 40 1,b5 41 (.mget .i (.agg dO) false (.t 39) (.t 40)),b5 42 (.mkf 258 [.t 5,.t 2]),b7 43 134 41 42] (.seq (aa [ax 44 1 5,cu 45 44] (aT 45 (aa [be 4 false] .ret) .skip)) (.drawn false 64 [ax 46 1 2,fv 47 46,aF 48 4 1 47,ax 49 1 48,I 50 1,ax 51 1 2,fv 52 51,aF 53 1 1 52,ax 54 1 53,I 55 1,b5 56 (.mgetB .i (.agg dO) false (.t 54) (.t 55)),b5 57 (.mkf 259 [.t 2]),b7 58 192 56 57,c3 (.mput .i (.t 49) (.t 50) (.t 58))])))) .skip)) (aa [ax 59 1 2,fv 60 59,aF 61 3 1 60,ax 62 1 61,I 63 1,c3 (.mput .i (.t 62) (.t 63) (gd 2))] (aa [be 4 true] .ret))))))))
@[simp] def Aa:List bt:=[.tmp 4]
def DP:C:=(aa [cx 2 0,dk 4 dO] (.seq (.seq (.fz false 2 (.region [ax 9 1 2,fv 10 9,aF 11 5 1 10,ax 12 1 11,I 13 1,b5 14 (.mget .i (.agg dO) true (.t 12) (.t 13)),I 8 14,cC 15 0 8,cC 16 1 8,dk 5 dO,bK 4 5 15,I 6 16])) (aa [I 17 6] (aT 17 (aa [aW 18 4 5,bK 4 4 18] .ret) .skip))) (aa [I 19 1,cD 20 116 19,dk 7 dO,bK 4 7 20] (.seq (aa [ax 21 1 2,fv 22 21,aF 23 2 1 22,ax 24 1 23,I 25 1,b5 26 (.mget .i (.bool false) false (.t 24) (.t 25))] (aT 26 (.region [ax 27 1 2,fv 28 27,aF 29 1 1 28,ax 30 1 29,I 31 1,b5 32 (.mget .i (.agg dO) false (.t 30) (.t 31)),b5 33 (.mkf 260 [.t 2]),b7 34 194 32 33,bK 4 7 34]) .skip)) (.seq (.drawn true 42 [ax 35 1 2,fv 36 35,aF 37 5 1 36,ax 38 1 37,I 39 1,aW 40 4 7,c3 (.mput .i (.t 38) (.t 39) (.t 40))]) (aa [aW 41 4 7,bK 4 4 41] .ret))))))
@[simp] def Gb:List bt:=[.cell 4 true 4]
def Om:C:=(aa [ax 7 1 1,I 8 0,b7 9 216 7 8,I 6 9] (.seq (aa [ax 10 1 2,I 11 10,b3 11 false 12 6,aq 11 false (ax 13 1 3),aq 11 false (bo 14 .eql 12 13),c2 15 11 14] (aT 15 (aa [c3 (.store 1 (.t 2) (.c (.bool true)))] .ret) .skip)) (aa [ax 16 1 4,I 17 6,b5 18 (.mget .i (.bool false) false (.t 16) (.t 17)),cu 19 18,I 20 19,aq 20 true (ax 21 1 1),aq 20 true (fv 22 21),aq 20 true (aF 23 2 1 22),aq 20 true (ax 24 1 23),b3 20 true 25 6,aq 20 true (b5 26 (.mget .i (.bool false) false (.t 24) (.t 25))),dz 27 20 26] (aT 27 (aa [ax 28 1 4,I 29 6,c3 (.mput .i (.t 28) (.t 29) (.c (.bool true)))] (.drawn false 40 [ax 30 1 1,ax 31 1 1,fv 32 31,aF 33 1 1 32,ax 34 1 33,I 35 6,b5 36 (.mgetB .i (.agg dO) false (.t 34) (.t 35)),ax 37 1 3,ax 38 1 4,dn 39 246 [.t 30,.t 36,.t 37,.t 38],bK 1 2 39])) .skip))))
@[simp] def z8:List bt:=[]
def HP:C:=(.seq (.drawn false 13 [b5 4 (.loadB false 1 (.t 1)),I 5 4,aq 5 true (ax 6 1 2),aq 5 true (ax 7 1 2),b3 5 true 8 0,aq 5 true (b7 9 216 7 8),aq 5 true (b7 10 248 6 9),aq 5 true (cu 11 10),dz 12 5 11]) (aT 12 (.region [c3 (.store 1 (.t 1) (.c (.bool false)))]) .skip))
@[simp] def Gc:List bt:=[]
def Ot:C:=(aa [bV 3 0] (.seq (.drawn false 12 [ax 4 1 1,fv 5 4,aF 6 4 1 5,ax 7 1 6,ax 8 1 1,I 9 0,b7 10 216 8 9,b5 11 (.mgetB .i (.int .i64 0) false (.t 7) (.t 10)),I 3 11]) .ret))
@[simp] def Vh:List bt:=[.tmp 3]
def Oq:C:=(aa [dk 3 dO,be 4 false] (.seq (.drawn false 10 [ax 5 1 1,ax 6 1 1,I 7 0,b7 8 216 6 7,b7 9 249 5 8,bK 4 3 9,be 4 true]) .ret))
@[simp] def Vg:List bt:=[.cell 3 true 4,.tmp 4]
def oK:List (Nat×dC):=[
 (3,⟨1,8,.int .i64,.int .i64 0⟩),
 (4,⟨1,1,.bool,.bool false⟩),
 (9,⟨1,16,.str,.str []⟩),
 (27,⟨1,24,.slice 30,.slice 4 .nil []⟩),
 (30,⟨4,56,.struct [(0,3),(1,3),(2,9),(3,27)],.agg [.int .i64 0,.int .i64 0,.str [],.slice 4 .nil []]⟩),
 (136,⟨1,8,.map 3 4,.junk⟩),
 (194,⟨1,8,.other,.nilp⟩),
 (216,⟨1,8,.map 3 3,.junk⟩),
 (217,⟨1,8,.map 3 30,.junk⟩),
 (219,⟨6,48,.struct [(0,216),(1,217),(2,136),(3,216),(4,216),(5,217)],.agg [.junk,.junk,.junk,.junk,.junk,.junk]⟩)]
theorem jk:fM al oK=true:=by kernel_rfl
theorem ahG:bX oK OM ajp 1 Tryz.f116=true:=by kernel_rfl
theorem abe:al.funcs[(116:Nat)]? =some Tryz.f116:=Tryz.func116
theorem ahv:bX oK OB Vo 0 Tryz.f215=true:=by kernel_rfl
theorem aa3:al.funcs[(215:Nat)]? =some Tryz.f215:=Tryz.func215
theorem ahk:bX oK On Vf 2 Tryz.f216=true:=by kernel_rfl
theorem aaS:al.funcs[(216:Nat)]? =some Tryz.f216:=Tryz.func216
theorem ahg:bX oK Oi Vc 2 Tryz.f217=true:=by kernel_rfl
theorem aaO:al.funcs[(217:Nat)]? =some Tryz.f217:=Tryz.func217
theorem xL:bX oK uT nG 3 Tryz.f218=true:=by kernel_rfl
theorem wO:al.funcs[(218:Nat)]? =some Tryz.f218:=Tryz.func218
theorem ahh:bX oK Oj Vd 2 Tryz.f245=true:=by kernel_rfl
theorem aaP:al.funcs[(245:Nat)]? =some Tryz.f245:=Tryz.func245
theorem ahi:bX oK Ol Ve 4 Tryz.f246=true:=by kernel_rfl
theorem aaQ:al.funcs[(246:Nat)]? =some Tryz.f246:=Tryz.func246
theorem ahf:bX oK Oh Vb 3 Tryz.f247=true:=by kernel_rfl
theorem aaN:al.funcs[(247:Nat)]? =some Tryz.f247:=Tryz.func247
theorem CB:bX oK yy Aa 2 Tryz.f248=true:=by kernel_rfl
theorem Bd:al.funcs[(248:Nat)]? =some Tryz.f248:=Tryz.func248
theorem KZ:bX oK DP Gb 2 Tryz.f249=true:=by kernel_rfl
theorem Iz:al.funcs[(249:Nat)]? =some Tryz.f249:=Tryz.func249
theorem ahj:bX oK Om z8 5 Tryz.f257=true:=by kernel_rfl
theorem aaR:al.funcs[(257:Nat)]? =some Tryz.f257:=Tryz.func257
theorem Ux:bX oK HP Gc 3 Tryz.f258=true:=by kernel_rfl
theorem QI:al.funcs[(258:Nat)]? =some Tryz.f258:=Tryz.func258
theorem ahn:bX oK Ot Vh 2 Tryz.f259=true:=by kernel_rfl
theorem aaV:al.funcs[(259:Nat)]? =some Tryz.f259:=Tryz.func259
theorem ahm:bX oK Oq Vg 2 Tryz.f260=true:=by kernel_rfl
theorem aaU:al.funcs[(260:Nat)]? =some Tryz.f260:=Tryz.func260
end Go.Proofs.YtahlgcidhnjlbaaGreat
namespace Go.Proofs.YtahlgcidhnjlbaaGreat
open Go Go.Pv
section
variable {α:Type} (S:α→cI) (dE:∀a,ea (S a)) (e4:∀a b,Same (S a) (S b)) (g:Nat) (dp:List ah) (ay:∀a,aJ (inObs (S a)) dp) (dc:cR dp=dp)
include dE e4 ay dc in
theorem Rg(gR:α→Prop)(f:Int→α→Option α)(aI:∀v a bm,gR a→f v a=some bm→gR bm∧bN al g (.int .i64 v::dp) (S a) fun r ai=>r= .tuple []∧ai=S bm)(t:T):
  ∀a bm,gR a→t.foldO f a=some bm→gR bm∧bN al 134 [t.e,.func g dp] (S a) fun r ai=>r= .tuple []∧ai=S bm:=by
 have aw:∀a m,Pv.look (.loc m) (S a).b=none:=fun a=>(dE a).obj.1;have hu:∀a m cs,cw (.loc m) cs (S a).b=(S a).b++[(.loc m,cs)]:=fun a m cs=>jT (aw a m);have av:∀a m,aH.loc m∉cQ (S a):=fun a=>jO (dE a).obj;induction t with
 |pair x y pb rv=>intro a bm hi he;have ag:=dE a;simp only[T.foldO,mF]at he;obtain⟨bD,J,U⟩:=he;obtain⟨i1,g1⟩:=pb a bD hi J;obtain⟨i2,g2⟩:=rv bD bm i1 U;refine⟨i2,?_⟩;refine bN.mk mixed fI yJ zS (by simp) ag.obj fun aP cP=>?_;unfold wJ;simp[hu,av,cH,aw,dc];(with_reducible repeat' first|refine aj ?_|simp[hu,av,cH,aw]);refine c4.ob g1 ag aR aR (by simp[ay]) ?_;rintro r ai ⟨rfl,rfl⟩;refine⟨e4 _ _,?_⟩;simp[gO,ir,cv,aw];(with_reducible repeat' first|refine aj ?_|simp[hu,av,cH,aw]);rw[dc];refine c4.ob g2 (dE bD) aR aR (by simp[ay]) ?_;rintro r ai ⟨rfl,rfl⟩;refine⟨e4 _ _,?_⟩;simp[gO,ir,cv,aw];refine cS.at (S bm) (.inr rfl) (dE _) (e4 _ _) aR aR ?_;simp[cZ,xT,aX,aY,aV]
 |var n=>intro a bm hi he;have ag:=dE a;simp only[T.foldO]at he;obtain⟨i1,g1⟩:=aI n a bm hi he;refine⟨i1,?_⟩;refine bN.mk mixed fI yJ zS (by simp) ag.obj fun aP cP=>?_;unfold wJ;simp[hu,av,cH,aw,dc];(with_reducible repeat' first|refine aj ?_|simp[hu,av,cH,aw]);refine c4.ob g1 ag aR aR (by simp[ay]) ?_;rintro r ai ⟨rfl,rfl⟩;refine⟨e4 _ _,?_⟩;simp[gO,ir,cv,aw,cH];refine cS.at (S bm) (.inr rfl) (dE _) (e4 _ _) aR aR ?_;simp[cZ,xT,aX,aY,aV]
 |_=>intro a bm hi he;have ag:=dE a;simp only[T.foldO,dG]at he;subst he;refine⟨hi,?_⟩;refine bN.mk mixed fI yJ zS (by simp) ag.obj fun aP cP=>?_;unfold wJ;simp[hu,av,cH,aw,dc];(with_reducible repeat' first|refine aj ?_|simp[hu,av,cH,aw]);refine cS.at (S a) (.inr rfl) ag (Same.refl _) aR aR ?_;simp[cZ,xT,aX,aY,aV]
include dE e4 ay dc in
theorem I0(f:Int→α→Option α)(aI:∀v a bm,f v a=some bm→bN al g (.int .i64 v::dp) (S a) fun r ai=>r= .tuple []∧ai=S bm)(t:T)(a bm:α)(h:t.foldO f a=some bm):bN al 134 [t.e,.func g dp] (S a) fun r ai=>r= .tuple []∧ai=S bm:=(Rg S dE e4 g dp ay dc (fun _=>True) f (fun v a bm _ h=>⟨trivial,aI v a bm h⟩) t a bm trivial h).2
include dE e4 ay dc in
theorem acY(f:Int→α→Option (T×α))(aI:∀v a p,f v a=some p→bN al g (.int .i64 v::dp) (S a) fun r ai=>r= .tuple [p.1.e,.bool true]∧ai=S p.2)(t:T):
  ∀a p,t.mapO f a=some p→bN al 194 [t.e,.func g dp] (S a) fun r ai=>r=p.1.e∧ai=S p.2:=by
 have aw:∀a m,Pv.look (.loc m) (S a).b=none:=fun a=>(dE a).obj.1;have cF:∀a m,Pv.look (.loc m) (S a).e=none:=fun a=>(dE a).obj.2;have hu:∀a m cs,cw (.loc m) cs (S a).b=(S a).b++[(.loc m,cs)]:=fun a m cs=>jT (aw a m);have av:∀a m,aH.loc m∉cQ (S a):=fun a=>jO (dE a).obj;have ly:∀a m p r,cw (.loc m) p ((S a).b++r)=(S a).b++cw (.loc m) p r:=fun a m p r=>AE (aw a m);induction t with
 |pair x y pb rv=>intro a p he;have ag:=dE a;simp only[T.mapO,mF,gH]at he;obtain⟨cN,J,dq,U,rfl⟩:=he;refine bN.mk mixed fI yK zT (by simp) ag.obj fun aP cP=>?_;unfold wK;simp[hu,av,cH,aw,cF,dc,ly];(with_reducible repeat' first|refine aj ?_|simp[hu,av,cH,aw,cF,ly]);refine hX.ob (pb a cN J) ag (dE cN.2) (e4 _ _) aR aR (by simp[ay]) ?_;simp[gO,ir,cv,aw,dc];(with_reducible repeat' first|refine aj ?_|simp[hu,av,cH,aw,cF,ly]);refine hX.ob (rv cN.2 dq U) (dE cN.2) (dE dq.2) (e4 _ _) aR aR (by simp[ay,dc]) ?_;simp[gO,ir,cv,aw,dc];(with_reducible repeat' first|refine aj ?_|refine aD (Ha _ _) ?_|refine aE (Ha _ _) ?_|simp[cH,aw,ly]);refine cS.at (S dq.2) (.inl rfl) (dE _) (e4 _ _) aR aR ?_;simp[cZ,xU,aX,aY,aV,cH,aw]
 |var n=>
  intro a p he;have ag:=dE a;simp only[T.mapO]at he;refine bN.mk mixed fI yK zT (by simp) ag.obj fun aP cP=>?_;unfold wK;simp[hu,av,cH,aw,dc,ly];(with_reducible repeat' first|refine aj ?_|simp[hu,av,cH,aw,ly]);refine c4.ob (aI n a p he) ag aR aR (by simp[ay]) ?_;rintro r ai ⟨rfl,rfl⟩;refine⟨e4 _ _,?_⟩;simp[gO,ir,cv,aw,hu,av,cH];(with_reducible repeat' first|refine aj ?_|refine aD (s7 _) ?_|refine aE (s7 _) ?_|simp[hu,av,cH,aw,ly]);all_goals refine cS.at (S p.2) (.inl rfl) (dE _) (e4 _ _) aR aR ?_
  all_goals simp[cZ,xU,aX,aY,aV,cH,aw]
 |_=>intro a p he;have ag:=dE a;simp only[T.mapO,dG]at he;subst he;refine bN.mk mixed fI yK zT (by simp) ag.obj fun aP cP=>?_;unfold wK;simp[hu,av,cH,aw,dc,ly];(with_reducible repeat' first|refine aj ?_|simp[hu,av,cH,aw,ly]);refine cS.at (S a) (.inl rfl) ag (Same.refl _) aR aR ?_;simp[cZ,xU,aX,aY,aV,cH,aw]
include dE e4 ay dc in
theorem adb(gR:α→Prop)(f:Int→α→Option (Int×α))(BD:∀v a p,gR a→f v a=some p→gR p.2∧0≤p.1∧p.1≤1000000)(aI:∀v a p,gR a→f v a=some p→bN al g (.int .i64 v::dp) (S a) fun r ai=>r= .int .i64 p.1∧ai=S p.2)(t:T):
  ∀a p,gR a→t.sizeO f a=some p→gR p.2∧(0≤p.1∧p.1≤5001)∧bN al 192 [t.e,.func g dp] (S a) fun r ai=>r= .int .i64 p.1∧ai=S p.2:=by
 have aw:∀a m,Pv.look (.loc m) (S a).b=none:=fun a=>(dE a).obj.1;have hu:∀a m cs,cw (.loc m) cs (S a).b=(S a).b++[(.loc m,cs)]:=fun a m cs=>jT (aw a m);have av:∀a m,aH.loc m∉cQ (S a):=fun a=>jO (dE a).obj;induction t with
 |pair x y pb rv=>
  intro a p hi he;have ag:=dE a;simp only[T.sizeO,mF]at he;obtain⟨cN,J,U⟩:=he;obtain⟨i1,cc,g1⟩:=pb a cN hi J;by_cases EF:5000<cN.1
  ·rw[if_pos EF]at U;cases U;refine⟨i1,cc,?_⟩;refine bN.mk mixed fI wP xM (by simp) ag.obj fun aP cP=>?_;unfold uU;simp[hu,av,cH,aw,dc];(with_reducible repeat' first|refine aj ?_|simp[hu,av,cH,aw]);refine c4.ob g1 ag aR aR (by simp[ay]) ?_;rintro r ai ⟨rfl,rfl⟩;refine⟨e4 _ _,?_⟩;simp[gO,ir,cv,aw];((with_reducible repeat' first|((first|apply bM|apply bR|apply bQ)<;>intro h<;>try simp at h)|refine aj ?_|simp[hu,av,cH,aw])<;>(try contradiction));all_goals first|omega|(refine cS.at (S p.2) (.inl rfl) (dE _) (e4 _ _) aR aR ?_;simp[cZ,uu,aX,aY,aV])
  ·rw[if_neg EF,gH]at U;obtain⟨dq,U,rfl⟩:=U;obtain⟨i2,b4,g2⟩:=rv cN.2 dq i1 U;refine⟨i2,by simp only;split<;>omega,?_⟩;refine bN.mk mixed fI wP xM (by simp) ag.obj fun aP cP=>?_;unfold uU;simp[hu,av,cH,aw,dc];(with_reducible repeat' first|((first|apply bM|apply bR|apply bQ)<;>intro h<;>try simp at h)|refine aj ?_|simp[hu,av,cH,aw]);refine c4.ob g1 ag aR aR (by simp[ay]) ?_;rintro r ai ⟨rfl,rfl⟩;refine⟨e4 _ _,?_⟩;simp[gO,ir,cv,aw];((with_reducible repeat' first|refine aj ?_|simp[hu,av,cH,aw]|((first|apply bM|apply bR|apply bQ)<;>intro h<;>try simp at h))<;>(try exact ch));all_goals first|omega|skip
   rw[dc];refine c4.ob g2 (dE cN.2) aR aR (by simp[ay]) ?_;rintro r s2 ⟨rfl,rfl⟩;refine⟨e4 _ _,?_⟩;simp[gO,ir,cv,aw];(with_reducible repeat' first|refine aj ?_|simp[hu,av,cH,aw]);refine cS.at (S dq.2) (.inl rfl) (dE _) (e4 _ _) aR aR ?_;simp[cZ,uu,aX,aY,aV]
 |var n=>intro a p hi he;have ag:=dE a;simp only[T.sizeO,gH]at he;obtain⟨cN,J,rfl⟩:=he;have ae:=BD n a cN hi J;refine⟨ae.1,by simp only;split<;>omega,?_⟩;refine bN.mk mixed fI wP xM (by simp) ag.obj fun aP cP=>?_;unfold uU;simp[hu,av,cH,aw,dc];(with_reducible repeat' first|refine aj ?_|simp[hu,av,cH,aw]);refine c4.ob (aI n a cN hi J) ag aR aR (by simp[ay]) ?_;rintro r ai ⟨rfl,rfl⟩;refine⟨e4 _ _,?_⟩;simp[gO,ir,cv,aw];refine cS.at (S cN.2) (.inl rfl) (dE _) (e4 _ _) aR aR ?_;simp[cZ,uu,aX,aY,aV]
 |_=>intro a p hi he;have ag:=dE a;simp only[T.sizeO,dG]at he;subst he;refine⟨hi,by simp,?_⟩;refine bN.mk mixed fI wP xM (by simp) ag.obj fun aP cP=>?_;unfold uU;simp[hu,av,cH,aw,dc];(with_reducible repeat' first|refine aj ?_|simp[hu,av,cH,aw]);refine cS.at (S a) (.inl rfl) ag (Same.refl _) aR aR ?_;simp[cZ,uu,aX,aY,aV]
end
end Go.Proofs.YtahlgcidhnjlbaaGreat
namespace Go.Pv
open Go Go.RowKit
section
variable {P:cB} {ob:List aH} {st:bq} {Q:Exit→bq→Prop} {c:C} {α:Type}
theorem dV(b9:List Nat)(cs:Nat→α→List (Nat×ah))(n:Nat)(gI:Nat→α→Prop)(a0:α)(hw:iA ob st (pf st b9 (cs 0 a0)))(bB:gI 0 a0)(vd:∀a,gI n a→(∀i,ec (get i (pf st b9 (cs n a)).t))→cU P ob c (bP ob (ym (fun i a=>pf st b9 (cs i a)) n gI) 0 Q) (pf st b9 (cs n a)))
  (jx:∀i a,i<n→gI i a→(∀j,ec (get j (pf st b9 (cs i a)).t))→cU P ob c (bP ob (ym (fun i a=>pf st b9 (cs i a)) n gI) (n-i) Q) (pf st b9 (cs i a))):cU P ob (.loop c) Q st:=
 hR (fun i a=>pf st b9 (cs i a)) n gI a0 hw bB vd jx
theorem u1(b9:List Nat)(cs:α→List (Nat×ah))(μ:α→Nat)(gI:α→Prop)(a0:α)(hw:iA ob st (pf st b9 (cs a0)))(bB:gI a0)
  (jx:∀a,gI a→(∀j,ec (get j (pf st b9 (cs a)).t))→cU P ob c (bP ob (AL (fun a=>pf st b9 (cs a)) μ gI) (μ a) Q) (pf st b9 (cs a))):cU P ob (.loop c) Q st:=
 n2 (fun a=>pf st b9 (cs a)) μ gI a0 hw bB jx
end
attribute [simp] agG
end Go.Pv
namespace Go.Proofs.YtahlgcidhnjlbaaGreat
open Go Go.Pv
theorem Kv{α β:Type}(k:aH):∀{l:List (aH×α)} {aZ:List (aH×β)},l.map (·.1)=aZ.map (·.1)→(Pv.look k l).isSome=(Pv.look k aZ).isSome
 |[],[],_=>rfl
 |[],_::_,h=>by simp at h
 |_::_,[],h=>by simp at h
 |(i,x)::r,(j,y)::eJ,h=>by
  simp only[gG,p6]at h;simp only[Pv.look];obtain⟨rfl,h⟩:=h;split
  ·rfl
  ·exact Kv k h
theorem _root_.Go.Pv.Same.keys{s ai:cI}(ae:s.b.map (·.1)=ai.b.map (·.1))(he:s.e.map (·.1)=ai.e.map (·.1)):Same s ai:=⟨fun k=>Kv k ae,fun k=>Kv k he⟩
section
variable {α:Type} (e:α→ah)
def rA(l:List (Int×α)):List ah:=jB (l.map fun x=>(x.1,e x.2))
theorem NA(k:Int):∀l:List (Int×α),wF k (l.map fun x=>(x.1,e x.2))=(c1 k l).map e
 |[]=>rfl
 |(i,v)::r=>by
  simp only[gG,wF,c1];split
  ·rfl
  ·exact NA k r
theorem NI(k:Int)(v:α):∀l:List (Int×α),oU k (e v) (l.map fun x=>(x.1,e x.2))=if(c1 k l).isSome then some ((eU k v l).map fun x=>(x.1,e x.2))else none
 |[]=>rfl
 |(i,w)::r=>by
  simp only[gG,oU,c1,eU];by_cases h:k=i
  ·subst h;simp
  ·simp only[h,if_false,NI k v r];cases (c1 k r).isSome<;>simp
theorem WO{k:Int}{v:α}:∀{l:List (Int×α)},c1 k l=none→eU k v l=l++[(k,v)]
 |[],_=>rfl
 |(i,w)::r,h=>by
  simp only[c1]at h;split at h
  ·cases h
  ·rename_i cF;simp[eU,cF,WO h]
theorem KO(k:Int)(v:α)(l:List (Int×α)):ov .i (.int .i64 k) (e v) (rA e l)=some (rA e (eU k v l)):=by
 simp only[rA,Uk,DH,NI];cases h:c1 k l with
 |some w=>simp
 |none=>simp[WO h]
theorem KK(f:aH→Option (List ah))(m:aH)(l:List (Int×α))(z:ah)(ok:Bool)(k:Int)(hm:f m=some (rA e l)):nE f .i z ok (.gmap m) (.int .i64 k)=some (True,if ok then .tuple [((c1 k l).map e).getD z,.bool (c1 k l).isSome]else((c1 k l).map e).getD z):=by rw[agt f m _ z ok k hm,NA];cases c1 k l<;>rfl
@[simp] theorem aqq(l:List (Int×α)):hN (rA e l)=false:=rfl
theorem Kj(S:aH→Prop)(he:∀x,aC S (e x))(l:List (Int×α)):aJ S (rA e l):=by
 have:∀l:List (Int×α),aJ S (kg (l.map fun x=>(x.1,e x.2))):=by
  intro l;induction l with
  |nil=>simp[kg,aJ]
  |cons x r bS=>simp[kg,aJ,bS,he]
 simp[rA,jB,aJ,this,aC]
end
def mZ:List (Int×Int)→List ah:=rA (ah.int .i64)
def pU:List (Int×Bool)→List ah:=rA ah.bool
def sK:List (Int×T)→List ah:=rA T.e
@[simp] theorem aqn(l):hN (mZ l)=false:=rfl
@[simp] theorem aql(l):hN (pU l)=false:=rfl
@[simp] theorem aqp(l):hN (sK l)=false:=rfl
@[simp] theorem ao7(S:aH→Prop)(l):aJ S (mZ l)=True:=eq_true (Kj _ S (fun _=>by simp) l)
@[simp] theorem ao6(S:aH→Prop)(l):aJ S (pU l)=True:=eq_true (Kj _ S (fun _=>by simp) l)
@[simp] theorem ao8(S:aH→Prop)(l):aJ S (sK l)=True:=eq_true (Kj _ S (fun _=>by simp) l)
@[simp] theorem aqa(k v:Int)(l):ov .i (.int .i64 k) (.int .i64 v) (mZ l)=some (mZ (eU k v l)):=KO _ k v l
@[simp] theorem ap9(k:Int)(v:Bool)(l):ov .i (.int .i64 k) (.bool v) (pU l)=some (pU (eU k v l)):=KO _ k v l
@[simp] theorem aqc(k:Int)(v:T)(l):ov .i (.int .i64 k) v.e (sK l)=some (sK (eU k v l)):=KO _ k v l
def Cr(b9:jq)(z:ah)(ok:Bool)(o:Option (List ah))(k:ah):Option (Prop×ah):=nE (fun _=>o) b9 z ok (.gmap (.loc 0)) k
@[simp] theorem ap6(f:aH→Option (List ah))(b9:jq)(z:ah)(ok:Bool)(m:aH)(k:ah):nE f b9 z ok (.gmap m) k=Cr b9 z ok (f m) k:=by simp only[Cr,T9]
theorem agv(f:aH→Option (List ah))(m:aH)(l:List (Int×Int))(ok:Bool)(k:Int)(hm:f m=some (mZ l)):nE f .i (.int .i64 0) ok (.gmap m) (.int .i64 k)=some (True,if ok then .tuple [.int .i64 (iM l k),.bool (c1 k l).isSome]else .int .i64 (iM l k)):=by rw[KK _ f m l _ ok k hm];unfold iM;cases c1 k l<;>rfl
theorem agu(f:aH→Option (List ah))(m:aH)(l:List (Int×Bool))(ok:Bool)(k:Int)(hm:f m=some (pU l)):nE f .i (.bool false) ok (.gmap m) (.int .i64 k)=some (True,if ok then .tuple [.bool ((c1 k l).getD false),.bool (c1 k l).isSome]else .bool ((c1 k l).getD false)):=by rw[KK _ f m l _ ok k hm];cases c1 k l<;>rfl
def Mw:ah:= .agg [.int .i64 0,.int .i64 0,.str [],.slice 4 .nil []]
def sY(o:Option T):ah:=(o.map T.e).getD Mw
theorem agw(f:aH→Option (List ah))(m:aH)(l:List (Int×T))(ok:Bool)(k:Int)(hm:f m=some (sK l)):nE f .i (.agg [.int .i64 0,.int .i64 0,.str [],.slice 4 .nil []]) ok (.gmap m) (.int .i64 k)=some (True,if ok then .tuple [sY (c1 k l),.bool (c1 k l).isSome]else sY (c1 k l)):=by rw[KK _ f m l _ ok k hm];rfl
@[simp] theorem ap4(l:List (Int×Int))(ok:Bool)(k:Int):Cr .i (.int .i64 0) ok (some (mZ l)) (.int .i64 k)=some (True,if ok then .tuple [.int .i64 (iM l k),.bool (c1 k l).isSome]else .int .i64 (iM l k)):=agv _ _ l ok k rfl
@[simp] theorem ap3(l:List (Int×Bool))(ok:Bool)(k:Int):Cr .i (.bool false) ok (some (pU l)) (.int .i64 k)=some (True,if ok then .tuple [.bool ((c1 k l).getD false),.bool (c1 k l).isSome]else .bool ((c1 k l).getD false)):=agu _ _ l ok k rfl
@[simp] theorem ap5(l:List (Int×T))(ok:Bool)(k:Int):Cr .i (.agg [.int .i64 0,.int .i64 0,.str [],.slice 4 .nil []]) ok (some (sK l)) (.int .i64 k)=some (True,if ok then .tuple [sY (c1 k l),.bool (c1 k l).isSome]else sY (c1 k l)):=agw _ _ l ok k rfl
@[simp] theorem asa(o:Option T):dh (sY o)=(o.getD .nil).e:=by cases o<;>simp[sY,Mw,dh,cR]
@[simp] theorem apI(S:aH→Prop)(o:Option T):aC S (sY o)=True:=by cases o<;>simp[sY,Mw,aC,aJ]
@[simp] theorem apS:[ah.hdm 0 []]=jB []:=rfl
def aA:ah:= .eptr (.agg [.gmap (.obj 702),.gmap (.obj 703),.gmap (.obj 704),.gmap (.obj 705),.gmap (.obj 706),.gmap (.obj 707)])
def az(c:bs):List (aH×List ah):=[(.obj 702,mZ c.up),(.obj 703,sK c.shape),(.obj 704,pU c.shaped),(.obj 705,mZ c.color),(.obj 706,mZ c.size),(.obj 707,sK c.full)]
def aM(c:bs):cI:=⟨az c,[]⟩
theorem cb(c:bs):ea (aM c):=by unfold aM az;exact ea.of ⟨by intro m;simp[Pv.look],by intro m;simp[Pv.look]⟩ (by simp) (by simp)
theorem DA(c cl:bs):Same (aM c) (aM cl):=by
 refine⟨fun k=>?_,fun k=>rfl⟩;simp only[aM,az,Pv.look];repeat' split
 all_goals rfl
theorem q0(c:bs)(v r:Int)(cl:bs)(he:rt c v=some (r,cl)):bN al 216 [aA,.int .i64 v] (aM c) fun eJ ai=>eJ= .int .i64 r∧ai=aM cl:=by
 have ag:=cb c;have gi:=cb cl;have e4:=DA c cl;simp only[rt,gH,jm]at he;obtain⟨⟨dI,m1⟩,he,rfl,rfl⟩:=he;unfold aM az at ag gi e4⊢;simp only at gi e4⊢;unfold aA;refine bN.mk mixed jk aaS ahk (by simp) ag.obj fun aP cP=>?_;unfold On;simp;(with_reducible repeat' first|((first|apply bM|apply bR|apply bQ)<;>intro h<;>try simp at h)|refine aj ?_|simp);all_goals
  refine n2 (α:=Nat×Int×List (Int×Int)) (fun a=>⟨[(0,aA),(1,.int .i64 a.2.1)],[(.obj 702,mZ a.2.2),(.obj 703,sK c.shape),(.obj 704,pU c.shaped),(.obj 705,mZ c.color),(.obj 706,mZ c.size),(.obj 707,sK c.full)],[],0,[.obj 702,.obj 703,.obj 704,.obj 705,.obj 706,.obj 707]⟩) (fun a=>a.1) (fun a=>vX a.1 a.2.2 a.2.1=some (dI,m1)) (v.toNat+1,v,yr v c.up) (by simp[yr,h,aA];exact⟨by simp[fresh,aJ,aC,cd,inObs,Pv.look,aA],dY (by simp[fresh,aJ,aC,cd,inObs,Pv.look,aA]),dZ (by simp[fresh,aJ,aC,dP,inObs,Pv.look,aA]),by simp⟩) he ?_
  rintro⟨n,u,m⟩ af ae
  simp only at af ae⊢
  cases n with
  |zero=>simp[vX]at af
  |succ n=>
   simp only[vX]at af
   simp[aA]
   (with_reducible repeat' first|((first|apply bM|apply bR|apply bQ)<;>intro h<;>try simp at h)|refine aj ?_|simp)
   ·rw[if_neg h]at af
    refine bP.whl (n,iM (eU u (iM m (iM m u)) m) u,eU u (iM m (iM m u)) m) (Nat.lt_succ_self n) af ?_
    simp[aA]
    exact⟨by simp[fresh,aJ,aC,cd,inObs,Pv.look,aA],dY (by simp[fresh,aJ,aC,cd,inObs,Pv.look,aA]),dZ (by simp[fresh,aJ,aC,dP,inObs,Pv.look,aA]),by simp⟩
   ·rw[if_pos h]at af
    cases af
    refine cS.at _ (.inl rfl) gi e4 aR aR ?_
    simp[cZ,Vf,aX,aY,aV]
end Go.Proofs.YtahlgcidhnjlbaaGreat
namespace Go.Proofs.YtahlgcidhnjlbaaGreat
open Go Go.Pv
theorem acZ(c:bs)(v r:Int)(cl:bs)(he:rt c v=some (r,cl)):bN al 245 [.int .i64 v,.eptr aA] (aM c) fun eJ ai=>eJ= .tuple []∧ai=aM cl:=by have ag:=cb c;simp only[aM,az]at ag⊢;refine bN.mk mixed jk aaP ahh (by simp) ag.obj fun aP cP=>?_;unfold Oj;simp[aA];(refine c4.ob (q0 c v r cl he) (by first|exact cb _|exact cb ‹_› _) (by simp only[aM,az,aA,bT,bY];exact aR) (by simp only[aM,az,aA,bT,bY];exact aR) (by simp[inObs,Pv.look,aM,az,aA]) ?_;rintro r ai ⟨rfl,rfl⟩;refine⟨(Same.keys (by simp[aM,az,aA]) (by simp[aM,az,aA])),?_⟩;simp[cv,aM,az,aA]);(refine cS.at (aM cl) (by simp) (by first|exact cb _|exact cb ‹_› _) (Same.keys (by simp[aM,az,aA]) (by simp[aM,az,aA])) (by simp only[aM,az,aA,bT,bY];exact aR) (by simp only[aM,az,aA,bT,bY];exact aR) ?_;simp[cZ,Vd,aX,aY,aV,inObs,Pv.look,aM,az,aA])
theorem I3(c:bs)(t:T)(cl:bs)(he:zG t c=some cl):bN al 217 [aA,t.e] (aM c) fun eJ ai=>eJ= .tuple []∧ai=aM cl:=by
 have ag:=cb c;have key:=I0 aM cb DA 245 [.eptr aA] (fun a=>by simp[aM,az,aA,inObs,Pv.look]) rfl (fun(v:Int) (c:bs)=>(rt c v).map Prod.snd) (fun v a bm h=>by rw[gH]at h;obtain⟨⟨r,bH⟩,J,rfl⟩:=h;exact acZ a v r bH J) t c cl he
 simp only[aM,az]at ag⊢;refine bN.mk mixed jk aaO ahg (by simp) ag.obj fun aP cP=>?_;unfold Oi;simp[aA];(refine c4.ob (key) (by first|exact cb _|exact cb ‹_› _) (by simp only[aM,az,aA,bT,bY];exact aR) (by simp only[aM,az,aA,bT,bY];exact aR) (by simp[inObs,Pv.look,aM,az,aA]) ?_;rintro r ai ⟨rfl,rfl⟩;refine⟨(Same.keys (by simp[aM,az,aA]) (by simp[aM,az,aA])),?_⟩;simp[cv,aM,az,aA]);(refine cS.at (aM cl) (by simp) (by first|exact cb _|exact cb ‹_› _) (Same.keys (by simp[aM,az,aA]) (by simp[aM,az,aA])) (by simp only[aM,az,aA,bT,bY];exact aR) (by simp only[aM,az,aA,bT,bY];exact aR) ?_;simp[cZ,Vc,aX,aY,aV,inObs,Pv.look,aM,az,aA])
def eB(K:Nat)(a:bs×List (Int×Bool)):cI:=⟨az a.1++[(.obj K,pU a.2)],[]⟩
def fV(K:Nat)(a:tg):cI:=⟨az a.c++[(.obj K,pU a.seen),(.obj 712,[.bool a.found])],[]⟩
def xJ(K:Nat):Prop:=K=715∨K=716
theorem hZ{K:Nat}(c9:xJ K)(a):ea (eB K a):=by unfold eB az;rcases c9 with rfl|rfl;all_goals exact ea.of ⟨by intro m;simp[Pv.look],by intro m;simp[Pv.look]⟩ (by simp) (by simp)
theorem pB{K:Nat}(c9:xJ K)(a):ea (fV K a):=by unfold fV az;rcases c9 with rfl|rfl;all_goals exact ea.of ⟨by intro m;simp[Pv.look],by intro m;simp[Pv.look]⟩ (by simp) (by simp)
theorem Hm{K:Nat}(a b):Same (fV K a) (fV K b):=by
 refine⟨fun k=>?_,fun k=>rfl⟩;simp only[fV,az,bT,bY,Pv.look];repeat' split
 all_goals rfl
theorem ac5{K:Nat}(c9:xJ K)(n:Nat)(x:Int)(vm:∀t c seen a,pj n x t c seen=some a→bN al 246 [aA,t.e,.int .i64 x,.gmap (.obj K)] (eB K (c,seen)) fun r ai=>r= .bool a.found∧ai=eB K (a.c,a.seen))
  (v:Int) (a bm:tg) (he:vW (pj n x) x v a=some bm):bN al 257 [.int .i64 v,.eptr aA,.ptr (.obj 712) 0,.eptr (.int .i64 x),.eptr (.gmap (.obj K))] (fV K a) fun r ai=>r= .tuple []∧ai=fV K bm:=by
 have ag:=pB c9 a;simp only[vW,mF]at he;obtain⟨⟨r,bH⟩,J,U⟩:=he;simp only at U;have ad:=c9;rcases ad with rfl|rfl;all_goals
  simp only[fV,az,bT,bY]at ag⊢
  refine bN.mk mixed jk aaR ahj (by simp) ag.obj fun aP cP=>?_;unfold Om
  simp[aA]
  (refine c4.ob (q0 a.c v r bH J) (by first|exact cb _|exact cb ‹_› _) (by simp only[aM,az,aA,bT,bY];exact aR) (by simp only[aM,az,aA,bT,bY];exact aR) (by simp[inObs,Pv.look,aM,az,aA]) ?_;rintro r ai ⟨rfl,rfl⟩;refine⟨(Same.keys (by simp[aM,az,aA]) (by simp[aM,az,aA])),?_⟩;simp[cv,aM,az,aA])
  obtain⟨ac,Au,HA⟩:=a
  cases HA with
  |true=>
   simp at U;subst U
   (with_reducible repeat' first|refine aj ?_|simp)
   (refine cS.at (fV _ ⟨bH,Au,true⟩) (by simp) (by first|exact pB _|exact pB ‹_› _) (Same.keys (by simp[fV,az,aA]) (by simp[fV,az,aA])) (by simp only[fV,az,aA,bT,bY];exact aR) (by simp only[fV,az,aA,bT,bY];exact aR) ?_;simp[cZ,z8,aX,aY,aV,inObs,Pv.look,fV,az,aA])
  |false=>
   by_cases ab:r=x
   ·simp[ab]at U;subst U
    (with_reducible repeat' first|refine aj ?_|simp[ab])
    (refine cS.at (fV _ ⟨bH,Au,true⟩) (by simp) (by first|exact pB _|exact pB ‹_› _) (Same.keys (by simp[fV,az,aA]) (by simp[fV,az,aA])) (by simp only[fV,az,aA,bT,bY];exact aR) (by simp only[fV,az,aA,bT,bY];exact aR) ?_;simp[cZ,z8,aX,aY,aV,inObs,Pv.look,fV,az,aA])
   ·have h4:(r==x)=false:=by simp[ab]
    simp only[ab,gP,or_self,if_false]at U
    cases zl:(c1 r Au).getD false with
    |true=>
     simp[zl]at U;subst U
     (with_reducible repeat' first|refine aj ?_|simp[h4,zl])
     (refine cS.at (fV _ ⟨bH,Au,false⟩) (by simp) (by first|exact pB _|exact pB ‹_› _) (Same.keys (by simp[fV,az,aA]) (by simp[fV,az,aA])) (by simp only[fV,az,aA,bT,bY];exact aR) (by simp only[fV,az,aA,bT,bY];exact aR) ?_;simp[cZ,z8,aX,aY,aV,inObs,Pv.look,fV,az,aA])
    |false=>
     cases gx:bH.shd r with
     |false=>
      have JO:(c1 r bH.shaped).getD false=false:=gx
      simp[zl,gx]at U;subst U
      (with_reducible repeat' first|refine aj ?_|simp[h4,zl,JO])
      (refine cS.at (fV _ ⟨bH,Au,false⟩) (by simp) (by first|exact pB _|exact pB ‹_› _) (Same.keys (by simp[fV,az,aA]) (by simp[fV,az,aA])) (by simp only[fV,az,aA,bT,bY];exact aR) (by simp only[fV,az,aA,bT,bY];exact aR) ?_;simp[cZ,z8,aX,aY,aV,inObs,Pv.look,fV,az,aA])
     |true=>
      have JO:(c1 r bH.shaped).getD false=true:=gx
      simp[zl,gx]at U
      have aL:=vm _ _ _ _ U
      (with_reducible repeat' first|refine aj ?_|simp[h4,zl,JO])
      (refine hX.ob (aL) (by first|exact hZ _|exact hZ ‹_› _) (by first|exact hZ _|exact hZ ‹_› _) (Same.keys (by simp[eB,az,aA]) (by simp[eB,az,aA])) (by simp only[eB,az,aA,bT,bY];exact aR) (by simp only[eB,az,aA,bT,bY];exact aR) (by simp[inObs,Pv.look,eB,az,aA]) ?_;simp[cv,eB,az,aA])
      (with_reducible repeat' first|refine aj ?_|simp)
      (refine cS.at (fV _ bm) (by simp) (by first|exact pB _|exact pB ‹_› _) (Same.keys (by simp[fV,az,aA]) (by simp[fV,az,aA])) (by simp only[fV,az,aA,bT,bY];exact aR) (by simp only[fV,az,aA,bT,bY];exact aR) ?_;simp[cZ,z8,aX,aY,aV,inObs,Pv.look,fV,az,aA])
theorem Eu{K:Nat}(c9:xJ K)(x:Int)(n:Nat):∀(t:T) (c:bs) (seen:List (Int×Bool)) (a:tg),pj n x t c seen=some a→bN al 246 [aA,t.e,.int .i64 x,.gmap (.obj K)] (eB K (c,seen)) fun r ai=>r= .bool a.found∧ai=eB K (a.c,a.seen):=by
 induction n with
 |zero=>intro t c seen a h;simp[pj]at h
 |succ n bS=>
  intro t c seen a h;simp only[pj]at h;have ag:=hZ c9 (c,seen);have key:=I0 (fV K) (pB c9) Hm 257 [.eptr aA,.ptr (.obj 712) 0,.eptr (.int .i64 x),.eptr (.gmap (.obj K))] (fun a=>by rcases c9 with rfl|rfl<;>simp[fV,az,aA,inObs,Pv.look]) rfl (vW (pj n x) x) (fun v a bm h=>ac5 c9 n x bS v a bm h) t ⟨c,seen,false⟩ a h;have ad:=c9;rcases ad with rfl|rfl;all_goals
   simp only[eB,az,bT,bY]at ag⊢
   refine bN.mk mixed jk aaQ ahi (by simp) ag.obj fun aP cP=>?_;unfold Ol
   simp[aA]
   refine c4.new key (pB c9 _) (by simp only[fV,az,aA,bT,bY];exact aR) (by simp only[fV,az,aA,bT,bY];exact aR) (by simp[inObs,Pv.look,fV,az,aA]) ?_
   rintro r ai ⟨rfl,rfl⟩
   refine⟨fun m hm=>.inl ⟨?_,Hm _ _⟩,?_⟩
   ·exact((Hm _ _).inObs _).2 hm
   simp[cv,fV,az]
   (with_reducible repeat' first|refine aj ?_|simp)
   (refine cS.at (eB _ (a.c,a.seen)) (by simp) (by first|exact hZ _|exact hZ ‹_› _) (Same.keys (by simp[eB,az,aA]) (by simp[eB,az,aA])) (by simp only[eB,az,aA,bT,bY];exact aR) (by simp only[eB,az,aA,bT,bY];exact aR) ?_;simp[cZ,Ve,aX,aY,aV,inObs,Pv.look,eB,az,aA])
@[simp] theorem Kx:pU []=jB []:=rfl
@[simp] theorem ase(t:T):sY (some t)=t.e:=rfl
@[simp] theorem asd:sY none= .agg [.int .i64 0,.int .i64 0,.str [],.slice 4 .nil []]:=rfl
theorem Rj(n:Nat)(x:Int)(t:T)(c:bs)(p:Bool×bs)(he:tZ n x t c=some p):bN al 247 [aA,.int .i64 x,t.e] (aM c) fun r ai=>r= .bool p.1∧ai=aM p.2:=by have ag:=cb c;simp only[tZ,gH]at he;obtain⟨a,J,rfl⟩:=he;have c9:xJ 715:= .inl rfl;have key:=Eu c9 x n t (c.know x t) [] a J;simp only[aM,az]at ag⊢;refine bN.mk mixed jk aaN ahf (by simp) ag.obj fun aP cP=>?_;unfold Oh;simp[aA];(refine c4.ob (key) (by first|exact hZ _|exact hZ ‹_› _) (by simp only[eB,az,aA,bs.know,bT,bY];exact aR) (by simp only[eB,az,aA,bs.know,bT,bY];exact aR) (by simp[inObs,Pv.look,eB,az,aA,bs.know]) ?_;rintro r ai ⟨rfl,rfl⟩;refine⟨(Same.keys (by simp[eB,az,aA,bs.know]) (by simp[eB,az,aA,bs.know])),?_⟩;simp[cv,eB,az,aA,bs.know]);(refine cS.at (aM a.c) (by simp) (by first|exact cb _|exact cb ‹_› _) (Same.keys (by simp[aM,az,aA]) (by simp[aM,az,aA])) (by simp only[aM,az,aA,bT,bY];exact aR) (by simp only[aM,az,aA,bT,bY];exact aR) ?_;simp[cZ,Vb,aX,aY,aV,inObs,Pv.look,aM,az,aA])
set_option maxRecDepth 4000 in
theorem Rh(n:Nat):∀(a b:T) (c:bs) (p:Bool×bs),gq n a b c=some p→bN al 218 [aA,a.e,b.e] (aM c) fun r ai=>r= .bool p.1∧ai=aM p.2:=by
 induction n with
 |zero=>intro a b c p h;simp[gq]at h
 |succ n bS=>
  intro a b c p he;have ag:=cb c;have B3:∀i j,a= .var i→b= .var j→bN al 218 [aA,a.e,b.e] (aM c) fun r ai=>r= .bool p.1∧ai=aM p.2:=by
   rintro i j rfl rfl;simp only[gq,mF]at he;obtain⟨⟨x,bH⟩,J,⟨y,cj⟩,U,ao⟩:=he;simp only at U ao;simp only[aM,az]at ag⊢;refine bN.mk mixed jk wO xL (by simp) ag.obj fun aP cP=>?_;unfold uT;simp[aA];(refine c4.ob (q0 c i x bH J) (by first|exact cb _|exact cb ‹_› _) (by simp only[aM,az,aA,bT,bY];exact aR) (by simp only[aM,az,aA,bT,bY];exact aR) (by simp[inObs,Pv.look,aM,az,aA]) ?_;rintro r ai ⟨rfl,rfl⟩;refine⟨(Same.keys (by simp[aM,az,aA]) (by simp[aM,az,aA])),?_⟩;simp[cv,aM,az,aA]);(with_reducible repeat' first|refine aj ?_|simp);(refine c4.ob (q0 bH j y cj U) (by first|exact cb _|exact cb ‹_› _) (by simp only[aM,az,aA,bT,bY];exact aR) (by simp only[aM,az,aA,bT,bY];exact aR) (by simp[inObs,Pv.look,aM,az,aA]) ?_;rintro r ai ⟨rfl,rfl⟩;refine⟨(Same.keys (by simp[aM,az,aA]) (by simp[aM,az,aA])),?_⟩;simp[cv,aM,az,aA]);by_cases hK:x=y
   ·rw[if_pos hK]at ao;cases ao;(with_reducible repeat' first|refine aj ?_|simp[hK]);(refine cS.at (aM cj) (by simp) (by first|exact cb _|exact cb ‹_› _) (Same.keys (by simp[aM,az,aA]) (by simp[aM,az,aA])) (by simp only[aM,az,aA,bT,bY];exact aR) (by simp only[aM,az,aA,bT,bY];exact aR) ?_;simp[cZ,nG,aX,aY,aV,inObs,Pv.look,aM,az,aA])
   ·rw[if_neg hK]at ao;have zs:(x==y)=false:=by simp[hK]
    have RA:xJ 715:= .inl rfl;have adE:xJ 716:= .inr rfl;obtain⟨u,v,zp,a8⟩:∃u v,((u=y∧v=x∧y<x)∨(u=x∧v=y∧¬y<x))∧qW (gq n) n u v (cj.join u v)=some p:=by
     by_cases bC:y<x
     ·rw[if_pos bC]at ao;exact⟨y,x,.inl ⟨rfl,rfl,bC⟩,ao⟩
     ·rw[if_neg bC]at ao;exact⟨x,y,.inr ⟨rfl,rfl,bC⟩,ao⟩
    clear ao;obtain⟨d,aQ⟩:∃d,d=cj.join u v:=⟨_,rfl⟩;have fm:d.up=eU v u cj.up:=by rw[aQ];rfl
    have eN:d.shape=cj.shape:=by rw[aQ];rfl
    have gu:d.shaped=cj.shaped:=by rw[aQ];rfl
    have hr:d.color=cj.color:=by rw[aQ];rfl
    have hs:d.size=cj.size:=by rw[aQ];rfl
    have ht:d.full=cj.full:=by rw[aQ];rfl
    rw[←aQ]at a8;simp only[qW]at a8;cases aK:d.shd v with
    |false=>
     have lW:(c1 v cj.shaped).getD false=false:=by rw[←gu];exact aK
     rw[if_pos aK]at a8;cases hu:d.shd u with
     |false=>
      have tR:(c1 u cj.shaped).getD false=false:=by rw[←gu];exact hu
      rw[if_pos hu]at a8;cases a8;rcases zp with⟨rfl,rfl,bC⟩|⟨rfl,rfl,bC⟩;all_goals
       (with_reducible repeat' first|refine aj ?_|simp[zs,bC,lW,tR])
       (refine cS.at (aM d) (by simp) (by first|exact cb _|exact cb ‹_› _) (Same.keys (by simp[aM,az,aA,fm,eN,gu,hr,hs,ht]) (by simp[aM,az,aA,fm,eN,gu,hr,hs,ht])) (by simp only[aM,az,aA,fm,eN,gu,hr,hs,ht,bT,bY];exact aR) (by simp only[aM,az,aA,fm,eN,gu,hr,hs,ht,bT,bY];exact aR) ?_;simp[cZ,nG,aX,aY,aV,inObs,Pv.look,aM,az,aA,fm,eN,gu,hr,hs,ht])
     |true=>
      have tR:(c1 u cj.shaped).getD false=true:=by rw[←gu];exact hu
      rw[if_neg (by simp[hu]),gH]at a8;obtain⟨a,bZ,rfl⟩:=a8;have key:=Eu RA u n _ _ _ _ bZ;rw[show d.shp u=(c1 u cj.shape).getD .nil from by rw[←eN];rfl]at key;rcases zp with⟨rfl,rfl,bC⟩|⟨rfl,rfl,bC⟩;all_goals
       (with_reducible repeat' first|refine aj ?_|simp[zs,bC,lW,tR])
       (refine c4.ob (key) (by first|exact hZ _|exact hZ ‹_› _) (by simp only[eB,az,aA,fm,eN,gu,hr,hs,ht,bT,bY];exact aR) (by simp only[eB,az,aA,fm,eN,gu,hr,hs,ht,bT,bY];exact aR) (by simp[inObs,Pv.look,eB,az,aA,fm,eN,gu,hr,hs,ht]) ?_;rintro r ai ⟨rfl,rfl⟩;refine⟨(Same.keys (by simp[eB,az,aA,fm,eN,gu,hr,hs,ht]) (by simp[eB,az,aA,fm,eN,gu,hr,hs,ht])),?_⟩;simp[cv,eB,az,aA,fm,eN,gu,hr,hs,ht])
       (with_reducible repeat' first|refine aj ?_|simp)
       (refine cS.at (aM a.c) (by simp) (by first|exact cb _|exact cb ‹_› _) (Same.keys (by simp[aM,az,aA]) (by simp[aM,az,aA])) (by simp only[aM,az,aA,bT,bY];exact aR) (by simp only[aM,az,aA,bT,bY];exact aR) ?_;simp[cZ,nG,aX,aY,aV,inObs,Pv.look,aM,az,aA])
    |true=>
     have lW:(c1 v cj.shaped).getD false=true:=by rw[←gu];exact aK
     rw[if_neg (by simp[aK])]at a8;rw[show d.shp v=(c1 v cj.shape).getD .nil from by rw[←eN];rfl]at a8;cases hu:d.shd u with
     |false=>
      have tR:(c1 u cj.shaped).getD false=false:=by rw[←gu];exact hu
      rw[if_pos hu]at a8;have key:=Rj n u _ d p a8;cases aN:c1 v cj.shape;all_goals
       rw[aN]at key
       simp only[j9,kB]at key
       rcases zp with⟨rfl,rfl,bC⟩|⟨rfl,rfl,bC⟩
       all_goals
        (with_reducible repeat' first|refine aj ?_|simp[zs,bC,lW,tR,aN])
        (refine c4.ob (key) (by first|exact cb _|exact cb ‹_› _) (by simp only[aM,az,aA,fm,eN,gu,hr,hs,ht,bT,bY];exact aR) (by simp only[aM,az,aA,fm,eN,gu,hr,hs,ht,bT,bY];exact aR) (by simp[inObs,Pv.look,aM,az,aA,fm,eN,gu,hr,hs,ht]) ?_;rintro r ai ⟨rfl,rfl⟩;refine⟨(Same.keys (by simp[aM,az,aA,fm,eN,gu,hr,hs,ht]) (by simp[aM,az,aA,fm,eN,gu,hr,hs,ht])),?_⟩;simp[cv,aM,az,aA,fm,eN,gu,hr,hs,ht])
        (with_reducible repeat' first|refine aj ?_|simp)
        (refine cS.at (aM p.2) (by simp) (by first|exact cb _|exact cb ‹_› _) (Same.keys (by simp[aM,az,aA]) (by simp[aM,az,aA])) (by simp only[aM,az,aA,bT,bY];exact aR) (by simp only[aM,az,aA,bT,bY];exact aR) ?_;simp[cZ,nG,aX,aY,aV,inObs,Pv.look,aM,az,aA])
     |true=>
      have tR:(c1 u cj.shaped).getD false=true:=by rw[←gu];exact hu
      rw[if_neg (by simp[hu]),mF]at a8;obtain⟨a,bZ,c7⟩:=a8;have key:=Eu RA u n _ _ _ _ bZ;obtain⟨o,aN⟩:∃o,c1 v cj.shape=o:=⟨_,rfl⟩;rw[aN]at key c7;obtain⟨ac,Au,HA⟩:=a;cases HA with
      |true=>
       simp at c7;subst c7;cases o;all_goals
        simp only[j9,kB]at key
        rcases zp with⟨rfl,rfl,bC⟩|⟨rfl,rfl,bC⟩
        all_goals
         (with_reducible repeat' first|refine aj ?_|simp[zs,bC,lW,tR,aN])
         (refine hX.ob (key) (by first|exact hZ _|exact hZ ‹_› _) (by first|exact hZ _|exact hZ ‹_› _) (Same.keys (by simp[eB,az,aA,fm,eN,gu,hr,hs,ht]) (by simp[eB,az,aA,fm,eN,gu,hr,hs,ht])) (by simp only[eB,az,aA,fm,eN,gu,hr,hs,ht,bT,bY];exact aR) (by simp only[eB,az,aA,fm,eN,gu,hr,hs,ht,bT,bY];exact aR) (by simp[inObs,Pv.look,eB,az,aA,fm,eN,gu,hr,hs,ht]) ?_;simp[cv,eB,az,aA,fm,eN,gu,hr,hs,ht])
         (with_reducible repeat' first|refine aj ?_|simp)
         (refine cS.at (aM ac) (by simp) (by first|exact cb _|exact cb ‹_› _) (Same.keys (by simp[aM,az,aA]) (by simp[aM,az,aA])) (by simp only[aM,az,aA,bT,bY];exact aR) (by simp only[aM,az,aA,bT,bY];exact aR) ?_;simp[cZ,nG,aX,aY,aV,inObs,Pv.look,aM,az,aA])
      |false=>
       simp only[gP,if_false,mF]at c7;obtain⟨b,ee,nz⟩:=c7;have vz:=Eu adE u n _ _ _ _ ee;rw[show ac.shp u=(c1 u ac.shape).getD .nil from rfl]at vz;obtain⟨HE,ann,Yp⟩:=b;cases Yp with
       |true=>
        simp at nz;subst nz;cases o;all_goals
         simp only[j9,kB]at key
         rcases zp with⟨rfl,rfl,bC⟩|⟨rfl,rfl,bC⟩
         all_goals
          (with_reducible repeat' first|refine aj ?_|simp[zs,bC,lW,tR,aN])
          (refine hX.ob (key) (by first|exact hZ _|exact hZ ‹_› _) (by first|exact hZ _|exact hZ ‹_› _) (Same.keys (by simp[eB,az,aA,fm,eN,gu,hr,hs,ht]) (by simp[eB,az,aA,fm,eN,gu,hr,hs,ht])) (by simp only[eB,az,aA,fm,eN,gu,hr,hs,ht,bT,bY];exact aR) (by simp only[eB,az,aA,fm,eN,gu,hr,hs,ht,bT,bY];exact aR) (by simp[inObs,Pv.look,eB,az,aA,fm,eN,gu,hr,hs,ht]) ?_;simp[cv,eB,az,aA,fm,eN,gu,hr,hs,ht])
          (with_reducible repeat' first|refine aj ?_|simp)
          (refine hX.ob (vz) (by first|exact hZ _|exact hZ ‹_› _) (by first|exact hZ _|exact hZ ‹_› _) (Same.keys (by simp[eB,az,aA]) (by simp[eB,az,aA])) (by simp only[eB,az,aA,bT,bY];exact aR) (by simp only[eB,az,aA,bT,bY];exact aR) (by simp[inObs,Pv.look,eB,az,aA]) ?_;simp[cv,eB,az,aA])
          (with_reducible repeat' first|refine aj ?_|simp)
          (refine cS.at (aM HE) (by simp) (by first|exact cb _|exact cb ‹_› _) (Same.keys (by simp[aM,az,aA]) (by simp[aM,az,aA])) (by simp only[aM,az,aA,bT,bY];exact aR) (by simp only[aM,az,aA,bT,bY];exact aR) ?_;simp[cZ,nG,aX,aY,aV,inObs,Pv.look,aM,az,aA])
       |false=>
        simp only[gP,if_false]at nz;have Kg:=bS _ _ _ _ nz;rw[show HE.shp u=(c1 u HE.shape).getD .nil from rfl]at Kg;cases o;all_goals
         simp only[j9,kB]at key Kg
         rcases zp with⟨rfl,rfl,bC⟩|⟨rfl,rfl,bC⟩
         all_goals
          (with_reducible repeat' first|refine aj ?_|simp[zs,bC,lW,tR,aN])
          (refine hX.ob (key) (by first|exact hZ _|exact hZ ‹_› _) (by first|exact hZ _|exact hZ ‹_› _) (Same.keys (by simp[eB,az,aA,fm,eN,gu,hr,hs,ht]) (by simp[eB,az,aA,fm,eN,gu,hr,hs,ht])) (by simp only[eB,az,aA,fm,eN,gu,hr,hs,ht,bT,bY];exact aR) (by simp only[eB,az,aA,fm,eN,gu,hr,hs,ht,bT,bY];exact aR) (by simp[inObs,Pv.look,eB,az,aA,fm,eN,gu,hr,hs,ht]) ?_;simp[cv,eB,az,aA,fm,eN,gu,hr,hs,ht])
          (with_reducible repeat' first|refine aj ?_|simp)
          (refine hX.ob (vz) (by first|exact hZ _|exact hZ ‹_› _) (by first|exact hZ _|exact hZ ‹_› _) (Same.keys (by simp[eB,az,aA]) (by simp[eB,az,aA])) (by simp only[eB,az,aA,bT,bY];exact aR) (by simp only[eB,az,aA,bT,bY];exact aR) (by simp[inObs,Pv.look,eB,az,aA]) ?_;simp[cv,eB,az,aA])
          (with_reducible repeat' first|refine aj ?_|simp)
          (refine hX.ob (Kg) (by first|exact cb _|exact cb ‹_› _) (by first|exact cb _|exact cb ‹_› _) (Same.keys (by simp[aM,az,aA]) (by simp[aM,az,aA])) (by simp only[aM,az,aA,bT,bY];exact aR) (by simp only[aM,az,aA,bT,bY];exact aR) (by simp[inObs,Pv.look,aM,az,aA]) ?_;simp[cv,aM,az,aA])
          (with_reducible repeat' first|refine aj ?_|simp)
          (refine cS.at (aM p.2) (by simp) (by first|exact cb _|exact cb ‹_› _) (Same.keys (by simp[aM,az,aA]) (by simp[aM,az,aA])) (by simp only[aM,az,aA,bT,bY];exact aR) (by simp only[aM,az,aA,bT,bY];exact aR) ?_;simp[cZ,nG,aX,aY,aV,inObs,Pv.look,aM,az,aA])
  have aK:∀i,a= .var i→b.kind≠1→bN al 218 [aA,a.e,b.e] (aM c) fun r ai=>r= .bool p.1∧ai=aM p.2:=by
   rintro i rfl ae;have vc:((rt c i).bind fun p=>if p.2.shd p.1=false then tZ n p.1 b p.2 else gq n (p.2.shp p.1) b p.2)=some p:=by cases b<;>first|exact he|simp at ae
   simp only[mF]at vc;obtain⟨⟨x,bH⟩,J,U⟩:=vc;simp only at U;have fR:(b.kind==1)=false:=by simp[ae]
   simp only[aM,az]at ag⊢;refine bN.mk mixed jk wO xL (by simp) ag.obj fun aP cP=>?_;unfold uT;simp[aA];(with_reducible repeat' first|refine aj ?_|simp[fR,ae]);(refine c4.ob (q0 c i x bH J) (by first|exact cb _|exact cb ‹_› _) (by simp only[aM,az,aA,bT,bY];exact aR) (by simp only[aM,az,aA,bT,bY];exact aR) (by simp[inObs,Pv.look,aM,az,aA]) ?_;rintro r ai ⟨rfl,rfl⟩;refine⟨(Same.keys (by simp[aM,az,aA]) (by simp[aM,az,aA])),?_⟩;simp[cv,aM,az,aA]);cases ab:bH.shd x with
   |false=>have h4:(c1 x bH.shaped).getD false=false:=ab;rw[if_pos ab]at U;(with_reducible repeat' first|refine aj ?_|simp[h4]);(refine c4.ob (Rj n x b bH p U) (by first|exact cb _|exact cb ‹_› _) (by simp only[aM,az,aA,bT,bY];exact aR) (by simp only[aM,az,aA,bT,bY];exact aR) (by simp[inObs,Pv.look,aM,az,aA]) ?_;rintro r ai ⟨rfl,rfl⟩;refine⟨(Same.keys (by simp[aM,az,aA]) (by simp[aM,az,aA])),?_⟩;simp[cv,aM,az,aA]);(refine cS.at (aM p.2) (by simp) (by first|exact cb _|exact cb ‹_› _) (Same.keys (by simp[aM,az,aA]) (by simp[aM,az,aA])) (by simp only[aM,az,aA,bT,bY];exact aR) (by simp only[aM,az,aA,bT,bY];exact aR) ?_;simp[cZ,nG,aX,aY,aV,inObs,Pv.look,aM,az,aA])
   |true=>have h4:(c1 x bH.shaped).getD false=true:=ab;rw[if_neg (by simp[ab])]at U;have key:=bS _ _ _ _ U;(with_reducible repeat' first|refine aj ?_|simp[h4]);(refine hX.ob (key) (by first|exact cb _|exact cb ‹_› _) (by first|exact cb _|exact cb ‹_› _) (Same.keys (by simp[aM,az,aA]) (by simp[aM,az,aA])) (by simp only[aM,az,aA,bT,bY];exact aR) (by simp only[aM,az,aA,bT,bY];exact aR) (by simp[inObs,Pv.look,aM,az,aA]) ?_;simp[cv,aM,az,aA]);(with_reducible repeat' first|refine aj ?_|simp);(refine cS.at (aM p.2) (by simp) (by first|exact cb _|exact cb ‹_› _) (Same.keys (by simp[aM,az,aA]) (by simp[aM,az,aA])) (by simp only[aM,az,aA,bT,bY];exact aR) (by simp only[aM,az,aA,bT,bY];exact aR) ?_;simp[cZ,nG,aX,aY,aV,inObs,Pv.look,aM,az,aA])
  cases a with
  |var i=>
   cases b with
   |var j=>exact B3 i j rfl rfl
   |_=>exact aK i rfl (by simp)
  |pair bD a2=>
   cases b with
   |var j=>simp only[gq]at he;have key:=bS _ _ _ _ he;simp only[aM,az]at ag⊢;refine bN.mk mixed jk wO xL (by simp) ag.obj fun aP cP=>?_;unfold uT;simp[aA];(refine c4.ob (key) (by first|exact cb _|exact cb ‹_› _) (by simp only[aM,az,aA,bT,bY];exact aR) (by simp only[aM,az,aA,bT,bY];exact aR) (by simp[inObs,Pv.look,aM,az,aA]) ?_;rintro r ai ⟨rfl,rfl⟩;refine⟨(Same.keys (by simp[aM,az,aA]) (by simp[aM,az,aA])),?_⟩;simp[cv,aM,az,aA]);(refine cS.at (aM p.2) (by simp) (by first|exact cb _|exact cb ‹_› _) (Same.keys (by simp[aM,az,aA]) (by simp[aM,az,aA])) (by simp only[aM,az,aA,bT,bY];exact aR) (by simp only[aM,az,aA,bT,bY];exact aR) ?_;simp[cZ,nG,aX,aY,aV,inObs,Pv.look,aM,az,aA])
   |pair cc b4=>
    simp only[gq,mF]at he;obtain⟨⟨f1,bH⟩,J,U⟩:=he;have key:=bS _ _ _ _ J;simp only[aM,az]at ag⊢;refine bN.mk mixed jk wO xL (by simp) ag.obj fun aP cP=>?_;unfold uT;simp[aA];(with_reducible repeat' first|refine aj ?_|simp);(refine hX.ob (key) (by first|exact cb _|exact cb ‹_› _) (by first|exact cb _|exact cb ‹_› _) (Same.keys (by simp[aM,az,aA]) (by simp[aM,az,aA])) (by simp only[aM,az,aA,bT,bY];exact aR) (by simp only[aM,az,aA,bT,bY];exact aR) (by simp[inObs,Pv.look,aM,az,aA]) ?_;simp[cv,aM,az,aA]);cases f1 with
    |false=>simp at U;subst U;(with_reducible repeat' first|refine aj ?_|simp);(refine cS.at (aM bH) (by simp) (by first|exact cb _|exact cb ‹_› _) (Same.keys (by simp[aM,az,aA]) (by simp[aM,az,aA])) (by simp only[aM,az,aA,bT,bY];exact aR) (by simp only[aM,az,aA,bT,bY];exact aR) ?_;simp[cZ,nG,aX,aY,aV,inObs,Pv.look,aM,az,aA])
    |true=>simp at U;have vz:=bS _ _ _ _ U;(with_reducible repeat' first|refine aj ?_|simp);(refine hX.ob (vz) (by first|exact cb _|exact cb ‹_› _) (by first|exact cb _|exact cb ‹_› _) (Same.keys (by simp[aM,az,aA]) (by simp[aM,az,aA])) (by simp only[aM,az,aA,bT,bY];exact aR) (by simp only[aM,az,aA,bT,bY];exact aR) (by simp[inObs,Pv.look,aM,az,aA]) ?_;simp[cv,aM,az,aA]);(with_reducible repeat' first|refine aj ?_|simp);(refine cS.at (aM p.2) (by simp) (by first|exact cb _|exact cb ‹_› _) (Same.keys (by simp[aM,az,aA]) (by simp[aM,az,aA])) (by simp only[aM,az,aA,bT,bY];exact aR) (by simp only[aM,az,aA,bT,bY];exact aR) ?_;simp[cZ,nG,aX,aY,aV,inObs,Pv.look,aM,az,aA])
   |_=>simp[gq]at he;subst he;simp only[aM,az]at ag⊢;refine bN.mk mixed jk wO xL (by simp) ag.obj fun aP cP=>?_;unfold uT;simp[aA];(refine cS.at (aM c) (by simp) (by first|exact cb _|exact cb ‹_› _) (Same.keys (by simp[aM,az,aA]) (by simp[aM,az,aA])) (by simp only[aM,az,aA,bT,bY];exact aR) (by simp only[aM,az,aA,bT,bY];exact aR) ?_;simp[cZ,nG,aX,aY,aV,inObs,Pv.look,aM,az,aA])
  |_=>
   cases b with
   |var j=>simp only[gq]at he;have key:=bS _ _ _ _ he;simp only[aM,az]at ag⊢;refine bN.mk mixed jk wO xL (by simp) ag.obj fun aP cP=>?_;unfold uT;simp[aA];(refine c4.ob (key) (by first|exact cb _|exact cb ‹_› _) (by simp only[aM,az,aA,bT,bY];exact aR) (by simp only[aM,az,aA,bT,bY];exact aR) (by simp[inObs,Pv.look,aM,az,aA]) ?_;rintro r ai ⟨rfl,rfl⟩;refine⟨(Same.keys (by simp[aM,az,aA]) (by simp[aM,az,aA])),?_⟩;simp[cv,aM,az,aA]);(refine cS.at (aM p.2) (by simp) (by first|exact cb _|exact cb ‹_› _) (Same.keys (by simp[aM,az,aA]) (by simp[aM,az,aA])) (by simp only[aM,az,aA,bT,bY];exact aR) (by simp only[aM,az,aA,bT,bY];exact aR) ?_;simp[cZ,nG,aX,aY,aV,inObs,Pv.look,aM,az,aA])
   |_=>
    simp[gq]at he;subst he;simp only[aM,az]at ag⊢;refine bN.mk mixed jk wO xL (by simp) ag.obj fun aP cP=>?_;unfold uT;simp[aA];((with_reducible repeat' first|refine aj ?_|simp|((first|apply bM|apply bR|apply bQ)<;>intro h<;>try simp at h))<;>(try exact ch));all_goals(refine cS.at (aM c) (by simp) (by first|exact cb _|exact cb ‹_› _) (Same.keys (by simp[aM,az,aA]) (by simp[aM,az,aA])) (by simp only[aM,az,aA,bT,bY];exact aR) (by simp only[aM,az,aA,bT,bY];exact aR) ?_;simp[cZ,nG,aX,aY,aV,inObs,Pv.look,aM,az,aA])
    all_goals simp_all
def l5(c:bs):Prop:= ∀x,0≤c.sz x∧c.sz x≤5001
theorem l5.rt{c:bs}(h:l5 c){v r:Int}{cl:bs}(he:rt c v=some (r,cl)):l5 cl:=by simp only[Pv.rt,gH,jm]at he;obtain⟨p,_,_,rfl⟩:=he;exact h
theorem l5.put{c:bs}(h:l5 c){x k:Int}(ad:0≤k∧k≤5001)(m:List (Int×Int)):l5 {c with size:=eU x k c.size,color:=m}:=fun z=>by
 show 0≤(c1 z (eU x k c.size)).getD 0∧(c1 z (eU x k c.size)).getD 0≤5001;rw[ni];split
 ·exact ad
 ·exact h z
theorem ado(c:bs)(v:Int)(p:Int×bs)(he:x4 v c=some p):bN al 259 [.int .i64 v,.eptr aA] (aM c) fun r ai=>r= .int .i64 p.1∧ai=aM p.2:=by have ag:=cb c;simp only[x4,gH]at he;obtain⟨⟨r,bH⟩,J,rfl⟩:=he;simp only[aM,az]at ag⊢;refine bN.mk mixed jk aaV ahn (by simp) ag.obj fun aP cP=>?_;unfold Ot;simp[aA];(refine hX.ob (q0 c v r bH J) (by first|exact cb _|exact cb ‹_› _) (by first|exact cb _|exact cb ‹_› _) (Same.keys (by simp[aM,az,aA]) (by simp[aM,az,aA])) (by simp only[aM,az,aA,bT,bY];exact aR) (by simp only[aM,az,aA,bT,bY];exact aR) (by simp[inObs,Pv.look,aM,az,aA]) ?_;simp[cv,aM,az,aA]);(with_reducible repeat' first|refine aj ?_|simp);(refine cS.at (aM bH) (by simp) (by first|exact cb _|exact cb ‹_› _) (Same.keys (by simp[aM,az,aA]) (by simp[aM,az,aA])) (by simp only[aM,az,aA,bT,bY];exact aR) (by simp only[aM,az,aA,bT,bY];exact aR) ?_;simp[cZ,Vh,aX,aY,aV,inObs,Pv.look,aM,az,aA]);all_goals rfl
def gl(a:bs×Bool):cI:=⟨az a.1++[(.obj 712,[.bool a.2])],[]⟩
theorem qc(a):ea (gl a):=by unfold gl az;exact ea.of ⟨by intro m;simp[Pv.look],by intro m;simp[Pv.look]⟩ (by simp) (by simp)
theorem XX(a b):Same (gl a) (gl b):=Same.keys (by simp[gl,az]) (by simp[gl,az])
theorem adn(n:Nat)(vm:∀x c p,p3 n x c=some p→l5 c→l5 p.2∧bN al 248 [aA,.int .i64 x] (aM c) fun r ai=>r= .bool p.1∧ai=aM p.2)
  (v:Int) (a bm:bs×Bool) (br:l5 a.1) (he:yf (p3 n) v a=some bm):l5 bm.1∧bN al 258 [.int .i64 v,.ptr (.obj 712) 0,.eptr aA] (gl a) fun r ai=>r= .tuple []∧ai=gl bm:=by
 have ag:=qc a;obtain⟨c,f⟩:=a;cases f with
 |false=>simp[yf]at he;subst he;refine⟨br,?_⟩;simp only[gl,az,bT,bY]at ag⊢;refine bN.mk mixed jk QI Ux (by simp) ag.obj fun aP cP=>?_;unfold HP;simp[aA];(with_reducible repeat' first|refine aj ?_|simp);(refine cS.at (gl (c,false)) (by simp) (by first|exact qc _|exact qc ‹_› _) (Same.keys (by simp[gl,az,aA]) (by simp[gl,az,aA])) (by simp only[gl,az,aA,bT,bY];exact aR) (by simp only[gl,az,aA,bT,bY];exact aR) ?_;simp[cZ,Gc,aX,aY,aV,inObs,Pv.look,gl,az,aA])
 |true=>
  simp only[yf,if_true,mF,gH]at he;obtain⟨⟨r,bH⟩,J,⟨f2,cj⟩,U,rfl⟩:=he;obtain⟨z2,key⟩:=vm _ _ _ U (br.rt J);refine⟨z2,?_⟩;simp only[gl,az,bT,bY]at ag⊢;refine bN.mk mixed jk QI Ux (by simp) ag.obj fun aP cP=>?_;unfold HP;simp[aA];(with_reducible repeat' first|refine aj ?_|simp);(refine hX.ob (q0 c v r bH J) (by first|exact cb _|exact cb ‹_› _) (by first|exact cb _|exact cb ‹_› _) (Same.keys (by simp[aM,az,aA]) (by simp[aM,az,aA])) (by simp only[aM,az,aA,bT,bY];exact aR) (by simp only[aM,az,aA,bT,bY];exact aR) (by simp[inObs,Pv.look,aM,az,aA]) ?_;simp[cv,aM,az,aA]);(with_reducible repeat' first|refine aj ?_|simp);(refine hX.ob (key) (by first|exact cb _|exact cb ‹_› _) (by first|exact cb _|exact cb ‹_› _) (Same.keys (by simp[aM,az,aA]) (by simp[aM,az,aA])) (by simp only[aM,az,aA,bT,bY];exact aR) (by simp only[aM,az,aA,bT,bY];exact aR) (by simp[inObs,Pv.look,aM,az,aA]) ?_;simp[cv,aM,az,aA]);cases f2 with
  |true=>(with_reducible repeat' first|refine aj ?_|simp);(refine cS.at (gl (cj,true)) (by simp) (by first|exact qc _|exact qc ‹_› _) (Same.keys (by simp[gl,az,aA]) (by simp[gl,az,aA])) (by simp only[gl,az,aA,bT,bY];exact aR) (by simp only[gl,az,aA,bT,bY];exact aR) ?_;simp[cZ,Gc,aX,aY,aV,inObs,Pv.look,gl,az,aA])
  |false=>(with_reducible repeat' first|refine aj ?_|simp);(refine cS.at (gl (cj,false)) (by simp) (by first|exact qc _|exact qc ‹_› _) (Same.keys (by simp[gl,az,aA]) (by simp[gl,az,aA])) (by simp only[gl,az,aA,bT,bY];exact aR) (by simp only[gl,az,aA,bT,bY];exact aR) ?_;simp[cZ,Gc,aX,aY,aV,inObs,Pv.look,gl,az,aA])
theorem adm(n:Nat):∀(x:Int) (c:bs) (p:Bool×bs),p3 n x c=some p→l5 c→l5 p.2∧bN al 248 [aA,.int .i64 x] (aM c) fun r ai=>r= .bool p.1∧ai=aM p.2:=by
 induction n with
 |zero=>intro x c p h;simp[p3]at h
 |succ n bS=>
  intro x c p he br;have ag:=cb c;simp only[p3]at he;by_cases U:c.col x=2
  ·rw[if_pos U]at he;cases he;have Bs:iM c.color x=2:=U;refine⟨br,?_⟩;simp only[aM,az]at ag⊢;refine bN.mk mixed jk Bd CB (by simp) ag.obj fun aP cP=>?_;unfold yy;simp[aA];(with_reducible repeat' first|refine aj ?_|simp[Bs]);(refine cS.at (aM c) (by simp) (by first|exact cb _|exact cb ‹_› _) (Same.keys (by simp[aM,az,aA]) (by simp[aM,az,aA])) (by simp only[aM,az,aA,bT,bY];exact aR) (by simp only[aM,az,aA,bT,bY];exact aR) ?_;simp[cZ,Aa,aX,aY,aV,inObs,Pv.look,aM,az,aA])
  rw[if_neg U]at he;have Bs:(iM c.color x==2)=false:=by simp;exact U
  by_cases J:c.col x=1
  ·rw[if_pos J]at he;cases he;have ny:iM c.color x=1:=J;refine⟨br,?_⟩;simp only[aM,az]at ag⊢;refine bN.mk mixed jk Bd CB (by simp) ag.obj fun aP cP=>?_;unfold yy;simp[aA];(with_reducible repeat' first|refine aj ?_|simp[ny]);(refine cS.at (aM c) (by simp) (by first|exact cb _|exact cb ‹_› _) (Same.keys (by simp[aM,az,aA]) (by simp[aM,az,aA])) (by simp only[aM,az,aA,bT,bY];exact aR) (by simp only[aM,az,aA,bT,bY];exact aR) ?_;simp[cZ,Aa,aX,aY,aV,inObs,Pv.look,aM,az,aA])
  rw[if_neg J]at he;have ny:(iM c.color x==1)=false:=by simp;exact J
  have SK:l5 (c.grey x):=br.put (by omega) _;cases lV:(c.grey x).shd x with
  |false=>rw[if_pos lV]at he;cases he;have sx:(c1 x c.shaped).getD false=false:=lV;refine⟨SK,?_⟩;simp only[aM,az]at ag⊢;refine bN.mk mixed jk Bd CB (by simp) ag.obj fun aP cP=>?_;unfold yy;simp[aA];(with_reducible repeat' first|refine aj ?_|simp[Bs,ny,sx]);(refine cS.at (aM ((c.grey x).black x)) (by simp) (by first|exact cb _|exact cb ‹_› _) (Same.keys (by simp[aM,az,aA,bs.grey,bs.black]) (by simp[aM,az,aA,bs.grey,bs.black])) (by simp only[aM,az,aA,bs.grey,bs.black,bT,bY];exact aR) (by simp only[aM,az,aA,bs.grey,bs.black,bT,bY];exact aR) ?_;simp[cZ,Aa,aX,aY,aV,inObs,Pv.look,aM,az,aA,bs.grey,bs.black])
  |true=>
   rw[if_neg (by simp[lV]),mF]at he;have sx:(c1 x c.shaped).getD false=true:=lV;obtain⟨⟨e,f⟩,ao,a8⟩:=he;simp only at a8;obtain⟨XD,key⟩:=Rg gl qc XX 258 [.ptr (.obj 712) 0,.eptr aA] (fun a=>by simp[gl,az,aA,inObs,Pv.look]) rfl (fun a=>l5 a.1) (yf (p3 n)) (fun v a bm br h=>adn n bS v a bm br h) _ _ _ SK ao;rw[show(c.grey x).shp x=(c1 x c.shape).getD .nil from rfl]at key;cases f with
   |false=>simp at a8;subst a8;refine⟨XD,?_⟩;simp only[aM,az]at ag⊢;refine bN.mk mixed jk Bd CB (by simp) ag.obj fun aP cP=>?_;unfold yy;simp[aA];(with_reducible repeat' first|refine aj ?_|simp[Bs,ny,sx]);(refine c4.ob (key) (by first|exact qc _|exact qc ‹_› _) (by simp only[gl,az,aA,bs.grey,bT,bY];exact aR) (by simp only[gl,az,aA,bs.grey,bT,bY];exact aR) (by simp[inObs,Pv.look,gl,az,aA,bs.grey]) ?_;rintro r ai ⟨rfl,rfl⟩;refine⟨(Same.keys (by simp[gl,az,aA,bs.grey]) (by simp[gl,az,aA,bs.grey])),?_⟩;simp[cv,gl,az,aA,bs.grey]);(with_reducible repeat' first|refine aj ?_|simp);(refine cS.at (aM e) (by simp) (by first|exact cb _|exact cb ‹_› _) (Same.keys (by simp[aM,az,aA]) (by simp[aM,az,aA])) (by simp only[aM,az,aA,bT,bY];exact aR) (by simp only[aM,az,aA,bT,bY];exact aR) ?_;simp[cZ,Aa,aX,aY,aV,inObs,Pv.look,aM,az,aA])
   |true=>
    rw[if_neg (by simp),gH]at a8;obtain⟨⟨k,aB⟩,bZ,rfl⟩:=a8;obtain⟨z2,b4,vz⟩:=adb aM cb DA 259 [.eptr aA] (fun a=>by simp[aM,az,aA,inObs,Pv.look]) rfl l5 x4 (fun v a p br h=>by simp only[x4,gH]at h;obtain⟨⟨r,bH⟩,J,rfl⟩:=h;exact⟨br.rt J,(br.rt J r).1,Int.le_trans (br.rt J r).2 (by omega)⟩) (fun v a p _ h=>ado a v p h) _ _ _ XD bZ
    rw[show bs.shp e x=(c1 x e.shape).getD .nil from rfl]at vz;refine⟨z2.put b4 _,?_⟩;simp only[aM,az]at ag⊢;refine bN.mk mixed jk Bd CB (by simp) ag.obj fun aP cP=>?_;unfold yy;simp[aA];(with_reducible repeat' first|refine aj ?_|simp[Bs,ny,sx]);(refine c4.ob (key) (by first|exact qc _|exact qc ‹_› _) (by simp only[gl,az,aA,bs.grey,bT,bY];exact aR) (by simp only[gl,az,aA,bs.grey,bT,bY];exact aR) (by simp[inObs,Pv.look,gl,az,aA,bs.grey]) ?_;rintro r ai ⟨rfl,rfl⟩;refine⟨(Same.keys (by simp[gl,az,aA,bs.grey]) (by simp[gl,az,aA,bs.grey])),?_⟩;simp[cv,gl,az,aA,bs.grey]);(with_reducible repeat' first|refine aj ?_|simp);(refine hX.ob (vz) (by first|exact cb _|exact cb ‹_› _) (by first|exact cb _|exact cb ‹_› _) (Same.keys (by simp[aM,az,aA]) (by simp[aM,az,aA])) (by simp only[aM,az,aA,bT,bY];exact aR) (by simp only[aM,az,aA,bT,bY];exact aR) (by simp[inObs,Pv.look,aM,az,aA]) ?_;simp[cv,aM,az,aA]);(with_reducible repeat' first|refine aj ?_|simp);(refine cS.at (aM (({aB with size:=eU x k aB.size}:bs).black x)) (by simp) (by first|exact cb _|exact cb ‹_› _) (Same.keys (by simp[aM,az,aA,bs.black]) (by simp[aM,az,aA,bs.black])) (by simp only[aM,az,aA,bs.black,bT,bY];exact aR) (by simp only[aM,az,aA,bs.black,bT,bY];exact aR) ?_;simp[cZ,Aa,aX,aY,aV,inObs,Pv.look,aM,az,aA,bs.black])
theorem adl(n:Nat)(vm:∀x c p,p2 n x c=some p→bN al 249 [aA,.int .i64 x] (aM c) fun r ai=>r=p.1.e∧ai=aM p.2)
  (v:Int) (c:bs) (p:T×bs) (he:AI (p2 n) v c=some p):bN al 260 [.int .i64 v,.eptr aA] (aM c) fun r ai=>r= .tuple [p.1.e,.bool true]∧ai=aM p.2:=by
 have ag:=cb c;simp only[AI,mF]at he;obtain⟨⟨r,bH⟩,J,U⟩:=he;have key:=vm _ _ _ U;simp only[aM,az]at ag⊢;refine bN.mk mixed jk aaU ahm (by simp) ag.obj fun aP cP=>?_;unfold Oq;simp[aA];(with_reducible repeat' first|refine aj ?_|simp);(refine hX.ob (q0 c v r bH J) (by first|exact cb _|exact cb ‹_› _) (by first|exact cb _|exact cb ‹_› _) (Same.keys (by simp[aM,az,aA]) (by simp[aM,az,aA])) (by simp only[aM,az,aA,bT,bY];exact aR) (by simp only[aM,az,aA,bT,bY];exact aR) (by simp[inObs,Pv.look,aM,az,aA]) ?_;simp[cv,aM,az,aA]);(with_reducible repeat' first|refine aj ?_|simp);(refine hX.ob (key) (by first|exact cb _|exact cb ‹_› _) (by first|exact cb _|exact cb ‹_› _) (Same.keys (by simp[aM,az,aA]) (by simp[aM,az,aA])) (by simp only[aM,az,aA,bT,bY];exact aR) (by simp only[aM,az,aA,bT,bY];exact aR) (by simp[inObs,Pv.look,aM,az,aA]) ?_;simp[cv,aM,az,aA]);(with_reducible repeat' first|refine aj ?_|simp);(refine cS.at (aM p.2) (by simp) (by first|exact cb _|exact cb ‹_› _) (Same.keys (by simp[aM,az,aA]) (by simp[aM,az,aA])) (by simp only[aM,az,aA,bT,bY];exact aR) (by simp only[aM,az,aA,bT,bY];exact aR) ?_;simp[cZ,Vg,aX,aY,aV,inObs,Pv.look,aM,az,aA])
theorem kO(n:Int):bG al 116 [.int .i64 n] (T.var n).e:=by refine bd jk abe ahG fun aP=>?_;unfold OM;exact b0
theorem adk(n:Nat):∀(x:Int) (c:bs) (p:T×bs),p2 n x c=some p→bN al 249 [aA,.int .i64 x] (aM c) fun r ai=>r=p.1.e∧ai=aM p.2:=by
 induction n with
 |zero=>intro x c p h;simp[p2]at h
 |succ n bS=>
  intro x c p he;have ag:=cb c;simp only[p2]at he;cases aI:c1 x c.full with
  |some t=>rw[aI]at he;cases he;simp only[aM,az]at ag⊢;refine bN.mk mixed jk Iz KZ (by simp) ag.obj fun aP cP=>?_;unfold DP;simp[aA];(with_reducible repeat' first|refine aj ?_|simp[aI]);(refine cS.at (aM c) (by simp) (by first|exact cb _|exact cb ‹_› _) (Same.keys (by simp[aM,az,aA]) (by simp[aM,az,aA])) (by simp only[aM,az,aA,bT,bY];exact aR) (by simp only[aM,az,aA,bT,bY];exact aR) ?_;simp[cZ,Gb,aX,aY,aV,inObs,Pv.look,aM,az,aA])
  |none=>
   rw[aI]at he;simp only at he;cases lV:c.shd x with
   |false=>have sx:(c1 x c.shaped).getD false=false:=lV;rw[if_pos lV]at he;cases he;simp only[aM,az]at ag⊢;refine bN.mk mixed jk Iz KZ (by simp) ag.obj fun aP cP=>?_;unfold DP;simp[aA];(with_reducible repeat' first|refine aj ?_|refine aD (kO _) ?_|refine aE (kO _) ?_|simp[aI,sx]);(refine cS.at (aM {c with full:=eU x (.var x) c.full}) (by simp) (by first|exact cb _|exact cb ‹_› _) (Same.keys (by simp[aM,az,aA]) (by simp[aM,az,aA])) (by simp only[aM,az,aA,bT,bY];exact aR) (by simp only[aM,az,aA,bT,bY];exact aR) ?_;simp[cZ,Gb,aX,aY,aV,inObs,Pv.look,aM,az,aA])
   |true=>have sx:(c1 x c.shaped).getD false=true:=lV;rw[if_neg (by simp[lV]),gH]at he;obtain⟨⟨t,bH⟩,J,rfl⟩:=he;have key:=acY aM cb DA 260 [.eptr aA] (fun a=>by simp[aM,az,aA,inObs,Pv.look]) rfl (AI (p2 n)) (fun v a p h=>adl n bS v a p h) _ _ _ J;rw[show c.shp x=(c1 x c.shape).getD .nil from rfl]at key;simp only[aM,az]at ag⊢;refine bN.mk mixed jk Iz KZ (by simp) ag.obj fun aP cP=>?_;unfold DP;simp[aA];(with_reducible repeat' first|refine aj ?_|refine aD (kO _) ?_|refine aE (kO _) ?_|simp[aI,sx]);(refine c4.ob (key) (by first|exact cb _|exact cb ‹_› _) (by simp only[aM,az,aA,bT,bY];exact aR) (by simp only[aM,az,aA,bT,bY];exact aR) (by simp[inObs,Pv.look,aM,az,aA]) ?_;rintro r ai ⟨rfl,rfl⟩;refine⟨(Same.keys (by simp[aM,az,aA]) (by simp[aM,az,aA])),?_⟩;simp[cv,aM,az,aA]);(with_reducible repeat' first|refine aj ?_|simp);(refine cS.at (aM {bH with full:=eU x t bH.full}) (by simp) (by first|exact cb _|exact cb ‹_› _) (Same.keys (by simp[aM,az,aA]) (by simp[aM,az,aA])) (by simp only[aM,az,aA,bT,bY];exact aR) (by simp only[aM,az,aA,bT,bY];exact aR) ?_;simp[cZ,Gb,aX,aY,aV,inObs,Pv.look,aM,az,aA])
theorem ac0:bN al 215 [] ⟨[],[]⟩ fun r ai=>r=aA∧ai=aM bs.new:=by have ag:ea ⟨[],[]⟩:=ea.of ui (by simp) (by simp);refine bN.mk mixed jk aa3 ahv (by simp) ag.obj fun aP cP=>?_;unfold OB;simp;refine cS.new (aM bs.new) (.inl rfl) (cb _) ⟨trivial,trivial⟩ (by simp only[aM,az,bs.new];exact aR) (by simp only[aM,az,bs.new];exact aR) ?_;simp[cZ,Vo,aX,aY,aV,inObs,Pv.look,aM,az,aA]
theorem Wp{a b:List Int}(h:a.Perm b):qI a=qI b:=by
 have aN:∀a b c:Int,(decide (a≤b))=true→(decide (b≤c))=true→(decide (a≤c))=true:=by intro a b c;simp;omega
 have zo:∀a b:Int,(decide (a≤b)||decide (b≤a))=true:=by intro a b;simp;omega
 have J:=List.pairwise_mergeSort aN zo a;have U:=List.pairwise_mergeSort aN zo b;refine Na (le:=fun x y:Int=>(decide (x≤y))=true) (fun x y _ _ J U=>by simp at J U;omega) J U ?_;exact(List.mergeSort_perm a _).trans (h.trans (List.mergeSort_perm b _).symm)
def afy(l:List Int)(k:Nat)(st:bq):Prop:=∃(seen:List Nat) (xs:List Int),seen.Nodup∧(∀b∈seen,b<l.length)∧k=l.length-seen.length∧xs=seen.filterMap (fun b=>l[b]?)∧xs.length=seen.length∧st=⟨[(3,.row 1 (.obj 306) xs.length),(7,.ptr (.loc 0) 0)],[(.obj 304,nY l),(.loc 0,cd l.length seen (.obj 304))],[(.obj 306,⟨xs.length,3,1,some (et xs)⟩)],1,[.obj 306,.obj 304]⟩
@[simp] theorem aoP(xs:List Int):(et xs).length=xs.length:=by simp[et]
@[simp] theorem ar4(xs:List Int):cR (et xs)=et xs:=by
 induction xs with
 |nil=>rfl
 |cons x r bS=>simp only[et,gG,cR,dh]at bS⊢;rw[bS]
@[simp] theorem aoQ:et []=[]:=rfl
theorem aft(xs:List Int)(x:Int):et xs++[ah.int .i64 x]=et (xs++[x]):=by simp[et]
theorem adj(l:List Int)(au:l.length≤1000000):bN al 136 [.gmap (.obj 304)] (th l) fun r ai=>r= .slice 1 .no (et (qI l))∧ai=th l:=by
 have ag:=Nn l;unfold th at ag⊢;refine bN.mk mixed fI abd ahF (by simp) ag.obj fun aP cP=>?_;unfold OL;simp;refine o3 (afy l) l.length _ ⟨by simp[fresh,aJ,aC,cd,inObs,Pv.look,mr,sG],dY (by simp[fresh,aJ,aC,cd,inObs,Pv.look,mr,sG]),dZ (by simp[fresh,aJ,aC,dP,inObs,Pv.look,mr,sG]),by simp⟩ ⟨[],[],by simp,by simp,by simp,by simp,by simp,rfl⟩ ?_;rintro k st ⟨seen,xs,aQ,bC,ad,hJ,j3,rfl⟩ kG cP;clear kG cP;have hle:=GI aQ bC;simp;refine ZE (mk:= .obj 304) (seen:=seen) (l:=l) (by simp) (by simp) rfl (fun lj=>?_) (fun b x ab ae=>?_)
 ·simp;have vl:=Ma aQ bC lj;rw[←hJ]at vl;refine c4.ob (adh 306 xs (by omega)) (Hn 306 xs) (by unfold mH;exact aR) (by unfold mH;exact aR) (by simp[mH,inObs,Pv.look]) ?_;rintro r ai ⟨rfl,rfl⟩;refine⟨⟨fun _=>rfl,fun k=>by simp only[mH,Pv.look];split<;>rfl⟩,?_⟩;unfold mH;simp[cv,Wo];refine cS.at _ (.inl rfl) ag (Same.refl _) aR aR ?_;simp[cZ,Vt,aX,aY,aV];rw[Wp vl];simp[aC,sG]
 ·have zc:∀f:aH→Option (List ah),f (.loc 0)=some (cd l.length (seen++[b]) (.obj 304))→f (.obj 304)=some (nY l)→pe f (.ptr (.loc 0) 0)=some (True,.tuple [.int .i64 x,.bool true]):=fun f J U=>agn f (.loc 0) (.obj 304) l.length seen b l x J U rfl ab;have fy:b<l.length:=(fN.1 ab).1;have pL:=Mb aQ bC fy ae;simp[zc,aft];refine⟨by unfold lim;omega,?_⟩;refine bP.next (l.length-(seen.length+1)) (by omega) ⟨seen++[b],xs++[x],KU aQ ae,(by simp;intro c ay;rcases ay with ay|rfl;exact bC c ay;exact fy),by simp,by rw[List.filterMap_append,←hJ];simp[ab],by simp[j3],rfl⟩ ⟨by simp[fresh,aJ,aC,cd,inObs,Pv.look,mr,sG],dY (by simp[fresh,aJ,aC,cd,inObs,Pv.look,mr,sG]),dZ (by simp[fresh,aJ,aC,dP,inObs,Pv.look,mr,sG]),by simp⟩
@[simp] theorem ao5(S:aH→Prop)(xs:List Int):aJ S (et xs)=True:=eq_true (sG S xs)
@[simp] theorem anH:cells .junk=[.junk]:=rfl
def OK:C:=(aa [ej 6 5,be 7 false] (aa [dn 12 215 [],I 8 12] (.seq (aa [I 13 0,cn 14 13,bV 15 0] (fw 16 15 14 (.seq (.block 1 (aa [ct 17 5 13 15,aW 18 5 17,dk 10 jA,bK 5 10 18] (aa [I 19 8,aF 20 0 1 10,ax 21 1 20,b7 22 216 19 21] (aa [I 23 8,hD 24 1 4 10,aW 25 4 24,b7 26 217 23 25] (.seq (.drawn false 69 [I 27 8,aF 28 0 1 10,ax 29 1 28,cD 30 116 29,hD 31 1 4 10,aW 32 4 31,dn 33 218 [.t 27,.t 30,.t 32],cu 34 33]) (aT 34 (aa [ej 6 5,be 7 false] .ret) .skip)))))) (.region [aU 35 .add 15 1,I 15 35])))) (.seq (aa [I 36 1,cn 37 36,bV 38 0] (.block 2 (.loop (aa [bo 39 .lss 38 37] (.seq (aT 39 .skip (.exit 2)) (.seq (.block 3 (aa [I 40 38,I 11 40] (aa [I 41 8,I 42 1,I 43 11,ct 44 4 42 43,aW 45 4 44,b7 46 217 41 45] (aa [I 47 8,I 48 2,I 49 11,ct 50 4 48 49,aW 51 4 50,b7 52 217 47 51] (.seq (.drawn false 69 [I 53 8,I 54 1,I 55 11,ct 56 4 54 55,aW 57 4 56,I 58 2,I 59 11,ct 60 4 58 59,aW 61 4 60,dn 62 218 [.t 53,.t 57,.t 61],cu 63 62]) (aT 63 (aa [ej 6 5,be 7 false] .ret) .skip)))))) (.region [aU 64 .add 38 1,I 38 64]))))))) (aa [I 65 8,cD 66 219 65,cC 67 0 66,cC 68 1 66,I 6 67,I 7 68] .ret)))))
@[simp] def Lv:List bt:=[.tmp 6,.tmp 7]
def Oo:C:=(aa [ej 2 5,be 3 false] (aa [c3 (.mkmap 12 (some 304)),I 4 12] (.seq (aa [I 13 0,fv 14 13,aF 15 0 1 14,ax 16 1 15,c3 (.range 17 none (.t 16))] (.block 0 (.loop (aa [⟨none,.next 18 (.t 17)⟩,cC 19 0 18] (.seq (aT 19 .skip (.exit 0)) (.block 1 (aa [b5 20 (.ment (.t 17)),cC 21 0 20,I 5 21] (.region [I 22 4,I 23 5,c3 (.mput .i (.t 22) (.t 23) (.c (.bool true)))])))))))) (aa [I 24 4,cD 25 136 24,I 6 25] (aa [c3 (.bslm 26 none 5 113 []),I 7 26] (.seq (aa [I 27 6,cn 28 27,bV 29 0] (.block 2 (.loop (aa [bo 30 .lss 29 28] (.seq (aT 30 .skip (.exit 2)) (.seq (.block 3 (aa [ct 31 1 27 29,ax 32 1 31,I 9 32] (aa [I 33 0,I 34 9,b7 35 216 33 34,I 10 35] (.seq (aa [I 36 0,I 37 10,b7 38 248 36 37,cu 39 38] (aT 39 (aa [ej 2 5,be 3 false] .ret) .skip)) (.seq (aa [I 40 10,I 41 9,bo 42 .eql 40 41,I 43 42,b3 43 true 44 0,aq 43 true (fv 45 44),aq 43 true (aF 46 2 1 45),aq 43 true (ax 47 1 46),b3 43 true 48 10,aq 43 true (b5 49 (.mget .i (.bool false) false (.t 47) (.t 48))),aq 43 true (cu 50 49),dz 51 43 50] (aT 51 (.exit 3) .skip)) (aa [I 52 7,I 53 9,iu 54 jA [(0,1,(.t 53))],ei 55 5 113 [.t 54],c3 (.appm 56 none 5 113 (.t 52) (.t 55)),I 7 56] (aa [I 57 0,fv 58 57,aF 59 4 1 58,ax 60 1 59,I 61 10,b5 62 (.mget .i (.int .i64 0) false (.t 60) (.t 61)),aU 63 .gtr 62 5000,I 64 63,b3 64 false 65 7,aq 64 false (cn 66 65),aq 64 false (aU 67 .gtr 66 400),c2 68 64 67] (aT 68 (aa [ej 2 5,be 3 false] .ret) .skip)))))))) (.region [aU 69 .add 29 1,I 29 69]))))))) (.seq (aa [I 70 7,cn 71 70,bV 72 0] (.block 4 (.loop (aa [bo 73 .lss 72 71] (.seq (aT 73 .skip (.exit 4)) (.seq (.block 5 (aa [I 74 72,I 11 74] (.region [I 75 7,I 76 11,I 77 0,I 78 0,I 79 7,I 80 11,ct 81 5 79 80,aF 82 0 1 81,ax 83 1 82,b7 84 216 78 83,b7 85 249 77 84,cD 86 143 85,ct 87 5 75 76,hD 88 1 4 87,bK 4 88 86]))) (.region [aU 89 .add 72 1,I 72 89]))))))) (.seq (.pub 7 (.region [I 90 7,I 2 90,be 3 true])) .ret))))))))
@[simp] def Ga:List bt:=[.tmp 2,.tmp 3]
def MC:List (Nat×dC):=[
 (3,⟨1,8,.int .i64,.int .i64 0⟩),
 (4,⟨1,1,.bool,.bool false⟩),
 (27,⟨1,24,.slice 30,.slice 4 .nil []⟩),
 (30,⟨4,56,.struct [(0,3),(1,3),(2,9),(3,27)],.agg [.int .i64 0,.int .i64 0,.str [],.slice 4 .nil []]⟩),
 (46,⟨1,24,.slice 113,.slice 5 .nil []⟩),
 (76,⟨1,24,.slice 3,.slice 1 .nil []⟩),
 (113,⟨5,64,.struct [(0,3),(1,30)],.agg [.int .i64 0,.int .i64 0,.int .i64 0,.str [],.slice 4 .nil []]⟩),
 (136,⟨1,8,.map 3 4,.junk⟩),
 (216,⟨1,8,.map 3 3,.junk⟩),
 (219,⟨6,48,.struct [(0,216),(1,217),(2,136),(3,216),(4,216),(5,217)],.agg [.junk,.junk,.junk,.junk,.junk,.junk]⟩)]
theorem WQ:fM al MC=true:=by kernel_rfl
theorem ahE:bX MC OK Lv 3 Tryz.f186=true:=by kernel_rfl
theorem abc:al.funcs[(186:Nat)]? =some Tryz.f186:=Tryz.func186
theorem ahl:bX MC Oo Ga 1 Tryz.f219=true:=by kernel_rfl
theorem aaT:al.funcs[(219:Nat)]? =some Tryz.f219:=Tryz.func219
def fs(o:Option (List ar)):ah:= .tuple [.slice 5 .no ((o.getD []).map ar.e),.bool o.isSome]
theorem agp(f:aH→Option (List ah))(fj mk:aH)(n:Nat)(seen:List Nat)(b:Nat)(l:List (Int×Int))(x:Int×Int)(hi:f fj=some (cd n (seen++[b]) mk))(hm:f mk=some (mZ l))(aw:n=l.length)(ab:l[b]? =some x):pe f (.ptr fj 0)=some (True,.tuple [.int .i64 x.1,.int .i64 x.2]):=by rw[T5 f fj mk n seen b _ hi hm (by simpa using aw)];simp[ab]
theorem ZF{st:bq}{d:Nat}{K:bq→Prop}{fj mk:aH}{n:Nat}{seen:List Nat}{l:List (Int×Int)}(hi:Pv.look fj st.b=some (cd n seen mk))(hm:Pv.look mk st.b=some (mZ l))(aw:n=l.length)
  (J:(∀b,b<l.length→b∈seen)→K {st with t:=Pv.put d (.tuple [.bool false]) st.t}) (U:∀b x,l[b]? =some x→b∉seen→K {st with t:=Pv.put d (.tuple [.bool true,.int .i64 x.1,.int .i64 x.2]) st.t,b:=cw fj (cd n (seen++[b]) mk) st.b}):
  sd st d (.ptr fj 0) K:=by
 refine Qy hi hm (by simpa using aw) (fun h=>J fun b ae=>h b (by omega)) (fun b k v ae ag=>?_);simp only[List.getElem?_map,gH]at ae;obtain⟨x,ak,aB⟩:=ae;simp only[jm]at aB;obtain⟨rfl,rfl⟩:=aB;exact U b x ak ag
@[simp] theorem ara(m:aH)(l:List (Int×Int)):vV m (mZ l)=some (cd l.length [] m):=by simp[mZ,rA]
def nr(v:Int):ah:= .agg [.int .i64 v,.int .i64 0,.int .i64 0,.str [],.slice 4 .nil []]
@[simp] theorem afR(S:aH→Prop)(l:List Int):aJ S (l.map nr)=True:=by
 apply eq_true;induction l with
 |nil=>simp[aJ]
 |cons x r bS=>simp only[gG,aJ];exact⟨by simp[nr,aC,aJ],bS⟩
@[simp] theorem apj(S:aH→Prop)(v:Int):aC S (nr v)=True:=by simp[nr,aC,aJ]
@[simp] theorem arn(v:Int):dX (nr v)=true:=rfl
@[simp] theorem anq(v:Int):cells (nr v)=[.int .i64 v,.int .i64 0,.int .i64 0,.str [],.slice 4 .nil []]:=rfl
theorem akk(v:Int)(f:Nat)(cs:List ah):my (nr v) f cs= .agg (nH [.int .i64 v,.int .i64 0,.int .i64 0,.str [],.slice 4 .nil []] f cs):=rfl
theorem iW{S:aH→Prop}:∀{a b:List ah},aJ S (a++b)↔(aJ S a∧aJ S b)
 |[],b=>by simp[aJ]
 |x::a,b=>by simp[aJ,iW (a:=a),and_assoc]
@[simp] theorem ao4(S:aH→Prop)(k:Nat)(l:List Int):aJ S (nm k (l.map nr))=True:=by rw[←List.map_drop];exact afR S _
@[simp] theorem apA(S:aH→Prop)(o:Option (List ar)):aC S (fs o)=True:=by simp[fs]
theorem HD(l:List Int)(v:Int):l.map nr++[.agg [.int .i64 v,.int .i64 0,.int .i64 0,.str [],.slice 4 .nil []]]=(l++[v]).map nr:=by simp[nr]
def afu(c:bs)(k:Nat)(st:bq):Prop:=∃(seen:List Nat) (xs:List Int),seen.Nodup∧(∀b∈seen,b<c.up.length)∧k=c.up.length-seen.length∧xs=seen.filterMap (fun b=>(c.up[b]?).map (·.1))∧xs.length=seen.length∧st=⟨[(0,aA),(4,.gmap (.obj 304)),(17,.ptr (.loc 0) 0)],az c++[(.obj 304,nY xs),(.loc 0,cd c.up.length seen (.obj 702))],[],1,[.obj 304,.obj 702,.obj 703,.obj 704,.obj 705,.obj 706,.obj 707]⟩
theorem akw{c:bs}{seen:List Nat}(aQ:seen.Nodup)(bC:∀b∈seen,b<c.up.length)(lj:∀b,b<c.up.length→b∈seen):(seen.filterMap fun b=>(c.up[b]?).map (·.1)).Perm (cp c.up):=by have:=Ma (l:=cp c.up) aQ (by simpa[cp]using bC) (by simpa[cp]using lj);simpa[cp]using this
theorem akx{c:bs}(aw:(cp c.up).Nodup){seen:List Nat}{b:Nat}(ae:b∉seen){x:Int×Int}(ab:c.up[b]? =some x):x.1∉seen.filterMap fun b=>(c.up[b]?).map (·.1):=by
 intro hm;rw[List.mem_filterMap]at hm;obtain⟨bO,J,U⟩:=hm;obtain⟨y,ao,a8⟩:=gH.1 U;have ak:(cp c.up)[b]? =some x.1:=by simp[cp,ab]
 have aB:(cp c.up)[bO]? =some x.1:=by simp[cp,ao,a8]
 have bC:=(fN.1 ak).1;have vj:=(fN.1 aB).1;have f1:=(fN.1 ak).2;have f2:=(fN.1 aB).2;rcases Nat.lt_trichotomy b bO with h|h|h
 ·exact pt.1 aw b bO bC vj h (f1.trans f2.symm)
 ·subst h;exact ae J
 ·exact pt.1 aw bO b vj bC h (f2.trans f1.symm)
set_option maxRecDepth 4000 in
theorem adf(n:Nat)(c:bs)(o:Option (List ar))(he:C8 n (qJ (cp c.up)) c=some o)(BO:(cp c.up).Nodup)(hlen:c.up.length≤1000000)(br:l5 c):bN al 219 [aA] (aM c) fun r ai=>r=fs o∧∃cl,ai=aM cl:=by
 have ag:=cb c;simp only[aM,az]at ag⊢;refine bN.mk mixed WQ aaT ahl (by simp) ag.obj fun aP cP=>?_;unfold Oo;simp[aA];have BK:∀S:aH→Prop,aJ S (jB []):=fun S=>mr S [];refine o3 (afu c) c.up.length _ ⟨by simp[fresh,aJ,aC,cd,inObs,Pv.look,mr,aA,az,BK],dY (by simp[fresh,aJ,aC,cd,inObs,Pv.look,mr,aA,az,BK]),dZ (by simp[fresh,aJ,aC,dP,inObs,Pv.look,mr,aA,az,BK]),by simp⟩ ⟨[],[],by simp,by simp,by simp,by simp,by simp,rfl⟩ ?_;rintro k st ⟨seen,xs,aQ,bC,ad,hJ,j3,rfl⟩ kG cP;clear kG cP;have hle:=GI aQ bC;simp[az,aA];refine ZF (mk:= .obj 702) (seen:=seen) (l:=c.up) (by simp) (by simp) rfl (fun lj=>?_) (fun b x ab ae=>?_);rotate_left
 ·have zc:∀f:aH→Option (List ah),f (.loc 0)=some (cd c.up.length (seen++[b]) (.obj 702))→f (.obj 702)=some (mZ c.up)→pe f (.ptr (.loc 0) 0)=some (True,.tuple [.int .i64 x.1,.int .i64 x.2]):=fun f J U=>agp f (.loc 0) (.obj 702) c.up.length seen b c.up x J U rfl ab;have fy:b<c.up.length:=(fN.1 ab).1;have pL:=Mb aQ bC fy ae;have kl:=akx BO ae ab;rw[←hJ]at kl;simp[zc,Hz,kl];refine bP.next (c.up.length-(seen.length+1)) (by omega) ⟨seen++[b],xs++[x.1],KU aQ ae,(by simp;intro c ay;rcases ay with ay|rfl;exact bC c ay;exact fy),by simp,by rw[List.filterMap_append,←hJ];simp[ab],by simp[j3],rfl⟩ ⟨by simp[fresh,aJ,aC,cd,inObs,Pv.look,mr,aA,az],dY (by simp[fresh,aJ,aC,cd,inObs,Pv.look,mr,aA,az]),dZ (by simp[fresh,aJ,aC,dP,inObs,Pv.look,mr,aA,az]),by simp⟩
 ·simp;have vl:=akw aQ bC lj;rw[←hJ]at vl;have afd:xs.length≤1000000:=by omega
  refine c4.ob (adj xs afd) (Nn _) (by simp only[th];exact aR) (by simp only[th];exact aR) (by simp[inObs,th,Pv.look]) ?_;rintro r ai ⟨rfl,rfl⟩;refine⟨Same.refl _,?_⟩;have zm:qI xs=qJ (cp c.up):=Wp vl;rw[zm];obtain⟨ba,ko⟩:∃ba,ba=qJ (cp c.up):=⟨_,rfl⟩;rw[←ko]at he⊢;simp[th,cv];simp only[C8,mF]at he;obtain⟨res,y4,oa⟩:=he;have oj:ba.length≤1000000:=by rw[ko,(Db _).length_eq];simpa[cp]using hlen
  refine hR (α:=bs×List Int) (fun i a=>⟨[(0,aA),(27,.slice 1 .no (et ba)),(28,.int .i64 ba.length),(7,.row 5 (.loc 1) a.2.length),(29,.int .i64 i)],az a.1,[(.loc 1,⟨a.2.length,113,5,some (a.2.map nr)⟩)],2,[.obj 702,.obj 703,.obj 704,.obj 705,.obj 706,.obj 707]⟩) ba.length (fun i a=>rM n (ba.drop i) a.1 a.2=some res∧l5 a.1∧a.2.length≤400) (c,[]) (by simp[aA,az];exact⟨by simp[fresh,aJ,aC,cd,inObs,Pv.look,mr,aA,az],dY (by simp[fresh,aJ,aC,cd,inObs,Pv.look,mr,aA,az]),dZ (by simp[fresh,aJ,aC,dP,inObs,Pv.look,mr,aA,az]),by simp⟩) ⟨by simpa using y4,br,by simp⟩ ?_ ?_
  ·rintro⟨bH,out⟩ ⟨J,U,ao⟩ ae;simp only at J U ao ae⊢;simp[rM]at J;subst J;simp only[gH]at oa;obtain⟨⟨L,YG⟩,adV,rfl⟩:=oa;simp[aA,az];refine hR (α:=bs×List ar) (fun j a=>⟨[(0,aA),(7,.row 5 (.loc 1) out.length),(71,.int .i64 out.length),(72,.int .i64 j)],az a.1,[(.loc 1,⟨out.length,113,5,some (a.2.map ar.e++(out.drop j).map nr)⟩)],2,[.obj 702,.obj 703,.obj 704,.obj 705,.obj 706,.obj 707]⟩) out.length (fun j a=>a.2.length=j∧∃rest,x5 n (out.drop j) a.1=some (rest,YG)∧a.2++rest=L) (bH,[]) (by simp[aA,az];exact⟨by simp[fresh,aJ,aC,cd,inObs,Pv.look,aA,az],dY (by simp[fresh,aJ,aC,cd,inObs,Pv.look,aA,az]),dZ (by simp[fresh,aJ,aC,dP,inObs,Pv.look,aA,az]),by simp⟩) ⟨rfl,L,by simpa using adV,rfl⟩ ?_ ?_
   ·rintro⟨cj,done⟩ ⟨a8,rest,bZ,c7⟩ ae;simp only at a8 bZ c7 ae⊢;simp[x5]at bZ;obtain⟨rfl,rfl⟩:=bZ;simp at c7;subst c7;simp[aA,az,a8];refine cS.at (aM cj) (by simp) (cb _) (Same.keys (by simp[aM,az]) (by simp[aM,az])) (by simp only[aM,az];exact aR) (by simp only[aM,az];exact aR) ?_;simp[cZ,Ga,aX,aY,aV,aM,az,fs];exact⟨cj,by simp⟩
   ·rintro j ⟨cj,done⟩ af ⟨a8,rest,bZ,c7⟩ ae;simp only at a8 bZ c7 ae⊢;obtain⟨v,aK⟩:∃v,out[j]? =some v:=⟨_,cf af⟩;have aQ:out.drop j=v::out.drop (j+1):=by rw[la af];rw[cf af]at aK;cases aK;rfl
    rw[aQ]at bZ;simp only[x5,mF,gH,jm]at bZ;obtain⟨⟨x,da⟩,ee,⟨t,ie⟩,nz,⟨aki,anT⟩,si,rfl,rfl⟩:=bZ;simp only at nz si;have key:=adk n x da _ nz;rw[aQ];have gU:∀R,(done.map ar.e++nr v::R)[j]? =some (nr v):=fun R=>by rw[List.getElem?_append_right (by simp;omega)];simp[a8]
    have vo:∀R x,(done.map ar.e++nr v::R).set j x=done.map ar.e++x::R:=fun R x=>by rw[List.set_append_right _ _ (by simp;omega)];simp[a8]
    simp[aA,az];(with_reducible repeat' first|refine aj ?_|simp[gU,af]);(refine c4.ob (q0 cj v x da ee) (by first|exact cb _|exact cb ‹_› _) (by simp only[aM,az,aA,bT,bY];exact aR) (by simp only[aM,az,aA,bT,bY];exact aR) (by simp[inObs,Pv.look,aM,az,aA]) ?_;rintro r ai ⟨rfl,rfl⟩;refine⟨(Same.keys (by simp[aM,az,aA]) (by simp[aM,az,aA])),?_⟩;simp[cv,aM,az,aA]);(with_reducible repeat' first|refine aj ?_|simp);(refine c4.ob (key) (by first|exact cb _|exact cb ‹_› _) (by simp only[aM,az,aA,bT,bY];exact aR) (by simp only[aM,az,aA,bT,bY];exact aR) (by simp[inObs,Pv.look,aM,az,aA]) ?_;rintro r ai ⟨rfl,rfl⟩;refine⟨(Same.keys (by simp[aM,az,aA]) (by simp[aM,az,aA])),?_⟩;simp[cv,aM,az,aA]);(with_reducible repeat' first|refine aj ?_|refine aD (s7 _) ?_|refine aE (s7 _) ?_|simp[gU,vo,af,akk,-my]);refine bP.rng (ie,done++[⟨v,t⟩]) af ⟨by simp[a8],aki,si,by simpa using c7⟩ ?_;simp[aA,az];exact⟨by simp[fresh,aJ,aC,cd,inObs,Pv.look,aA,az,iW],dY (by simp[fresh,aJ,aC,cd,inObs,Pv.look,aA,az,iW]),dZ (by simp[fresh,aJ,aC,dP,inObs,Pv.look,aA,az,iW]),by simp⟩
  ·rintro i ⟨bH,out⟩ hi ⟨J,U,ao⟩ ae;simp only at J U ao ae⊢;obtain⟨v,aK⟩:∃v,ba[i]? =some v:=⟨_,cf hi⟩;have aQ:ba.drop i=v::ba.drop (i+1):=by rw[la hi];rw[cf hi]at aK;cases aK;rfl
   rw[aQ]at J;simp only[rM,mF]at J;obtain⟨⟨x,cj⟩,a8,⟨f,da⟩,bZ,c7⟩:=J;simp only at bZ c7;obtain⟨z3,key⟩:=adm n x cj _ bZ (U.rt a8);have aec:∀h,(et ba)[i]'h= .int .i64 v:=fun h=>by rw[cf hi]at aK;simp only[dG]at aK;simp[et,aK]
   simp[aA,az];(with_reducible repeat' first|refine aj ?_|simp[aec,hi]);(refine c4.ob (q0 bH v x cj a8) (by first|exact cb _|exact cb ‹_› _) (by simp only[aM,az,aA,bT,bY];exact aR) (by simp only[aM,az,aA,bT,bY];exact aR) (by simp[inObs,Pv.look,aM,az,aA]) ?_;rintro r ai ⟨rfl,rfl⟩;refine⟨(Same.keys (by simp[aM,az,aA]) (by simp[aM,az,aA])),?_⟩;simp[cv,aM,az,aA]);(with_reducible repeat' first|refine aj ?_|simp);(refine c4.ob (key) (by first|exact cb _|exact cb ‹_› _) (by simp only[aM,az,aA,bT,bY];exact aR) (by simp only[aM,az,aA,bT,bY];exact aR) (by simp[inObs,Pv.look,aM,az,aA]) ?_;rintro r ai ⟨rfl,rfl⟩;refine⟨(Same.keys (by simp[aM,az,aA]) (by simp[aM,az,aA])),?_⟩;simp[cv,aM,az,aA]);cases f with
   |false=>simp at c7;subst c7;simp at oa;subst oa;(with_reducible repeat' first|refine aj ?_|simp);refine cS.at (aM da) (by simp) (cb _) (Same.keys (by simp[aM,az]) (by simp[aM,az])) (by simp only[aM,az];exact aR) (by simp only[aM,az];exact aR) ?_;simp[cZ,Ga,aX,aY,aV,aM,az,fs];exact⟨da,by simp⟩
   |true=>
    simp only[Bool.true_eq_false,if_false]at c7;by_cases ay:x=v∧da.shd x=false
    ·rw[if_pos ay]at c7;obtain⟨afe,lV⟩:=ay;subst afe;have sx:(c1 x da.shaped).getD false=false:=lV;(with_reducible repeat' first|refine aj ?_|simp[sx]);refine bP.rng (da,out) hi ⟨c7,z3,ao⟩ ?_;exact⟨by simp[fresh,aJ,aC,cd,inObs,Pv.look,aA,az],dY (by simp[fresh,aJ,aC,cd,inObs,Pv.look,aA,az]),dZ (by simp[fresh,aJ,aC,dP,inObs,Pv.look,aA,az]),by simp⟩
    ·rw[if_neg ay]at c7;have Sr:(x==v)=false∨((x==v)=true∧(c1 x da.shaped).getD false=true):=by
      by_cases e:x=v
      ·right;refine⟨by simp[e],?_⟩;cases aB:da.shd x with
       |false=>exact absurd ⟨e,aB⟩ ay
       |true=>exact aB
      ·left;simp[e]
     by_cases au:5000<da.sz x∨400<out.length+1
     ·rw[if_pos au]at c7;cases c7;simp at oa;subst oa;have oc:(decide (5000<iM da.size x))=true∨(decide (5000<iM da.size x)=false∧400<out.length+1):=by
       by_cases e:5000<iM da.size x
       ·left;simp[e]
       ·right;exact⟨by simp[e],au.resolve_left e⟩
      have zh:True:=trivial;have iS:True:=trivial;rcases Sr with bI|⟨bI,zh⟩;all_goals
       rcases oc with bn|⟨bn,iS⟩
       all_goals
        ((with_reducible repeat' first|refine aj ?_|simp[bI,zh,bn,iS]|((first|apply bM|apply bR|apply bQ)<;>intro h<;>try simp at h))<;>(try exact ch))
        refine cS.at (aM da) (by simp) (cb _) (Same.keys (by simp[aM,az]) (by simp[aM,az])) (by simp only[aM,az];exact aR) (by simp only[aM,az];exact aR) ?_
        simp[cZ,Ga,aX,aY,aV,aM,az,fs]
        exact⟨da,by simp⟩
     ·rw[if_neg au]at c7;have bn:decide (5000<iM da.size x)=false:=by simp;exact Int.not_lt.1 fun h=>au (.inl h)
      have iS:¬400<out.length+1:=fun h=>au (.inr h);have zh:True:=trivial;rcases Sr with bI|⟨bI,zh⟩;all_goals
       ((with_reducible repeat' first|refine aj ?_|simp[bI,zh,bn,iS]|((first|apply bM|apply bR|apply bQ)<;>intro h<;>try simp at h))<;>(try exact ch))
       all_goals first|(refine⟨by unfold lim;omega,?_⟩)|skip
       ((with_reducible repeat' first|refine aj ?_|simp[bI,zh,bn,iS]|((first|apply bM|apply bR|apply bQ)<;>intro h<;>try simp at h))<;>(try exact ch))
       refine bP.rng (da,out++[v]) hi ⟨c7,z3,by simp;omega⟩ ?_
       exact⟨by simp[fresh,aJ,aC,cd,inObs,Pv.look,aA,az,HD,iW],dY (by simp[fresh,aJ,aC,cd,inObs,Pv.look,aA,az,HD,iW]),dZ (by simp[fresh,aJ,aC,dP,inObs,Pv.look,aA,az,HD,iW]),by simp⟩
theorem De:∀{a b:T},a.tm=b.tm→a=b:=by
 intro a;induction a with
 |pair x y pb rv=>intro b h;cases b<;>simp[T.tm]at h;rw[pb h.1,rv h.2]
 |_=>intro b h;cases b<;>simp[T.tm]at h⊢ <;>exact h
def X4(l:List cW):Prop:= ∃s:List ar,l=s.map ar.b∧pZ s∧iv s∧ho s
def Hr(l:List cW):Prop:= ∃s:List ar,l=s.map ar.b∧pZ s∧fG s∧ho s
theorem NS:∀{l:List cW},(∀b∈l,b.t.fits=true)→∃s:List ar,l=s.map ar.b∧yP s
 |[],_=>⟨[],rfl,fun b ae=>by simp at ae⟩
 |b::l,h=>by
  obtain⟨s,J,U⟩:=NS (l:=l) fun c ay=>h c (by simp[ay]);obtain⟨x,ao,a8⟩:=bF.fits_ex (h b (by simp));refine⟨⟨b.v,x⟩::s,by rw[J];simp[ar.b,ao],fun c ay=>?_⟩;rcases fU.1 ay with rfl|ay
  ·exact a8
  ·exact U c ay
theorem Hc{l:List cW}:yq l↔X4 l:=by
 constructor
 ·rintro⟨J,U⟩;obtain⟨s,rfl,adZ⟩:=NS (l:=l) fun b ae=>by obtain⟨i,hi,e⟩:=nn ae;exact(U i hi b (by rw[cf hi,e])).2.2
  have RV:∀b∈s,b.t.ok=true∧b.t.size≤5000:=fun b ae=>by have:=adZ b ae;simpa[T.fit]using this
  refine⟨s,rfl,fun b ae=>⟨?_,(RV b ae).1⟩,?_,by simpa using J,fun b ae=>(RV b ae).2⟩
  ·obtain⟨i,hi,e⟩:=nn ae;have:=(U i (by simpa using hi) b.b (by simp[cf hi,e])).1;exact this
  ·rw[iv,pt];have jx:∀i (h:i+1<s.length),s[i].v<s[i+1].v:=fun i h=>by have:=(U (i+1) (by simpa using h) s[i+1].b (by simp[cf h])).2.1 s[i].b (by omega) (by simp[cf (show i<s.length by omega)]);exact this
   have:∀(d i:Nat) (h:i+d+1<s.length),s[i].v<s[i+d+1].v:=by
    intro d;induction d with
    |zero=>intro i h;exact jx i h
    |succ d bS=>intro i h;have bD:=bS i (by omega);have a2:=jx (i+d+1) (by omega);simp only[Nat.add_assoc]at bD a2⊢;omega
   intro i j hi af lS;have:=this (j-i-1) i (by omega);simpa[show i+(j-i-1)+1=j from by omega]using this
 ·rintro⟨s,rfl,av,bE,aI⟩;refine⟨by simpa using aI.1,fun i hi b ae=>?_⟩;simp only[List.getElem?_map,gH]at ae;obtain⟨c,ay,rfl⟩:=ae;have hm:=eK ay;refine⟨(av c hm).1,fun d bB aQ=>?_,?_⟩
  ·simp only[List.getElem?_map,gH]at aQ;obtain⟨e,he,rfl⟩:=aQ;obtain⟨J,ak⟩:=fN.1 he;obtain⟨U,aB⟩:=fN.1 ay;have:=pt.1 bE (i-1) i J U (by omega);rw[ak,aB]at this;exact this
  ·show c.t.tm.fits=true;rw[bF.fits_T];simp[T.fit,(av c hm).2,aI.2 c hm]
def uY(s:List ar)(v:Int)(f:Bool):Bool:=if 0≤mM s v then false else f
def l6(s:List ar)(b:ar):Bool:=b.t.fold (uY s) true&& !(b.t.kind==1&&decide (b.v≤b.t.int))
theorem Q6{s:List ar}(bE:iv s)(t:T):∀f:Bool,t.fold (uY s) f=true↔f=true∧∀w,t.occ w=true→di s w=none:=by
 induction t with
 |var n=>
  intro f;simp only[T.fold,T.occ,dL,uY];have:=Q4 bE n;by_cases h:0≤mM s n
  ·rw[if_pos h];constructor
   ·intro h;cases h
   ·rintro⟨_,U⟩;have:=this.2 (U n rfl);omega
  ·rw[if_neg h];exact⟨fun aI=>⟨aI,fun w hw=>by subst hw;exact this.1 (by omega)⟩,fun h=>h.1⟩
 |pair a b dQ dR=>
  intro f;simp only[T.fold,dQ,dR,T.occ,mB];constructor
  ·rintro⟨⟨J,U⟩,ao⟩;exact⟨J,fun w hw=>hw.elim (U w) (ao w)⟩
  ·rintro⟨J,U⟩;exact⟨⟨J,fun w hw=>U w (.inl hw)⟩,fun w hw=>U w (.inr hw)⟩
 |_=>intro f;simp[T.fold,T.occ]
theorem HF{s:List ar}(bE:iv s)(b:ar):l6 s b=true↔(∀w,b.t.occ w=true→di s w=none)∧∀w,b.t= .var w→w<b.v:=by
 unfold l6;rw[cz,Q6 bE];simp only[true_and];refine and_congr_right fun _=>?_;constructor
 ·intro h w hw;have ad:(b.t.kind==1)=true:=by rw[hw];rfl
  have hi:b.t.int=w:=by rw[hw];rfl
  rw[ad,hi]at h;simpa using h
 ·intro h;cases ad:(b.t.kind==1)with
  |false=>rfl
  |true=>
   obtain⟨w,hw⟩:∃w,b.t= .var w:=by
    cases e:b.t with
    |var w=>exact⟨w,rfl⟩
    |_=>rw[e]at ad;simp at ad
   have hi:b.t.int=w:=by rw[hw];rfl
   have:=h w hw;rw[hi];simpa using this
theorem Wn{s:List ar}(bE:iv s):fG s↔∀b∈s,l6 s b=true:=by
 constructor
 ·intro h b ae;exact(HF bE b).2 ⟨h.free b ae,h.ori b ae⟩
 ·intro h;exact⟨bE,fun b ae=>((HF bE b).1 (h b ae)).1,fun b ae=>((HF bE b).1 (h b ae)).2⟩
def pd{α:Type}(p:α→Bool)(s:List α)(i:Nat)(_:Unit):Prop:= ∀k b,k<i→s[k]? =some b→p b=true
theorem pd.step{α:Type}{p:α→Bool}{s:List α}{i:Nat}(h:pd p s i ()){b:α}(ae:s[i]? =some b)(bI:p b=true):pd p s (i+1) ():=fun k c ad ay=>by
 rcases(by omega:k<i∨k=i)with J|rfl
 ·exact h k c J ay
 ·rw[ae]at ay;cases ay;exact bI
open Classical in
noncomputable def gA(l:List cW):Bool:=decide (Hr l)
theorem qL{l:List cW}:gA l=true↔Hr l:=by unfold gA;simp
def iw(f:Bool):cI:=⟨[(.obj 731,[.bool f])],[]⟩
theorem uM(f:Bool):ea (iw f):=by unfold iw;exact ea.of ⟨by intro m;simp[Pv.look],by intro m;simp[Pv.look]⟩ (by simp) (by simp)
theorem XV(a b:Bool):Same (iw a) (iw b):=Same.keys (by simp[iw]) (by simp[iw])
theorem acP(s:List ar)(au:s.length≤1000000)(v:Int)(f:Bool):bN al 159 [.int .i64 v,.eptr (.slice 5 .no (s.map ar.e)),.ptr (.obj 731) 0] (iw f) fun r ai=>r= .tuple []∧ai=iw (uY s v f):=by
 have ag:=uM f;simp only[iw]at ag⊢;by_cases h:0≤mM s v
 ·rw[uY,if_pos h];refine bN.mk mixed qM QG Uv (by simp) ag.obj fun aP cP=>?_;unfold HN;simp;(with_reducible repeat' first|refine aj ?_|refine aD (s9 s v au) ?_|refine aE (s9 s v au) ?_|simp[h]);(refine cS.at (iw false) (by simp) (by first|exact uM _|exact uM ‹_› _) (Same.keys (by simp[iw]) (by simp[iw])) (by simp only[iw,bT,bY];exact aR) (by simp only[iw,bT,bY];exact aR) ?_;simp[cZ,Lq,aX,aY,aV,inObs,Pv.look,iw])
 ·rw[uY,if_neg h];refine bN.mk mixed qM QG Uv (by simp) ag.obj fun aP cP=>?_;unfold HN;simp;(with_reducible repeat' first|refine aj ?_|refine aD (s9 s v au) ?_|refine aE (s9 s v au) ?_|simp[h]);(refine cS.at (iw f) (by simp) (by first|exact uM _|exact uM ‹_› _) (Same.keys (by simp[iw]) (by simp[iw])) (by simp only[iw,bT,bY];exact aR) (by simp only[iw,bT,bY];exact aR) ?_;simp[cZ,Lq,aX,aY,aV,inObs,Pv.look,iw])
theorem MG(l:List cW):bG al 86 [.slice 5 .no (l.map cW.e)] (.bool (gA l)):=by
 have aK:=alI l;by_cases h:yq l;rotate_left
 ·have bB:gA l=false:=by unfold gA;simp only[hE];rintro⟨s,J,U,ao,a8⟩;exact h (Hc.2 ⟨s,J,U,ao.asc,a8⟩)
  rw[bB];refine bd qM QF Uu fun aP=>?_;unfold HM;exact b0
 ·obtain⟨s,rfl,av,bE,aI⟩:=Hc.1 h;have au:s.length≤1000000:=by have:=aI.1;omega
  have ak:(s.map ar.b).map cW.e=s.map ar.e:=by rw[List.map_map];exact List.map_congr_left fun b _=>ar.b_e b
  have bB:gA (s.map ar.b)=s.all (l6 s):=by
   rw[p5,jc,qL,←Wn bE];constructor
   ·rintro⟨ai,J,U,ao,a8⟩;have:ai=s:=by
     have aeb:∀a b:List ar,a.map ar.b=b.map ar.b→a=b:=by
      intro a;induction a with
      |nil=>intro b ae;cases b<;>simp at ae⊢
      |cons x a bS=>
       intro b ae;cases b with
       |nil=>simp at ae
       |cons y b=>simp only[gG,p6,ar.b,cW.mk.injEq]at ae;rw[bS b ae.2];have:=De ae.1.2;obtain⟨⟨ll,_⟩,_⟩:=ae;cases x;cases y;simp_all
     exact(aeb _ _ J).symm
    rw[←this];exact ao
   ·intro ao;exact⟨s,rfl,av,ao,aI⟩
  rw[bB];rw[ak]at aK⊢;refine bd qM QF Uu fun aP=>?_;unfold HM;simp;(with_reducible repeat' first|refine aj ?_|refine aD aK ?_|refine aE aK ?_|simp[h]);refine hR (α:=Unit) (fun i _=>⟨[(1,.eptr (.slice 5 .no (s.map ar.e))),(9,.slice 5 .no (s.map ar.e)),(10,.int .i64 s.length),(11,.int .i64 i)],[],[],1,[]⟩) s.length (pd (l6 s) s) () b1 (fun k b ad=>by omega) (fun _ af _=>?_) (fun i _ hi af _=>?_)
  ·have:s.all (l6 s)=true:=by rw[jc];intro b ae;obtain⟨k,ad,e⟩:=nn ae;exact af k b ad (by rw[cf ad,e])
   rw[this];exact b0
  ·obtain⟨b,lW⟩:∃b,s[i]? =some b:=⟨_,cf hi⟩;have fY:∀h,(s[i]'h)=b:=fun h=>by rw[cf hi]at lW;exact fh lW
   have key:=Rf iw uM XV 159 [.eptr (.slice 5 .no (s.map ar.e)),.ptr (.obj 731) 0] (fun a=>by simp[iw,inObs,Pv.look]) (by simp) (uY s) (fun v a=>acP s au v a) b.t true;have gr:l6 s b=false→s.all (l6 s)=false:=fun h=>by rw[Bool.eq_false_iff];intro cr;rw[jc]at cr;rw[cr b (eK lW)]at h;cases h
   simp[hi,fY];(with_reducible repeat' first|refine aj ?_|simp[fY,hi]);(refine c4.ob (key) (by first|exact uM _|exact uM ‹_› _) (by simp only[iw,bT,bY];exact aR) (by simp only[iw,bT,bY];exact aR) (by simp[inObs,Pv.look,iw]) ?_;rintro r ai ⟨rfl,rfl⟩;refine⟨(Same.keys (by simp[iw]) (by simp[iw])),?_⟩;simp[cv,iw]);generalize ad1:b.t.fold (uY s) true=se;have w1:l6 s b=(se&& !(b.t.kind==1&&decide (b.v≤b.t.int))):=by unfold l6;rw[ad1]
   cases se with
   |false=>rw[gr (by rw[w1];rfl)];exact b0
   |true=>
    cases ad:(b.t.kind==1)with
    |false=>(with_reducible repeat' first|refine aj ?_|simp[ad]);refine bP.rng () hi (af.step lW (by rw[w1,ad];rfl)) ?_;exact b1
    |true=>
     by_cases hle:b.v≤b.t.int
     ·rw[gr (by rw[w1,ad];simp[hle])];exact b0
     ·(with_reducible repeat' first|refine aj ?_|simp[ad,hle]);refine bP.rng () hi (af.step lW (by rw[w1,ad];simp[hle])) ?_;exact b1
@[simp] theorem apc(S:aH→Prop):aJ S (jB [])=True:=eq_true (mr S [])
set_option maxRecDepth 4000 in
theorem ade(n:Nat)(s:List ar)(l r:List T)(au:l.length=r.length)(kn:s.length≤1000000)(xe:l.length≤1000000)(o:Option (List ar))(he:Av n (hq s++l.zip r)=some o)
  (hinv:∀c,pE n (hq s++l.zip r) bs.new=some (true,c)→(cp c.up).Nodup∧c.up.length≤1000000∧l5 c):bG al 186 [.slice 5 .no (s.map ar.e),.slice 4 .no (l.map T.e),.slice 4 .no (r.map T.e)] (fs o):=by
 obtain⟨E,dw⟩:∃E,E=hq s++l.zip r:=⟨_,rfl⟩;rw[←dw]at he hinv;simp only[Av,mF]at he;obtain⟨fin,y4,oa⟩:=he;have hlen:E.length=s.length+l.length:=by rw[dw];simp[hq,au]
 have adz:∀i b,s[i]? =some b→E.drop i=(.var b.v,b.t)::E.drop (i+1):=fun i b ae=>by
  have hi:=(fN.1 ae).1;have a1:E[i]? =some (.var b.v,b.t):=by rw[dw,List.getElem?_append_left (by simp[hq];exact hi)];simp[hq,ae]
  rw[la (by omega)];rw[cf (by omega)]at a1;simp only[dG]at a1;rw[a1]
 have ady:∀i a b,l[i]? =some a→r[i]? =some b→E.drop (s.length+i)=(a,b)::E.drop (s.length+(i+1)):=fun i a b bE ae=>by
  have hi:=(fN.1 bE).1;have a1:E[s.length+i]? =some (a,b):=by rw[dw,List.getElem?_append_right (by simp[hq])];simp[hq,List.getElem?_zip_eq_some,bE,ae]
  rw[la (by omega)];rw[cf (by omega)]at a1;simp only[dG]at a1;rw[a1];rfl
 refine bd WQ abc ahE fun aP=>?_;unfold OK;simp;refine c4.new ac0 (ea.of ui (by simp) (by simp)) (fun k cs h=>by simp[Pv.look]at h) (fun k cs h=>by simp[Pv.look]at h) (by simp) ?_;rintro r0 s0 ⟨rfl,rfl⟩;refine⟨fun m hm=>.inr (by simp),?_⟩;simp[aM,az,cv,aA];refine hR (α:=bs) (fun i c=>⟨[(1,.slice 4 .no (l.map T.e)),(2,.slice 4 .no (r.map T.e)),(8,aA),(13,.slice 5 .no (s.map ar.e)),(14,.int .i64 s.length),(15,.int .i64 i)],az c,[],0,[.obj 702,.obj 703,.obj 704,.obj 705,.obj 706,.obj 707]⟩) s.length (fun i c=>pE n (E.drop i) c=some fin) bs.new (by simp[aA,az];exact⟨by simp[fresh,aJ,aC,cd,inObs,Pv.look,aA,az,bs.new],dY (by simp[fresh,aJ,aC,cd,inObs,Pv.look,aA,az,bs.new]),dZ (by simp[fresh,aJ,aC,dP,inObs,Pv.look,aA,az,bs.new]),by simp⟩) (by simpa using y4) ?_ ?_
 ·rintro c J ae;simp[aA,az];refine hR (α:=bs) (fun i c=>⟨[(1,.slice 4 .no (l.map T.e)),(2,.slice 4 .no (r.map T.e)),(8,aA),(37,.int .i64 l.length),(38,.int .i64 i)],az c,[],0,[.obj 702,.obj 703,.obj 704,.obj 705,.obj 706,.obj 707]⟩) l.length (fun i c=>pE n (E.drop (s.length+i)) c=some fin) c (by simp[aA,az];exact⟨by simp[fresh,aJ,aC,cd,inObs,Pv.look,aA,az],dY (by simp[fresh,aJ,aC,cd,inObs,Pv.look,aA,az]),dZ (by simp[fresh,aJ,aC,dP,inObs,Pv.look,aA,az]),by simp⟩) J ?_ ?_
  ·rintro bH J ae;rw[List.drop_eq_nil_of_le (by omega)]at J;simp[pE]at J;subst J;simp at oa;obtain⟨a6,bz,bU⟩:=hinv bH y4;simp[aA,az];refine c4.ob (adf n bH o oa a6 bz bU) (cb _) (by simp only[aM,az];exact aR) (by simp only[aM,az];exact aR) (by simp[inObs,Pv.look,aM,az,aA]) ?_;rintro r0 s0 ⟨rfl,cl,rfl⟩;refine⟨Same.keys (by simp[aM,az]) (by simp[aM,az]),?_⟩;simp[cv,aM,az,fs];exact b0
  ·rintro i c hi J ae;simp only at J ae⊢;obtain⟨a,bE⟩:∃a,l[i]? =some a:=⟨_,cf hi⟩;obtain⟨b,fR⟩:∃b,r[i]? =some b:=⟨_,cf (by omega)⟩;have mR:∀h,(l[i]'h)=a:=fun h=>by rw[cf hi]at bE;exact fh bE
   have cJ:∀h,(r[i]'h)=b:=fun h=>by rw[cf h]at fR;exact fh fR
   have rf:i<r.length:=by omega
   rw[ady i a b bE fR]at J;simp only[pE,mF]at J;obtain⟨bH,U,cj,ao,⟨f,da⟩,a8,bZ⟩:=J;simp only at a8 bZ;have key:=Rh n _ _ _ _ a8;simp[aA,az];(with_reducible repeat' first|refine aj ?_|simp[mR,cJ,hi,rf]);(refine c4.ob (I3 c a bH U) (by first|exact cb _|exact cb ‹_› _) (by simp only[aM,az,aA,bT,bY];exact aR) (by simp only[aM,az,aA,bT,bY];exact aR) (by simp[inObs,Pv.look,aM,az,aA]) ?_;rintro r ai ⟨rfl,rfl⟩;refine⟨(Same.keys (by simp[aM,az,aA]) (by simp[aM,az,aA])),?_⟩;simp[cv,aM,az,aA]);(with_reducible repeat' first|refine aj ?_|simp[mR,cJ,hi,rf]);(refine c4.ob (I3 bH b cj ao) (by first|exact cb _|exact cb ‹_› _) (by simp only[aM,az,aA,bT,bY];exact aR) (by simp only[aM,az,aA,bT,bY];exact aR) (by simp[inObs,Pv.look,aM,az,aA]) ?_;rintro r ai ⟨rfl,rfl⟩;refine⟨(Same.keys (by simp[aM,az,aA]) (by simp[aM,az,aA])),?_⟩;simp[cv,aM,az,aA]);(with_reducible repeat' first|refine aj ?_|simp[mR,cJ,hi,rf]);(refine hX.ob (key) (by first|exact cb _|exact cb ‹_› _) (by first|exact cb _|exact cb ‹_› _) (Same.keys (by simp[aM,az,aA]) (by simp[aM,az,aA])) (by simp only[aM,az,aA,bT,bY];exact aR) (by simp only[aM,az,aA,bT,bY];exact aR) (by simp[inObs,Pv.look,aM,az,aA]) ?_;simp[cv,aM,az,aA]);cases f with
   |false=>simp at bZ;subst bZ;simp at oa;subst oa;(with_reducible repeat' first|refine aj ?_|simp);simp[bu,Lv,aX,aY,aV];simp[fs]
   |true=>simp at bZ;(with_reducible repeat' first|refine aj ?_|simp);refine bP.rng da hi bZ ?_;simp[aA,az];exact⟨by simp[fresh,aJ,aC,cd,inObs,Pv.look,aA,az],dY (by simp[fresh,aJ,aC,cd,inObs,Pv.look,aA,az]),dZ (by simp[fresh,aJ,aC,dP,inObs,Pv.look,aA,az]),by simp⟩
 ·rintro i c hi J ae;simp only at J ae⊢;obtain⟨b,aK,fY⟩:=ed hi;rw[adz i b aK]at J;simp only[pE,mF]at J;obtain⟨bH,U,cj,ao,⟨f,da⟩,a8,bZ⟩:=J;simp only[zG,T.foldO,gH]at U;obtain⟨⟨x,NW⟩,U,rfl⟩:=U;simp only at U ao a8 bZ;have key:=Rh n _ _ _ _ a8;simp[aA,az];(with_reducible repeat' first|refine aj ?_|simp[fY,hi]);(refine c4.ob (q0 c b.v x NW U) (by first|exact cb _|exact cb ‹_› _) (by simp only[aM,az,aA,bT,bY];exact aR) (by simp only[aM,az,aA,bT,bY];exact aR) (by simp[inObs,Pv.look,aM,az,aA]) ?_;rintro r ai ⟨rfl,rfl⟩;refine⟨(Same.keys (by simp[aM,az,aA]) (by simp[aM,az,aA])),?_⟩;simp[cv,aM,az,aA]);(with_reducible repeat' first|refine aj ?_|simp);(refine c4.ob (I3 NW b.t cj ao) (by first|exact cb _|exact cb ‹_› _) (by simp only[aM,az,aA,bT,bY];exact aR) (by simp only[aM,az,aA,bT,bY];exact aR) (by simp[inObs,Pv.look,aM,az,aA]) ?_;rintro r ai ⟨rfl,rfl⟩;refine⟨(Same.keys (by simp[aM,az,aA]) (by simp[aM,az,aA])),?_⟩;simp[cv,aM,az,aA]);(with_reducible repeat' first|refine aj ?_|refine aD (kO _) ?_|refine aE (kO _) ?_|simp);(refine hX.ob (key) (by first|exact cb _|exact cb ‹_› _) (by first|exact cb _|exact cb ‹_› _) (Same.keys (by simp[aM,az,aA]) (by simp[aM,az,aA])) (by simp only[aM,az,aA,bT,bY];exact aR) (by simp only[aM,az,aA,bT,bY];exact aR) (by simp[inObs,Pv.look,aM,az,aA]) ?_;simp[cv,aM,az,aA]);cases f with
  |false=>simp at bZ;subst bZ;simp at oa;subst oa;(with_reducible repeat' first|refine aj ?_|simp);simp[bu,Lv,aX,aY,aV];simp[fs]
  |true=>simp at bZ;(with_reducible repeat' first|refine aj ?_|simp);refine bP.rng da hi bZ ?_;simp[aA,az];exact⟨by simp[fresh,aJ,aC,cd,inObs,Pv.look,aA,az],dY (by simp[fresh,aJ,aC,cd,inObs,Pv.look,aA,az]),dZ (by simp[fresh,aJ,aC,dP,inObs,Pv.look,aA,az]),by simp⟩
theorem Xm(s:List ar)(l r:List T)(au:l.length=r.length)(ag:fG s)(aI:ho s)(av:pZ s)(xe:l.length≤1000000)(J:∀t∈l,t.ok=true)(U:∀t∈r,t.ok=true):
  bG al 186 [.slice 5 .no (s.map ar.e),.slice 4 .no (l.map T.e),.slice 4 .no (r.map T.e)] (fs (mgu s (l.zip r))):=by
 have dw:∀e∈hq s++l.zip r,e.1.ok=true∧e.2.ok=true:=fun e he=>by
  rcases jU.1 he with he|he
  ·obtain⟨b,ae,rfl⟩:=h8.1 he;have:=av b ae;exact⟨by simpa[T.ok]using this.1,this.2⟩
  ·exact⟨J _ (List.of_mem_zip he).1,U _ (List.of_mem_zip he).2⟩
 have bB:KV (hq s++l.zip r):=fun e he v aK=>by
  rcases aK with aK|aK
  ·exact(wk (dw e he).1 aK).1
  ·exact(wk (dw e he).2 aK).1
 obtain⟨n,o,a6,bz,bU⟩:=akS _ bB;rw[rD (X2.1 bz)];refine ade n s l r au (by have:=aI.1;omega) xe o a6 fun c ay=>?_;obtain⟨bD,a2,a3⟩:=bU c ay;have:=Tl bD fun v aK=>by
  obtain⟨e,he,aK⟩:=a2 v aK;rcases aK with aK|aK
  ·exact wk (dw e he).1 aK
  ·exact wk (dw e he).2 aK
 refine⟨bD,by simp[cp]at this;omega,fun x=>?_⟩;simp[bs.sz,a3,c1]
structure eA (s:List ar):Prop where
 ok:pZ s
 sol:fG s
 fits:ho s
theorem eA.len{s:List ar}(h:eA s):s.length≤1000000:=by have:=h.fits.1;omega
theorem eA.fit{s:List ar}(h:eA s):yP s:=fun b ae=>by simp[T.fit,(h.ok b ae).2,h.fits.2 b ae]
theorem eA.mgu{s:List ar}(h:eA s){E:List (T×T)}(dw:∀e∈E,e.1.ok=true∧e.2.ok=true){ai:List ar}(hm:mgu s E=some ai):eA ai:=⟨agx h.sol h.fits h.ok dw hm,(zH h.sol h.fits hm).1,(zH h.sol h.fits hm).2⟩
theorem xF(s:List ar):(s.map ar.b).map cW.e=s.map ar.e:=by rw[List.map_map];exact List.map_congr_left fun b _=>ar.b_e b
theorem oL{s:List ar}(h:eA s):bG al 86 [.slice 5 .no (s.map ar.e)] (.bool true):=by have:=MG (s.map ar.b);rw[xF,qL.2 ⟨s,rfl,h.ok,h.sol,h.fits⟩]at this;exact this
def afJ(t:List ar)(i:Nat)(p:List T×List T):Prop:=p.1=(t.take i).map (fun b=>T.var b.v)∧p.2=(t.take i).map (·.t)
theorem alU(t:List ar)(aN:t.length≤1000000):bG al 205 [.slice 5 .no (t.map ar.e)] (.tuple [.slice 4 .no ((t.map fun b=>T.var b.v).map T.e),.slice 4 .no ((t.map (·.t)).map T.e)]):=by
 generalize bh:((t.map fun b=>T.var b.v).map T.e)=R1;generalize kj:((t.map fun x=>x.t).map T.e)=R2;have gp:∀S:aH→Prop,aJ S R1=True:=fun S=>by rw[←bh];exact Tu S _
 have kX:∀S:aH→Prop,aJ S R2=True:=fun S=>by rw[←kj];exact Tu S _
 refine bG.mk mixed qM aaZ ahr (by simp) (by simp[aC,gp,kX]) fun aP=>?_;unfold Ox;simp;refine hR (α:=List T×List T) (fun i p=>⟨[(10,.slice 5 .no (t.map ar.e)),(11,.int .i64 t.length),(4,.slice 4 (.own (.loc 0)) (p.1.map T.e)),(5,.slice 4 (.own (.loc 1)) (p.2.map T.e)),(12,.int .i64 i)],[],[(.loc 0,⟨p.1.length,30,4,none⟩),(.loc 1,⟨p.2.length,30,4,none⟩)],2,[]⟩) t.length (afJ t) ([],[]) b1 ⟨by simp,by simp⟩ (fun p af _=>?_) (fun i p hi af _=>?_)
 ·obtain⟨A,B⟩:=p;obtain⟨bg,kF⟩:=af;simp only at bg kF⊢;rw[hn (eR _)]at bg kF;rw[←bh,←kj,←bg,←kF];simp;(with_reducible repeat' first|refine aj ?_|simp);simp[bu,Vl,aX,aY,aV]
 ·obtain⟨A,B⟩:=p;obtain⟨bg,kF⟩:=af;simp only at bg kF⊢;obtain⟨b,aK,fY⟩:=ed hi;have vp:t.take (i+1)=t.take i++[b]:=by rw[List.take_succ,aK];rfl
  have adw:A.length≤1000000:=by rw[bg];simp;omega
  have adx:B.length≤1000000:=by rw[kF];simp;omega
  simp[hi,fY];((with_reducible repeat' first|refine aj ?_|refine aD (kO _) ?_|refine aE (kO _) ?_|simp[fY,hi]|((first|apply bM|apply bR|apply bQ)<;>intro h<;>try simp at h))<;>(try exact ch));all_goals first|(refine⟨by unfold lim;omega,?_⟩)|skip
  (with_reducible repeat' first|refine aj ?_|simp);all_goals first|(refine⟨by unfold lim;omega,?_⟩)|skip
  (with_reducible repeat' first|refine aj ?_|simp);refine bP.rng (A++[.var b.v],B++[b.t]) hi ⟨by rw[vp,bg];simp,by rw[vp,kF];simp⟩ ?_;simp;exact⟨by simp[fresh,aJ,aC,cd,inObs,Pv.look,iW],dY (by simp[fresh,aJ,aC,cd,inObs,Pv.look,iW]),dZ (by simp[fresh,aJ,aC,dP,inObs,Pv.look,iW]),by simp⟩
theorem alz{s t:List ar}(ag:eA s)(aN:eA t):bG al 165 [.slice 5 .no (s.map ar.e),.slice 5 .no (t.map ar.e)] (fs (mgu s (hq t))):=by
 have br:(t.map fun b=>T.var b.v).zip (t.map (·.t))=hq t:=by rw[hq,List.zip_map']
 have key:=Xm s (t.map fun b=>T.var b.v) (t.map (·.t)) (by simp) ag.sol ag.fits ag.ok (by simpa using aN.len) (fun x ab=>by
  obtain⟨b,ae,rfl⟩:=h8.1 ab;have:=aN.ok b ae;simpa[T.ok]using this.1) (fun x ab=>by
  obtain⟨b,ae,rfl⟩:=h8.1 ab;exact(aN.ok b ae).2)
 rw[br]at key;have heq:=alU t aN.len;generalize (t.map fun b=>T.var b.v)=A at key heq;generalize (t.map fun x=>x.t)=B at key heq;refine bd qM aaA ag2 fun aP=>?_;unfold N3;simp;(with_reducible repeat' first|refine aj ?_|refine aD (oL ag) ?_|refine aE (oL ag) ?_|refine aD (oL aN) ?_|refine aE (oL aN) ?_|refine aD heq ?_|refine aE heq ?_|refine aD key ?_|refine aE key ?_|simp);simp[bu,U7,aX,aY,aV];simp[fs]
theorem oH{α:Type}{t:List α}{i:Nat}{b:α}(aK:t[i]? =some b):t.take (i+1)=t.take i++[b]:=by rw[List.take_succ,aK];rfl
def eF(s t:List ar):List ar:=t.filter fun b=>(di s b.v).isNone
def qB(s t:List ar)(i:Nat)(out:List ar):Prop:=out=eF s (t.take i)
theorem W0{s t:List ar}(ag:eA s)(aN:eA t):bG al 166 [.slice 5 .no (s.map ar.e),.slice 5 .no (t.map ar.e)] (.slice 5 .no ((eF s t).map ar.e)):=by
 have ae1:=aN.len;generalize bh:eF s t=R;refine bd qM aaF ag7 fun aP=>?_;unfold N8;simp;(with_reducible repeat' first|refine aj ?_|refine aD (oL ag) ?_|refine aE (oL ag) ?_|refine aD (oL aN) ?_|refine aE (oL aN) ?_|simp);refine hR (α:=List ar) (fun i out=>⟨[(0,.slice 5 .no (s.map ar.e)),(17,.slice 5 .no (t.map ar.e)),(18,.int .i64 t.length),(5,.slice 5 (.own (.loc 0)) (out.map ar.e)),(19,.int .i64 i)],[],[(.loc 0,⟨out.length,113,5,none⟩)],1,[]⟩) t.length (qB s t) [] b1 (by simp[qB,eF]) (fun out af _=>?_) (fun i out hi af _=>?_)
 ·rw[qB,hn (eR _),bh]at af;rw[←af];exact b0
 ·obtain⟨b,aK,fY⟩:=ed hi;have zf:out.length≤1000000:=by
   have:out.length≤(t.take i).length:=by rw[af];exact List.length_filter_le _ _
   simp at this;omega
  have qq:=Q4 ag.sol.asc b.v;simp[hi,fY];by_cases ae:mM s b.v<0
  ·(with_reducible repeat' first|refine aj ?_|refine aD (s9 s b.v ag.len) ?_|refine aE (s9 s b.v ag.len) ?_|refine aD (s7 _) ?_|refine aE (s7 _) ?_|simp[fY,hi,ae]);all_goals first|(refine⟨by unfold lim;omega,?_⟩)|skip
   (with_reducible repeat' first|refine aj ?_|simp);refine bP.rng (out++[b]) hi (by rw[qB,oH aK,eF,List.filter_append,af];simp[eF,qq.1 ae]) ?_;simp;exact⟨by simp[fresh,aJ,aC,cd,inObs,Pv.look,iW],dY (by simp[fresh,aJ,aC,cd,inObs,Pv.look,iW]),dZ (by simp[fresh,aJ,aC,dP,inObs,Pv.look,iW]),by simp⟩
  ·(with_reducible repeat' first|refine aj ?_|refine aD (s9 s b.v ag.len) ?_|refine aE (s9 s b.v ag.len) ?_|simp[fY,hi,ae]);refine bP.rng out hi (by
    have:di s b.v≠none:=fun e=>ae (qq.2 e);rw[qB,oH aK,eF,List.filter_append,af];cases e:di s b.v with
    |none=>exact absurd e this
    |some x=>simp[eF,e]) ?_
   exact b1
def Fh(t:List ar)(i:Nat)(out:List ar):Prop:=out=t.take i
theorem G3(t:List ar)(aN:t.length≤1000000):bG al 168 [.slice 5 .no (t.map ar.e)] (.slice 5 .no (t.map ar.e)):=by
 refine bd qM aaW aho fun aP=>?_;unfold Ou;simp;refine hR (α:=List ar) (fun i out=>⟨[(7,.slice 5 .no (t.map ar.e)),(8,.int .i64 t.length),(3,.slice 5 (.own (.loc 0)) (out.map ar.e)),(9,.int .i64 i)],[],[(.loc 0,⟨out.length,113,5,none⟩)],1,[]⟩) t.length (Fh t) [] b1 (by simp[Fh]) (fun out af _=>?_) (fun i out hi af _=>?_)
 ·rw[Fh,hn (eR _)]at af;subst af;exact b0
 ·obtain⟨b,aK,fY⟩:=ed hi;have zf:out.length≤1000000:=by rw[af];simp;omega
  simp[hi,fY];(with_reducible repeat' first|refine aj ?_|refine aD (s7 _) ?_|refine aE (s7 _) ?_|simp[fY,hi]);all_goals first|(refine⟨by unfold lim;omega,?_⟩)|skip
  (with_reducible repeat' first|refine aj ?_|simp);refine bP.rng (out++[b]) hi (by rw[Fh,oH aK,af]) ?_;simp;exact⟨by simp[fresh,aJ,aC,cd,inObs,Pv.look,iW],dY (by simp[fresh,aJ,aC,cd,inObs,Pv.look,iW]),dZ (by simp[fresh,aJ,aC,dP,inObs,Pv.look,iW]),by simp⟩
def rC(t:List ar)(b:ar):Bool:=decide (cA t b.v=b.t.ap (cA t))
def na(s t:List ar):Bool:=s.all (rC t)
theorem C4{t:List ar}(aN:eA t)(v:Int):(cA t v).size≤5000:=by
 unfold cA;cases e:di t v with
 |none=>simp[T.size]
 |some x=>exact aN.fits.2 _ (jY e)
theorem Xi(s:List ar){t:List ar}(ag:s.length≤1000000)(aN:eA t):bG al 208 [.slice 5 .no (s.map ar.e),.slice 5 .no (t.map ar.e)] (.bool (na s t)):=by
 refine bd qM aa2 ahu fun aP=>?_;unfold OA;simp;refine dV [1,11,12] (fun i (_:Unit)=>[(13,.int .i64 i)]) s.length (pd (rC t) s) () b1 (fun k b ad=>by omega) (fun _ af _=>?_) (fun i _ hi af _=>?_)
 ·have:na s t=true:=by rw[na,jc];intro b ae;obtain⟨k,ad,e⟩:=nn ae;exact af k b ad (by rw[cf ad,e])
  rw[this];exact b0
 ·obtain⟨b,aK,fY⟩:=ed hi;have gr:rC t b=false→na s t=false:=fun h=>by rw[Bool.eq_false_iff];intro cr;rw[na,jc]at cr;rw[cr b (eK aK)]at h;cases h
  have aS:=Hb t (.var b.v) aN.len aN.sol.asc aN.fit;have bp:=Hb t b.t aN.len aN.sol.asc aN.fit;have xq:=C4 aN b.v;have E9:((T.var b.v).ap (cA t)).size≤5000:=xq;rw[if_pos E9,jd E9]at aS;rw[show(T.var b.v).ap (cA t)=cA t b.v from rfl]at aS;simp[hi,fY];by_cases br:(b.t.ap (cA t)).size≤5000
  ·rw[if_pos br,jd br]at bp;by_cases he:cA t b.v=b.t.ap (cA t)
   ·rw[he]at aS;(with_reducible repeat' first|refine aj ?_|refine aD (kO _) ?_|refine aE (kO _) ?_|refine aD aS ?_|refine aE aS ?_|refine aD bp ?_|refine aE bp ?_|refine aD (s8 _ _) ?_|refine aE (s8 _ _) ?_|simp[fY,hi,he]);exact bP.rng () hi (af.step aK (by simp[rC,he])) b1
   ·rw[gr (by simp[rC,he])];(with_reducible repeat' first|refine aj ?_|refine aD (kO _) ?_|refine aE (kO _) ?_|refine aD aS ?_|refine aE aS ?_|refine aD bp ?_|refine aE bp ?_|refine aD (s8 _ _) ?_|refine aE (s8 _ _) ?_|simp[fY,hi,he]);simp[bu,Ls,aX,aY,aV]
  ·rw[if_neg br,jn br]at bp;rw[gr (by simp only[rC,hE];intro e;rw[←e]at br;exact br xq)];(with_reducible repeat' first|refine aj ?_|refine aD (kO _) ?_|refine aE (kO _) ?_|refine aD aS ?_|refine aE aS ?_|refine aD bp ?_|refine aE bp ?_|refine aD (s8 _ _) ?_|refine aE (s8 _ _) ?_|simp[fY,hi]);simp[bu,Ls,aX,aY,aV]
theorem Cj(c:ar→ar→Int):∀a b:List ar,a=[]∨b=[]→jN c a b=ez a.length b.length
 |[],[],_=>by simp[jN,ez]
 |[],_::_,_=>by simp[jN,ez]<;>omega
 |_::_,[],_=>by simp[jN,ez]<;>omega
 |_::_,_::_,h=>by simp at h
theorem UM(x y:ar)(xs ys:List ar):ey (x::xs) (y::ys)=if ez x.v y.v=0 then(if eu x.t y.t=0 then ey xs ys else eu x.t y.t)else ez x.v y.v:=by
 by_cases a6:ez x.v y.v=0
 ·by_cases bz:eu x.t y.t=0<;>simp[ey,jN,xQ,a6,bz]
 ·simp[ey,jN,xQ,a6]
theorem UN(a b k:Int):ez (a-k) (b-k)=ez a b:=by unfold ez;(repeat' split)<;>omega
def Ka(d e:List ar)(i:Nat):Prop:=i≤d.length∧i≤e.length∧ey (d.drop i) (e.drop i)=ey d e
theorem G9(d e:List ar):bG al 207 [.slice 5 .no (d.map ar.e),.slice 5 .no (e.map ar.e)] (.int .i64 (ey d e)):=by
 generalize bh:ey d e=R;refine bd qM aa5 ahx fun aP=>?_;unfold OD;have aQ:d.length≤68719476736:=by simp[eC,ec,ev,lim]at aP;omega
 have he:e.length≤68719476736:=by simp[eC,ec,ev,lim]at aP;omega
 simp;refine u1 [0,1] (fun(i:Nat)=>[(5,.int .i64 i)]) (fun i=>d.length-i) (Ka d e) 0 b1 ⟨by omega,by omega,by simp⟩ (fun i af _=>?_);obtain⟨J,U,ao⟩:=af;rw[bh]at ao;by_cases hi:i<d.length
 ·by_cases hv:i<e.length
  ·obtain⟨x,ab⟩:∃x,d[i]? =some x:=⟨_,cf hi⟩;obtain⟨y,aG⟩:∃y,e[i]? =some y:=⟨_,cf hv⟩;have cy:∀h,(d[i]'h)=x:=fun h=>by rw[cf hi]at ab;exact fh ab
   have eP:∀h,(e[i]'h)=y:=fun h=>by rw[cf hv]at aG;exact fh aG
   have y2:d.drop i=x::d.drop (i+1):=by rw[la hi,cy]
   have y3:e.drop i=y::e.drop (i+1):=by rw[la hv,eP]
   rw[y2,y3]at ao;rw[UM]at ao;simp[hi,hv,cy,eP];by_cases a6:ez x.v y.v=0
   ·rw[if_pos a6]at ao;by_cases bz:eu x.t y.t=0
    ·rw[if_pos bz]at ao;(with_reducible repeat' first|refine aj ?_|refine aD (nM _ _) ?_|refine aE (nM _ _) ?_|refine aD (AH _ _) ?_|refine aE (AH _ _) ?_|simp[cy,eP,hi,hv,a6,bz]);refine bP.whl (i+1) (by omega) ⟨by omega,by omega,by rw[bh];exact ao⟩ ?_;exact b1
    ·rw[if_neg bz]at ao;((with_reducible repeat' first|refine aj ?_|refine aD (nM _ _) ?_|refine aE (nM _ _) ?_|refine aD (AH _ _) ?_|refine aE (AH _ _) ?_|simp[cy,eP,hi,hv,a6,bz]|((first|apply bM|apply bR|apply bQ)<;>intro h<;>try simp at h))<;>(try exact ch));simp[bu,CQ,aX,aY,aV];exact ao
   ·rw[if_neg a6]at ao;((with_reducible repeat' first|refine aj ?_|refine aD (nM _ _) ?_|refine aE (nM _ _) ?_|simp[cy,eP,hi,hv,a6]|((first|apply bM|apply bR|apply bQ)<;>intro h<;>try simp at h))<;>(try exact ch));simp[bu,CQ,aX,aY,aV];exact ao
  ·have:ez d.length e.length=R:=by rw[←ao,ey,Cj _ _ _ (.inr (List.drop_eq_nil_of_le (by omega)))];rw[←UN d.length e.length i];simp only[r1];congr 1<;>omega
   simp[hi,hv];(with_reducible repeat' first|refine aj ?_|refine aD (nM _ _) ?_|refine aE (nM _ _) ?_|simp[hi,hv]);simp[bu,CQ,aX,aY,aV];exact this
 ·have:ez d.length e.length=R:=by rw[←ao,ey,Cj _ _ _ (.inl (List.drop_eq_nil_of_le (by omega)))];rw[←UN d.length e.length i];simp only[r1];congr 1<;>omega
  simp[hi];(with_reducible repeat' first|refine aj ?_|refine aD (nM _ _) ?_|refine aE (nM _ _) ?_|simp[hi]);simp[bu,CQ,aX,aY,aV];exact this
theorem MI(a b:List ar)(bE:a.length≤1000000):bG al 169 [.slice 5 .no (a.map ar.e),.slice 5 .no (b.map ar.e)] (.bool (decide (a=b))):=by
 by_cases au:a.length=b.length;rotate_left
 ·have bB:decide (a=b)=false:=by simp only[hE];rintro rfl;exact au rfl
  have ss:((a.length:Int) !=(b.length:Int))=true:=by simp;omega
  have oc:¬(a.length:Int)=b.length:=by omega
  rw[bB];refine bd qM QK Uz fun aP=>?_;unfold HR;exact b0
 ·generalize bh:decide (a=b)=R;refine bd qM QK Uz fun aP=>?_;unfold HR;simp;(with_reducible repeat' first|refine aj ?_|simp[au]);refine dV [0,1,12] (fun i (_:Unit)=>[(13,.int .i64 i)]) b.length (fun i (_:Unit)=> ∀k,k<i→a[k]? =b[k]?) () b1 (fun k ad=>by omega) (fun _ af _=>?_) (fun i _ hi af _=>?_)
  ·have:R=true:=by
    rw[←bh,fE];apply List.ext_getElem?;intro k;by_cases ad:k<b.length
    ·exact af k ad
    ·rw[p7 (by omega),p7 (by omega)]
   rw[this];exact b0
  ·obtain⟨x,ab⟩:∃x,a[i]? =some x:=⟨_,cf (by omega)⟩;obtain⟨y,aG⟩:∃y,b[i]? =some y:=⟨_,cf hi⟩;have gh:i<a.length:=by omega
   have cy:∀h,(a[i]'h)=x:=fun h=>by rw[cf gh]at ab;exact fh ab
   have eP:∀h,(b[i]'h)=y:=fun h=>by rw[cf hi]at aG;exact fh aG
   have gr:x≠y→R=false:=fun h=>by rw[←bh,hE];rintro rfl;rw[ab]at aG;cases aG;exact h rfl
   simp[hi,gh,cy,eP];by_cases a6:x.v=y.v
   ·have sQ:(x.v !=y.v)=false:=by simp[a6]
    by_cases bz:x.t=y.t
    ·(with_reducible repeat' first|refine aj ?_|refine aD (s8 _ _) ?_|refine aE (s8 _ _) ?_|simp[cy,eP,hi,gh,a6,sQ,bz]);refine bP.rng () hi (fun k ad=>?_) ?_
     ·rcases(by omega:k<i∨k=i)with h|rfl
      ·exact af k h
      ·rw[ab,aG];cases x;cases y;simp_all
     ·exact b1
    ·rw[gr (fun e=>bz (by rw[e]))];(with_reducible repeat' first|refine aj ?_|refine aD (s8 _ _) ?_|refine aE (s8 _ _) ?_|simp[cy,eP,hi,gh,a6,sQ,bz]);simp[bu,Vj,aX,aY,aV]
   ·have sQ:(x.v !=y.v)=true:=by simp[a6]
    rw[gr (fun e=>a6 (by rw[e]))];exact b0
def iH(l:List (List ar))(e:List ar):Bool:=l.all fun d=>decide (d=e)|| !na d e
theorem afN{l aZ:List (List ar)}(h:∀x,x∈l↔x∈aZ)(e:List ar):iH l e=iH aZ e:=by rw[p5,iH,iH,jc,jc];exact⟨fun J x ab=>J x ((h x).2 ab),fun J x ab=>J x ((h x).1 ab)⟩
def kJ(l:List (List ar)):List (List ar):=(asc ey l).filter (iH l)
theorem zI{l:List (List ar)}{x:List ar}:x∈kJ l↔x∈l∧iH l x=true:=by rw[kJ,mD,T3]
theorem Uc(l:List (List ar)):hF ey (kJ l):=(HC lC l).filter _
theorem Ud{l aZ:List (List ar)}(bE:hF ey aZ)(hm:∀x,x∈aZ↔x∈l∧iH l x=true):kJ l=aZ:=(Uc l).ext lC bE fun x=>by rw[hm,zI]
structure cX where
 n:Int
 b:List ar
 d:List (List ar)
 k:List bJ
 m:List bj
 deriving DecidableEq,Inhabited
noncomputable def gC(b:List ar)(k:List bJ)(m:List bj):List (List ar)→Option (List (List ar))
 |[]=>some []
 |d::r=>match mgu b (hq d)with
  |none=>gC b k m r
  |some x=>if ga x k []=none∨gb x m []=none then gC b k m r else if eF b x=[]then none else(gC b k m r).map (eF b x:: ·)
def kt(k:List bJ)(x:bj):Bool:=k2 k x.v !=some 3
noncomputable def ik(s:cX):Option cX:=match ga s.b s.k []with
 |none=>none
 |some k=>match gb s.b s.m []with
  |none=>none
  |some m=>match gC s.b k (m.filter (kt k)) s.d with
   |none=>none
   |some L=>if(kJ L).length≤30 then some ⟨s.n,s.b,kJ L,k,m.filter (kt k)⟩else none
def wH(t:T)(n:Int):Prop:= ∀v,t.occ v=true→v<n
def pC(l:List ar)(n:Int):Prop:= ∀b∈l,b.v<n∧wH b.t n
structure oD (s:cX):Prop where
 n:0≤s.n∧s.n≤100000
 b:eA s.b
 d:∀x∈s.d,eA x
 k:iV s.k
 m:hC s.m
 bb:pC s.b s.n
 db:∀x∈s.d,pC x s.n
 kb:∀x∈s.k,x.v<s.n
 mb:∀x∈s.m,x.v<s.n
def rN(s:cX):Prop:=oD s∧ik s=some s
theorem Aq{s:List ar}(ag:eA s){v:Int}(aK:0≤v∧v≤100000):(cA s v).ok=true:=by have:=GJ ag.ok (t:= .var v) (by simpa[T.ok]using aK);exact this
theorem Gq{s:List ar}(ag:eA s):∀{l acc a:List bJ},(∀x∈l,(0≤x.v∧x.v≤100000)∧(x.k=2∨x.k=3))→iV acc→ga s l acc=some a→iV a
 |[],acc,a,_,h,he=>by simp only[ga,dG]at he;rw[←he];exact h
 |x::r,acc,a,au,h,he=>by
  simp only[ga]at he;split at he
  ·rename_i bD ak;have ab:=au x (by simp);exact Gq ag (fun y aG=>au y (by simp[aG])) (Hv h (Aq ag ab.1) ab.2 ak) he
  ·cases he
theorem Gr{s:List ar}(ag:eA s):∀{l acc a:List bj},(∀x∈l,(0≤x.v∧x.v≤100000)∧jy x.s=true)→hC acc→gb s l acc=some a→hC a
 |[],acc,a,_,h,he=>by simp only[gb,dG]at he;rw[←he];exact h
 |x::r,acc,a,au,h,he=>by
  simp only[gb]at he;split at he
  ·rename_i bD ak;have ab:=au x (by simp);exact Gr ag (fun y aG=>au y (by simp[aG])) (Hx h (Aq ag ab.1) ab.2 ak) he
  ·cases he
def nI(G:List (List dB))(l:List bj):Prop:= ∀x∈l,x.s∈G
theorem Hy{G:List (List dB)}{l aZ:List bj}{t:T}{s:List dB}(h:nI G l)(ag:s∈G)(he:lL l t s=some aZ):nI G aZ:=fun x ab=>by
 rcases(Cq he x).1 ab with J|⟨J,_⟩
 ·exact h x J
 ·rw[J];exact ag
theorem Gs{G:List (List dB)}{s:List ar}:∀{l acc a:List bj},nI G l→nI G acc→gb s l acc=some a→nI G a
 |[],acc,a,_,h,he=>by simp only[gb,dG]at he;rw[←he];exact h
 |x::r,acc,a,au,h,he=>by
  simp only[gb]at he;split at he
  ·rename_i bD ak;exact Gs (fun y aG=>au y (by simp[aG])) (Hy h (au x (by simp)) ak) he
  ·cases he
theorem ai1{α:Type}[DecidableEq α]:∀{G:List α} {l:List (Nat×α)},l.Nodup→(∀x∈l,x.1<100001∧x.2∈G)→l.length≤100001*G.length:=by
 intro G l aw h;have:=M9 aw (l₂:=(List.range 100001).flatMap fun i=>G.map fun g=>(i,g)) (fun x ab=>by obtain⟨J,U⟩:=h x ab;rw[List.mem_flatMap];exact⟨x.1,List.mem_range.2 J,h8.2 ⟨x.2,U,rfl⟩⟩)
 have e:((List.range 100001).flatMap fun i=>G.map fun g=>(i,g)).length=100001*G.length:=by
  generalize 100001=n;induction n with
  |zero=>simp
  |succ n bS=>rw[List.range_succ,List.flatMap_append,pq,bS];simp[Nat.succ_mul]
 omega
theorem Co{G:List (List dB)}{l:List bj}(h:hC l)(a1:nI G l):l.length≤100001*G.length:=by
 have J:(l.map fun x=>(x.v.toNat,x.s)).Nodup:=by rw[List.nodup_iff_pairwise_ne,List.pairwise_map];refine am3 (fun{a b} bE ae cF e=>cF ?_) (h.asc.nodup lD);have:=(h.at' a bE).1;have:=(h.at' b ae).1;simp only[jm]at e;cases a;cases b;simp only[bj.mk.injEq];simp only at*;exact⟨by omega,e.2⟩
 have:=ai1 (G:=G) J fun x ab=>by obtain⟨y,aG,rfl⟩:=h8.1 ab;have:=(h.at' y aG).1;exact⟨by simp;omega,a1 y aG⟩
 simpa using this
def jG(m:List bj):Prop:= ∃G:List (List dB),G.length≤687000∧nI G m
theorem jG.len{m:List bj}(h:jG m)(hm:hC m):m.length≤68719470000:=by obtain⟨G,J,U⟩:=h;have:=Co hm U;omega
theorem jG.of{m:List bj}(h:m.length≤687000):jG m:=⟨m.map (·.s),by simpa using h,fun _ ab=>List.mem_map_of_mem ab⟩
theorem akt{s:List ar}(h:eA s)(p:ar→Bool):eA (s.filter p):=by
 have mW:∀b∈s.filter p,b∈s:=fun b ae=>(mD.1 ae).1;have aw:∀w,di s w=none→di (s.filter p) w=none:=fun w hw=>by rw[uQ]at hw⊢;exact fun b ae=>hw b (mW b ae)
 exact⟨fun b ae=>h.ok b (mW b ae),⟨XF p h.sol.asc,fun b ae w hw=>aw w (h.sol.free b (mW b ae) w hw),fun b ae=>h.sol.ori b (mW b ae)⟩,
  jV (List.length_filter_le _ _) h.fits.1,fun b ae=>h.fits.2 b (mW b ae)⟩
theorem Cw{b x:List ar}(h:eA x):eA (eF b x):=akt h _
theorem agU{b x:List ar}(ae:fG b)(ab:fG x)(aI:ho x)(h:∀aO,gJ x aO→gJ b aO):iz b (hq (eF b x)) (some x):=by
 refine⟨⟨ab,aI⟩,fun aO=>⟨fun hh=>⟨h aO hh,fun e he=>?_⟩,fun⟨J,U⟩ c ay=>?_⟩⟩
 ·obtain⟨c,ay,rfl⟩:=h8.1 he;exact hh c (mD.1 ay).1
 ·have kl:∀c∈x,di b c.v=none→aO c.v=c.t.ap aO:=fun c ay aw=>by have:=U (.var c.v,c.t) (h8.2 ⟨c,mD.2 ⟨ay,by simp[aw]⟩,rfl⟩);exact this
  have w8:∀w,di b w=none→(cA x w).ap aO=aO w:=fun w hw=>by
   unfold cA;cases e:di x w with
   |none=>rfl
   |some t=>have hm:=jY e;exact(kl _ hm hw).symm
  cases e:di b c.v with
  |none=>exact kl c ay e
  |some t=>
   have ak:aO c.v=t.ap aO:=J _ (jY e);have aB:=h (cA x) (x6 ab) _ (jY e);simp only at aB;have bf:cA x c.v=c.t:=by unfold cA;rw[tq ab.asc ay];rfl
   rw[bf]at aB;rw[ak,aB,AV];exact tn fun w hw=>(w8 w (ae.free _ (jY e) w hw)).symm
theorem agy{s:List ar}(ag:fG s)(aI:ho s){E:List (T×T)}{x:List ar}(h:mgu s E=some x):∀aO,gJ x aO↔gJ s aO∧js E aO:=by have:=FM ag aI E;rw[h]at this;exact this.2
theorem Ua{s:List ar}(ag:fG s)(aI:ho s){E:List (T×T)}{x:List ar}(h:mgu s E=some x):mgu s (hq (eF s x))=some x:=rD (agU ag (zH ag aI h).1 (zH ag aI h).2 fun aO hh=>((agy ag aI h aO).1 hh).1)
theorem Ub(p:Int→Prop){E:List (T×T)}:∀{s ai:List ar},fG s→ho s→(∀b∈s,p b.v∧∀w,b.t.occ w=true→p w)→(∀e∈E,(∀w,e.1.occ w=true→p w)∧∀w,e.2.occ w=true→p w)→mgu s E=some ai→∀b∈ai,p b.v∧∀w,b.t.occ w=true→p w:=by
 induction E with
 |nil=>intro s ai ag aI J _ h;rw[FL ag aI]at h;cases h;exact J
 |cons e E bS=>
  intro s ai ag aI J U h;rw[KL ag aI]at h;split at h
  ·rename_i s1 ak;obtain⟨V,j1⟩:∃V,V=s.flatMap (fun b=>b.v::nl b.t)++nl e.1++nl e.2:=⟨_,rfl⟩;have RD:∀w∈V,p w:=by
    intro w hw;rw[j1]at hw;simp only[jU,List.mem_flatMap,fU]at hw;rcases hw with(⟨b,ae,rfl|hw⟩|hw)|hw
    ·exact(J b ae).1
    ·exact(J b ae).2 w (Dl.1 hw)
    ·exact(U e (by simp)).1 w (Dl.1 hw)
    ·exact(U e (by simp)).2 w (Dl.1 hw)
   obtain⟨n,o,h7,iL,p1⟩:=WS V _ _ s e.1 e.2 ag aI (fun c ay=>⟨by rw[j1];simp only[jU,List.mem_flatMap];exact .inl (.inl ⟨c,ay,by simp⟩),fun w hw=>by rw[j1];simp only[jU,List.mem_flatMap];exact .inl (.inl ⟨c,ay,by simp[xG hw]⟩)⟩)
    (fun w hw=>by rw[j1];simp only[jU];exact .inl (.inr (xG hw))) (fun w hw=>by rw[j1];simp only[jU];exact .inr (xG hw)) rfl rfl
   have yd:=rD iL;rw[ak]at yd;subst yd;obtain⟨WR,_⟩:=p1 s1 rfl;have pa:=zH ag aI ak;exact bS pa.1 pa.2 (fun b ae=>⟨RD _ (WR b ae).1,fun w hw=>RD w ((WR b ae).2 w hw)⟩) (fun fL he=>U fL (by simp[he])) h
  ·cases h
theorem akz{s:List ar}(ag:fG s){v n:Int}(h:cA s v= .var n):di s n=none:=by have:=Mf ag (t:= .var v) (w:=n) (by show(cA s v).occ n=true;rw[h];simp[T.occ]);exact this
theorem Ns{l aZ:List bJ}{t:T}{k:Int}(h:ka l t k=some aZ):∀x∈aZ,x∈l∨t= .var x.v:=by
 unfold ka at h;split at h
 ·rename_i n;split at h
  ·split at h
   ·cases h;exact fun x ab=>.inl ab
   ·cases h
  ·cases h;intro x ab;rcases FJ.1 ab with rfl|ab
   ·exact .inr rfl
   ·exact .inl ab
 ·split at h
  ·cases h;exact fun x ab=>.inl ab
  ·cases h
theorem VN{s:List ar}(ag:fG s):∀{l acc a:List bJ},(∀x∈acc,di s x.v=none)→ga s l acc=some a→∀x∈a,di s x.v=none
 |[],acc,a,h,he=>by simp only[ga,dG]at he;rw[←he];exact h
 |y::r,acc,a,h,he=>by
  simp only[ga]at he;split at he
  ·rename_i bD ak;refine VN ag (fun x ab=>?_) he;rcases Ns ak x ab with J|J
   ·exact h x J
   ·exact akz ag J
  ·cases he
theorem SZ{x:bJ}:∀{l:List bJ},(∀y∈l,y.v<x.v)→lz x l=l++[x]
 |[],_=>rfl
 |y::l,h=>by simp only[lz,if_pos (h y (by simp)),SZ (l:=l) fun z br=>h z (by simp[br]),bT]
theorem VO{s:List ar}:∀{l acc:List bJ},(acc++l).Pairwise (fun x y=>x.v<y.v)→(∀x∈l,di s x.v=none)→ga s l acc=some (acc++l)
 |[],acc,_,_=>by simp[ga]
 |x::r,acc,bE,aI=>by
  have J:∀y∈acc,y.v<x.v:=fun y aG=>(List.pairwise_append.1 bE).2.2 y aG x (by simp);have U:k2 acc x.v=none:=xy.2 fun y aG=>by have:=J y aG;omega
  have ao:ka acc (cA s x.v) x.k=some (acc++[x]):=by rw[Ap (aI x (by simp))];simp only[ka,U];rw[SZ J]
  simp only[ga,ao];rw[VO (by simpa using bE) fun y aG=>aI y (by simp[aG])];simp
theorem VQ{s:List ar}(ag:fG s):∀{l acc a:List bj},(∀x∈acc,di s x.v=none)→gb s l acc=some a→∀x∈a,di s x.v=none
 |[],acc,a,h,he=>by simp only[gb,dG]at he;rw[←he];exact h
 |y::r,acc,a,h,he=>by
  simp only[gb]at he;split at he
  ·rename_i bD ak;refine VQ ag (fun x ab=>?_) he;rcases(Cq ak x).1 ab with J|⟨_,J⟩
   ·exact h x J
   ·exact Mf ag (t:= .var y.v) J
  ·cases he
theorem VR{s:List ar}:∀{l acc:List bj},hF fc (acc++l)→(∀x∈l,di s x.v=none)→gb s l acc=some (acc++l)
 |[],acc,_,_=>by simp[gb]
 |x::r,acc,bE,aI=>by
  have ao:lL acc (cA s x.v) x.s=some (acc++[x]):=by
   rw[Ap (aI x (by simp))];refine Hw rfl (asq ?_ bE) fun z=>?_
   ·simp
   ·simp only[jU,List.mem_singleton,T.occ,dL];refine or_congr_right ⟨fun h=>by rw[h];exact⟨rfl,rfl⟩,fun⟨J,U⟩=>?_⟩;cases z;cases x;simp_all
  simp only[gb,ao];rw[VR (by simpa using bE) fun y aG=>aI y (by simp[aG])];simp
def Dc(b:List ar)(k:List bJ)(m:List bj)(d:List ar):Prop:= ∃x,mgu b (hq d)=some x∧¬(ga x k []=none∨gb x m []=none)∧eF b x=d∧d≠[]
theorem FA{b:List ar}(ae:eA b){k:List bJ}{m:List bj}:∀{l L:List (List ar)},gC b k m l=some L→∀d∈L,Dc b k m d
 |[],L,h=>by simp only[gC,dG]at h;rw[←h];simp
 |d0::r,L,h=>by
  simp only[gC]at h;split at h
  ·exact FA ae h
  ·rename_i x ab;split at h
   ·exact FA ae h
   ·rename_i ad;split at h
    ·cases h
    ·rename_i aw;rw[gH]at h;obtain⟨Nj,J,rfl⟩:=h;intro d aQ;rcases fU.1 aQ with rfl|aQ
     ·exact⟨x,Ua ae.sol ae.fits ab,ad,rfl,aw⟩
     ·exact FA ae J d aQ
theorem TJ{b:List ar}{k:List bJ}{m:List bj}:∀{L:List (List ar)},(∀d∈L,Dc b k m d)→gC b k m L=some L
 |[],_=>rfl
 |d::L,h=>by obtain⟨x,J,U,ao,a8⟩:=h d (by simp);simp only[gC,J,if_neg U,ao,if_neg a8,TJ (L:=L) fun e he=>h e (by simp[he]),nQ]
theorem Fz{b:List ar}(ae:eA b){k:List bJ}{m:List bj}:∀{l L:List (List ar)},(∀d∈l,eA d)→gC b k m l=some L→∀d∈L,eA d
 |[],L,_,h=>by simp only[gC,dG]at h;rw[←h];simp
 |d0::r,L,au,h=>by
  simp only[gC]at h;split at h
  ·exact Fz ae (fun d aQ=>au d (by simp[aQ])) h
  ·rename_i x ab;split at h
   ·exact Fz ae (fun d aQ=>au d (by simp[aQ])) h
   ·split at h
    ·cases h
    ·rw[gH]at h;obtain⟨Nj,J,rfl⟩:=h;intro d aQ;rcases fU.1 aQ with rfl|aQ
     ·exact Cw (ae.mgu (fun e he=>by obtain⟨c,ay,rfl⟩:=h8.1 he;have:=(au d0 (by simp)).ok c ay;exact⟨by simpa[T.ok]using this.1,this.2⟩) ab)
     ·exact Fz ae (fun d aQ=>au d (by simp[aQ])) J d aQ
theorem Fy{b:List ar}(ae:eA b){n:Int}(aw:pC b n){k:List bJ}{m:List bj}:∀{l L:List (List ar)},(∀d∈l,pC d n)→gC b k m l=some L→∀d∈L,pC d n
 |[],L,_,h=>by simp only[gC,dG]at h;rw[←h];simp
 |d0::r,L,au,h=>by
  simp only[gC]at h;split at h
  ·exact Fy ae aw (fun d aQ=>au d (by simp[aQ])) h
  ·rename_i x ab;split at h
   ·exact Fy ae aw (fun d aQ=>au d (by simp[aQ])) h
   ·split at h
    ·cases h
    ·rw[gH]at h;obtain⟨Nj,J,rfl⟩:=h;intro d aQ;rcases fU.1 aQ with rfl|aQ
     ·have:=Ub (fun v=>v<n) ae.sol ae.fits aw (fun e he=>by obtain⟨c,ay,rfl⟩:=h8.1 he;have:=au d0 (by simp) c ay;exact⟨fun w hw=>by simp[T.occ]at hw;subst hw;exact this.1,this.2⟩) ab
      exact fun c ay=>this c (mD.1 ay).1
     ·exact Fy ae aw (fun d aQ=>au d (by simp[aQ])) J d aQ
theorem agB{L:List (List ar)}:kJ (kJ L)=kJ L:=Ud (Uc L) fun x=>by rw[zI,and_assoc];refine⟨fun⟨J,U⟩=>⟨J,U,?_⟩,fun⟨J,U,_⟩=>⟨J,U⟩⟩;rw[iH,jc]at U⊢;exact fun d aQ=>U d (zI.1 aQ).1
theorem Td{b:List ar}(ae:eA b){n:Int}(aw:pC b n){v w:Int}(aK:v<n)(h:(cA b v).occ w=true):w<n:=by
 unfold cA at h;cases e:di b v with
 |none=>rw[e]at h;simp[T.occ]at h;omega
 |some t=>rw[e]at h;exact(aw _ (jY e)).2 w h
theorem VM{b:List ar}(ae:eA b){n:Int}(aw:pC b n):∀{l acc a:List bJ},(∀x∈l,x.v<n)→(∀x∈acc,x.v<n)→ga b l acc=some a→∀x∈a,x.v<n
 |[],acc,a,_,h,he=>by simp only[ga,dG]at he;rw[←he];exact h
 |y::r,acc,a,au,h,he=>by
  simp only[ga]at he;split at he
  ·rename_i bD ak;refine VM ae aw (fun x ab=>au x (by simp[ab])) (fun x ab=>?_) he;rcases Ns ak x ab with J|J
   ·exact h x J
   ·exact Td ae aw (au y (by simp)) (by rw[J];simp[T.occ])
  ·cases he
theorem VP{b:List ar}(ae:eA b){n:Int}(aw:pC b n):∀{l acc a:List bj},(∀x∈l,x.v<n)→(∀x∈acc,x.v<n)→gb b l acc=some a→∀x∈a,x.v<n
 |[],acc,a,_,h,he=>by simp only[gb,dG]at he;rw[←he];exact h
 |y::r,acc,a,au,h,he=>by
  simp only[gb]at he;split at he
  ·rename_i bD ak;refine VP ae aw (fun x ab=>au x (by simp[ab])) (fun x ab=>?_) he;rcases(Cq ak x).1 ab with J|⟨_,J⟩
   ·exact h x J
   ·exact Td ae aw (au y (by simp)) J
  ·cases he
theorem Md{s ai:cX}(h:oD s)(he:ik s=some ai):rN ai∧ai.n=s.n∧ai.b=s.b:=by
 unfold ik at he;split at he
 ·cases he
 rename_i k ad;split at he
 ·cases he
 rename_i m hm;split at he
 ·cases he
 rename_i L jt;split at he;rotate_left
 ·cases he
 rename_i lh;cases he;have aS:=Gq h.b h.k.at' ⟨by simp,by simp⟩ ad;have m1:=Gr h.b h.m.at' ⟨by simp,by simp[hF]⟩ hm;have m2:hC (m.filter (kt k)):=⟨fun x ab=>m1.at' x (mD.1 ab).1,XF _ m1.asc⟩;have dc:=FA h.b jt;have xm:=Fz h.b h.d jt;refine⟨⟨⟨h.n,h.b,fun x ab=>xm x (zI.1 ab).1,aS,m2,h.bb,fun x ab=>Fy h.b h.bb h.db jt x (zI.1 ab).1,VM h.b h.bb h.kb (by simp) ad,fun x ab=>VP h.b h.bb h.mb (by simp) hm x (mD.1 ab).1⟩,?_⟩,rfl,rfl⟩;unfold ik;have ak:ga s.b k []=some k:=VO (acc:=[]) aS.asc (VN h.b.sol (by simp) ad);have aB:gb s.b (m.filter (kt k)) []=some (m.filter (kt k)):=VR (acc:=[]) m2.asc fun x ab=>VQ h.b.sol (by simp) hm x (mD.1 ab).1;have bf:(m.filter (kt k)).filter (kt k)=m.filter (kt k):=by rw[List.filter_filter];simp
 have dd:gC s.b k (m.filter (kt k)) (kJ L)=some (kJ L):=TJ fun d aQ=>dc d (zI.1 aQ).1;simp only[ak,aB,bf,dd,agB,if_pos lh]
theorem sH{α:Type}{s:List α}{i:Nat}{t:α}(h:s[i]? =some t):s.drop i=t::s.drop (i+1):=by obtain⟨hi,e⟩:=fN.1 h;rw[la hi,e]
def pX(L:List (List ar))(a:List (List ar))(e:List ar):List (List ar):=if iH L e=true then j4 ey e a else a
theorem KM{L:List (List ar)}:∀(xs:List (List ar)) {a:List (List ar)},hF ey a→hF ey (xs.foldl (pX L) a)
 |[],_,h=>h
 |x::xs,a,h=>KM xs (a:=pX L a x) (by unfold pX;split<;>first|exact J5 lC h|exact h)
theorem Uf{L:List (List ar)}{x:List ar}:∀(xs:List (List ar)) {a:List (List ar)},x∈xs.foldl (pX L) a↔x∈a∨(x∈xs∧iH L x=true)
 |[],a=>by simp
 |y::xs,a=>by
  rw[List.foldl_cons,Uf xs,fU];unfold pX;by_cases ad:iH L y=true
  ·rw[if_pos ad,FI lC];constructor
   ·rintro((rfl|h)|h)
    ·exact .inr ⟨.inl rfl,ad⟩
    ·exact .inl h
    ·exact .inr ⟨.inr h.1,h.2⟩
   ·rintro(h|⟨rfl|J,U⟩)
    ·exact .inl (.inr h)
    ·exact .inl (.inl rfl)
    ·exact .inr ⟨J,U⟩
  ·rw[if_neg ad];constructor
   ·rintro(h|h)
    ·exact .inl h
    ·exact .inr ⟨.inr h.1,h.2⟩
   ·rintro(h|⟨rfl|J,U⟩)
    ·exact .inl h
    ·exact absurd U ad
    ·exact .inr ⟨J,U⟩
theorem Ue{L:List (List ar)}:∀(xs a:List (List ar)),(xs.foldl (pX L) a).length≤a.length+xs.length
 |[],a=>by simp
 |y::xs,a=>by
  have J:=Ue (L:=L) xs (pX L a y);have U:(pX L a y).length≤a.length+1:=by
   unfold pX;split
   ·exact J7 _ _
   ·omega
  simp only[List.foldl_cons,p8];omega
theorem agD(L:List (List ar)):kJ L=L.foldl (pX L) []:=Ud (KM L (by simp[hF])) fun x=>by rw[Uf];simp
def xw(L:List (List ar))(i:Nat)(a:List (List ar)):Prop:=a=(L.take i).foldl (pX L) []
theorem xw.step{L:List (List ar)}{i:Nat}{a:List (List ar)}(h:xw L i a){e:List ar}(he:L[i]? =some e):xw L (i+1) (pX L a e):=by rw[xw,oH he,List.foldl_append,h];rfl
def vC(e d:List ar):Bool:=decide (d=e)|| !na d e
def pN(L:List (List ar))(e:List ar)(j:Nat)(k:Bool):Prop:=k=(L.take j).all (vC e)
theorem pN.step{L:List (List ar)}{e:List ar}{j:Nat}{k:Bool}(h:pN L e j k){d:List ar}(aQ:L[j]? =some d):pN L e (j+1) (k&&vC e d):=by rw[pN,oH aQ,List.all_append,h];simp
def Fi(a:List (List ar))(e:List ar)(k:Nat):Prop:=k≤a.length∧∀c,a[k]? =some c→0≤ey c e
theorem Fi.fin{a:List (List ar)}{e:List ar}{k:Nat}(h:Fi a e k)(bE:hF ey a)(ay:∀d,0<k→a[k-1]? =some d→ey d e<0):j4 ey e a=if(match a[k]? with|some y=>decide (ey y e=0)|none=>false)=true then a else a.take k++e::a.drop k:=
 (J6 lC e a k (fun i c hi j2=>by
  have ad:=h.1;obtain⟨d,aQ⟩:∃d,a[k-1]? =some d:=⟨_,cf (by omega)⟩;have J:=ay d (by omega) aQ;rcases Nat.lt_or_ge i (k-1)with U|U
  ·have sp:=(fN.1 j2);have mg:=(fN.1 aQ);have:=pt.1 bE i (k-1) sp.1 mg.1 U;rw[sp.2,mg.2]at this;exact lC.ltr this (by omega)
  ·have:i=k-1:=by omega
   subst this;rw[aQ]at j2;cases j2;exact J) h.2 h.1).trans (by cases a[k]?<;>rfl)
theorem Tg(L:List (List ar))(e:List ar):iH L e=L.all (vC e):=rfl
theorem Wq{l:List (List ar)}{x:List ar}:x∈oC ey l↔x∈l:=(x7 ey l).mem_iff
theorem agC(l:List (List ar)):kJ l=(cG none (oC ey l)).filter (iH (oC ey l)):=by have h:iH l=iH (oC ey l):=funext fun e=>afN (fun x=>Wq.symm) e;rw[kJ,h];rfl
def mo(s:List (List ar))(i:Nat)(acc:List (List ar)):Prop:=acc++(cG (if i=0 then none else s[i-1]?) (s.drop i)).filter (iH s)=(cG none s).filter (iH s)
def lI:cX:=⟨0,[],[],[],[]⟩
noncomputable def vY(s:cX):cX:=match ga s.b s.k []with
 |none=>lI
 |some k=>match gb s.b s.m []with
  |none=>lI
  |some m=>match gC s.b k (m.filter (kt k)) s.d with
   |none=>lI
   |some L=>⟨s.n,s.b,kJ L,k,m.filter (kt k)⟩
theorem Me{s ai:cX}(h:ik s=some ai):vY s=ai:=by
 unfold ik at h;unfold vY;cases J:ga s.b s.k []with
 |none=>rw[J]at h;cases h
 |some k=>
  rw[J]at h;simp only at h⊢;cases U:gb s.b s.m []with
  |none=>rw[U]at h;cases h
  |some m=>
   rw[U]at h;simp only at h⊢;cases ao:gC s.b k (m.filter (kt k)) s.d with
   |none=>rw[ao]at h;cases h
   |some L=>
    rw[ao]at h;simp only at h⊢;split at h
    ·cases h;rfl
    ·cases h
theorem X6{k:List bJ}(ad:iV k)(v:Int):(ka k (.var v) 2).isSome=(k2 k v !=some 3):=by
 unfold ka;simp only;cases h:k2 k v with
 |none=>simp
 |some x=>have:=(ad.at' _ (Tn h)).2;simp only at this;rcases this with rfl|rfl<;>simp
theorem Ya{k:List bJ}(bE:k.Pairwise fun x y=>x.v<y.v)(v:Int):(k.any fun x=>x.v==v&&x.k==3)=(k2 k v==some 3):=by
 rw[p5,List.any_eq_true,dL];constructor
 ·rintro⟨x,ab,h⟩;simp only[cz,dL]at h;have:=Fs bE ab;rw[h.1,h.2]at this;exact this
 ·intro h;exact⟨_,Tn h,by simp⟩
theorem Kr{b:List ar}{k:List bJ}{m:List bj}{d:List ar}{r:List (List ar)}(h:mgu b (hq d)=none):gC b k m (d::r)=gC b k m r:=by rw[gC,h]
theorem Kq{b:List ar}{k:List bJ}{m:List bj}{d x:List ar}{r:List (List ar)}(h:mgu b (hq d)=some x)(ad:ga x k []=none∨gb x m []=none):gC b k m (d::r)=gC b k m r:=by rw[gC,h];simp only[if_pos ad]
theorem Kp{b:List ar}{k:List bJ}{m:List bj}{d x:List ar}{r:List (List ar)}(h:mgu b (hq d)=some x)(ad:¬(ga x k []=none∨gb x m []=none))(aw:eF b x=[]):gC b k m (d::r)=none:=by rw[gC,h];simp only[if_neg ad,if_pos aw]
theorem Ks{b:List ar}{k:List bJ}{m:List bj}{d x:List ar}{r:List (List ar)}(h:mgu b (hq d)=some x)(ad:¬(ga x k []=none∨gb x m []=none))(aw:eF b x≠[]):gC b k m (d::r)=(gC b k m r).map (eF b x:: ·):=by rw[gC,h];simp only[if_neg ad,if_neg aw]
def pO(b:List ar)(k:List bJ)(m:List bj)(D:List (List ar))(i:Nat)(a:List (List ar)):Prop:=a.length≤i∧(∀x∈a,eA x)∧(gC b k m (D.drop i)).map (a++ ·)=gC b k m D
def er(n:Int):T→Bool
 | .var v=>decide (v<n)
 | .pair a b=>er n a&&er n b
 |_=>true
theorem AZ{n:Int}:∀{t:T},er n t=true↔wH t n
 | .var v=>by simp[er,wH,T.occ]
 | .pair a b=>by simp only[er,cz,AZ (t:=a),AZ (t:=b),wH,T.occ,mB];exact⟨fun h v aK=>aK.elim (h.1 v) (h.2 v),fun h=>⟨fun v aK=>h v (.inl aK),fun v aK=>h v (.inr aK)⟩⟩
 | .nil=>by simp[er,wH,T.occ]
 | .sym _=>by simp[er,wH,T.occ]
 | .num _=>by simp[er,wH,T.occ]
def kE(n:Int)(b:ar):Bool:=decide (b.v<n)&&er n b.t
theorem uR{n:Int}{s:List ar}:s.all (kE n)=true↔pC s n:=by simp[jc,kE,pC,AZ]
def qO(v m:Int):Int:=if m<v+1 then v+1 else m
theorem Hd{n:Int}:∀(t:T) (m:Int),t.fold qO m≤n↔m≤n∧er n t=true
 | .var v,m=>by simp only[T.fold,qO,er,fE];split<;>omega
 | .pair a b,m=>by simp only[T.fold,Hd b,Hd a,er,cz,and_assoc]
 | .nil,m=>by simp[T.fold,er]
 | .sym _,m=>by simp[T.fold,er]
 | .num _,m=>by simp[T.fold,er]
def Dm(v m:Int):Option Int:=if 0≤v∧v≤100000 then some (qO v m)else none
theorem MW:∀(t:T) (m:Int),t.ok=true→t.foldO Dm m=some (t.fold qO m)
 | .var v,m,h=>by
  have:0≤v∧v≤100000:=by simpa[T.ok]using h
  simp[T.foldO,T.fold,Dm,this]
 | .pair a b,m,h=>by
  have J:a.ok=true∧b.ok=true:=by simpa[T.ok]using h
  simp[T.foldO,T.fold,MW a m J.1,MW b _ J.2]
 | .nil,m,_=>rfl
 | .sym _,m,_=>rfl
 | .num _,m,_=>rfl
structure fi where
 n:Int
 b:List cW
 d:List (List cW)
 k:List bJ
 m:List bj
def cX.r(s:cX):fi:=⟨s.n,s.b.map ar.b,s.d.map fun x=>x.map ar.b,s.k,s.m⟩
def il(r:fi):Prop:= ∃s:cX,r=s.r∧rN s
def j0(n:Int)(x:List cW):Prop:= ∃s:List ar,x=s.map ar.b∧eA s∧pC s n
structure LN (r:fi):Prop where
 n:0≤r.n∧r.n≤100000
 b:j0 r.n r.b
 d:∀x∈r.d,j0 r.n x
 k:iV r.k
 m:hC r.m
 kb:∀x∈r.k,x.v<r.n
 mb:∀x∈r.m,x.v<r.n
theorem il.raw{r:fi}(h:il r):LN r:=by obtain⟨s,rfl,J,_⟩:=h;exact⟨J.n,⟨s.b,rfl,J.b,J.bb⟩,fun x ab=>by obtain⟨y,aG,rfl⟩:=h8.1 ab;exact⟨y,rfl,J.d y aG,J.db y aG⟩,J.k,J.m,J.kb,J.mb⟩
theorem uP:∀{a b:List ar},a.map ar.b=b.map ar.b→a=b
 |[],b,h=>by cases b<;>simp at h⊢
 |x::a,[],h=>by simp at h
 |x::a,y::b,h=>by simp only[gG,p6,ar.b,cW.mk.injEq]at h;rw[uP h.2];have:=De h.1.2;obtain⟨⟨J,_⟩,_⟩:=h;cases x;cases y;simp_all
theorem NK:∀{a b:List (List ar)},(a.map fun x=>x.map ar.b)=(b.map fun x=>x.map ar.b)→a=b
 |[],b,h=>by cases b<;>simp at h⊢
 |x::a,[],h=>by simp at h
 |x::a,y::b,h=>by rw[gG,gG,p6]at h;rw[NK h.2,uP h.1]
theorem cX.r_inj{s t:cX}(h:s.r=t.r):s=t:=by obtain⟨n,b,d,k,m⟩:=s;obtain⟨n',bO,b8,bL,hk⟩:=t;simp only[cX.r,fi.mk.injEq]at h;obtain⟨J,U,ao,a8,bZ⟩:=h;rw[J,uP U,NK ao,a8,bZ]
theorem Qj{n:Int}:∀{d:List (List cW)},(∀x∈d,j0 n x)→∃D:List (List ar),d=(D.map fun x=>x.map ar.b)∧(∀x∈D,eA x)∧∀x∈D,pC x n
 |[],_=>⟨[],rfl,by simp,by simp⟩
 |x::d,h=>by
  obtain⟨D,J,U,ao⟩:=Qj (d:=d) fun y aG=>h y (by simp[aG]);obtain⟨s,ak,aB,bf⟩:=h x (by simp);refine⟨s::D,by rw[J,ak];rfl,fun y aG=>?_,fun y aG=>?_⟩
  ·rcases fU.1 aG with rfl|aG
   ·exact aB
   ·exact U y aG
  ·rcases fU.1 aG with rfl|aG
   ·exact bf
   ·exact ao y aG
theorem Ws{s:cX}(h:oD s):il s.r↔ik s=some s:=by
 constructor
 ·rintro⟨t,e,_,U⟩;rw[cX.r_inj e];exact U
 ·intro U;exact⟨s,rfl,h,U⟩
theorem v8{l:List cW}:Hr l↔∃s:List ar,l=s.map ar.b∧eA s:=⟨fun⟨s,J,U,ao,a8⟩=>⟨s,J,U,ao,a8⟩,fun⟨s,J,U⟩=>⟨s,J,U.ok,U.sol,U.fits⟩⟩
def qV{α:Type}(a b:List α)(i:Nat)(_:Unit):Prop:= ∀k,k<i→a[k]? =b[k]?
theorem qV.fin{α:Type}{a b:List α}(h:qV a b b.length ())(au:a.length=b.length):a=b:=by
 apply List.ext_getElem?;intro k;by_cases ad:k<b.length
 ·exact h k ad
 ·rw[p7 (by omega),p7 (by omega)]
theorem qV.step{α:Type}{a b:List α}{i:Nat}(h:qV a b i ()){x:α}(bE:a[i]? =some x)(ae:b[i]? =some x):qV a b (i+1) ():=fun k ad=>by
 rcases(by omega:k<i∨k=i)with J|rfl
 ·exact h k J
 ·rw[bE,ae]
def ry{α:Type}(p:α→Prop)(s:List α)(i:Nat)(_:Unit):Prop:= ∀k b,k<i→s[k]? =some b→p b
theorem ry.step{α:Type}{p:α→Prop}{s:List α}{i:Nat}(h:ry p s i ()){b:α}(ae:s[i]? =some b)(bI:p b):ry p s (i+1) ():=fun k c ad ay=>by
 rcases(by omega:k<i∨k=i)with J|rfl
 ·exact h k c J ay
 ·rw[ae]at ay;cases ay;exact bI
theorem ry.fin{α:Type}{p:α→Prop}{s:List α}(h:ry p s s.length ()):∀b∈s,p b:=fun b ae=>by obtain⟨k,ad,e⟩:=nn ae;exact h k b ad (by rw[cf ad,e])
def N4:C:=(aa [be 2 false] (.seq (aa [I 5 0,cn 6 5,bV 7 0] (fw 8 7 6 (.seq (.block 1 (aa [I 9 7,ct 10 2 5 7,aW 11 2 10,c3 (.alloc 4 none (.agg [.int .i64 0,.int .i64 0])),I 3 9,bK 2 4 11] (.seq (.drawn true 46 [aF 12 0 1 4,ax 13 1 12,aU 14 .lss 13 0,I 15 14,aq 15 false (aF 16 0 1 4),aq 15 false (ax 17 1 16),aq 15 false (aU 18 .gtr 17 100000),c2 19 15 18,I 20 19,aq 20 false (aF 21 1 1 4),aq 20 false (ax 22 1 21),aq 20 false (aU 23 .neq 22 2),b3 20 false 24 23,aq 24 true (aF 25 1 1 4),aq 24 true (ax 26 1 25),aq 24 true (aU 27 .neq 26 3),aq 20 false (dz 28 24 27),c2 29 20 28,I 30 29,b3 30 false 31 3,aq 30 false (aU 32 .gtr 31 0),b3 30 false 33 32,b3 33 true 34 0,b3 33 true 35 3,aq 33 true (aU 36 .sub 35 1),aq 33 true (ct 37 2 34 36),aq 33 true (aF 38 0 1 37),aq 33 true (ax 39 1 38),aq 33 true (aF 40 0 1 4),aq 33 true (ax 41 1 40),aq 33 true (bo 42 .geq 39 41),aq 30 false (dz 43 33 42),c2 44 30 43]) (aT 44 (aa [be 2 false] .ret) .skip)))) (.region [aU 45 .add 7 1,I 7 45])))) (aa [be 2 true] .ret)))
@[simp] def U8:List bt:=[.tmp 2]
def N5:C:=(aa [be 2 false] (.seq (aa [I 5 0,cn 6 5,bV 7 0] (fw 8 7 6 (.seq (.block 1 (aa [I 9 7,ct 10 2 5 7,aW 11 2 10,c3 (.alloc 4 none (.agg [.int .i64 0,.str []])),I 3 9,bK 2 4 11] (.seq (.drawn true 41 [aF 12 0 1 4,ax 13 1 12,aU 14 .lss 13 0,I 15 14,aq 15 false (aF 16 0 1 4),aq 15 false (ax 17 1 16),aq 15 false (aU 18 .gtr 17 100000),c2 19 15 18,I 20 19,aq 20 false (aF 21 1 1 4),aq 20 false (ax 22 1 21),aq 20 false (cD 23 160 22),aq 20 false (cu 24 23),c2 25 20 24,I 26 25,b3 26 false 27 3,aq 26 false (aU 28 .gtr 27 0),b3 26 false 29 28,b3 29 true 30 0,b3 29 true 31 3,aq 29 true (aU 32 .sub 31 1),aq 29 true (ct 33 2 30 32),aq 29 true (aW 34 2 33),aq 29 true (aW 35 2 4),aq 29 true (b7 36 161 34 35),aq 29 true (cu 37 36),aq 26 false (dz 38 29 37),c2 39 26 38]) (aT 39 (aa [be 2 false] .ret) .skip)))) (.region [aU 40 .add 7 1,I 7 40])))) (aa [be 2 true] .ret)))
@[simp] def Ln:List bt:=[.tmp 2]
def qg:C:=(aa [cx 6 2,ej 8 2,be 9 false] (.seq (aa [I 15 0,cD 16 86 15,cu 17 16,I 18 17,aq 18 false (aW 19 4 6),aq 18 false (cD 20 64 19),aq 18 false (cu 21 20),c2 22 18 21,I 23 22,b3 23 false 24 1,aq 23 false (cD 25 87 24),aq 23 false (cu 26 25),c2 27 23 26,I 28 27,b3 28 false 29 3,aq 28 false (aU 30 .neq 29 2),b3 28 false 31 30,b3 31 true 32 3,aq 31 true (aU 33 .neq 32 3),aq 28 false (dz 34 31 33),c2 35 28 34] (aT 35 (aa [ej 8 2,be 9 false] .ret) .skip)) (aa [I 37 0,aW 38 4 6,b7 39 69 37 38,I 36 39,cC 40 0 36,cC 41 1 36,dk 10 dO,bK 4 10 40,I 11 41] (.seq (aa [I 42 11,cu 43 42] (aT 43 (aa [ej 8 2,be 9 false] .ret) .skip)) (aa [c3 (.bslm 44 (some 803) 2 98 []),I 45 1,c3 (.appm 46 none 2 98 (.t 44) (.t 45)),c3 (.alloc 12 (some 804) (.slice 2 .nil [])),bK 1 12 46] (.seq (aa [aF 47 0 1 10,ax 48 1 47,aU 49 .neq 48 1] (aT 49 (.seq (aa [aF 50 0 1 10,ax 51 1 50,I 52 3,bo 53 .neq 51 52] (aT 53 (aa [ej 8 2,be 9 false] .ret) .skip)) (.seq (.pubB 12 (.region [ax 54 1 12,I 8 54,be 9 true])) .ret)) .skip)) (.seq (aa [I 55 1,cn 56 55,bV 57 0] (fw 58 57 56 (.seq (.block 1 (aa [ct 59 2 55 57,aW 60 2 59,c3 (.alloc 14 none (.agg [.int .i64 0,.int .i64 0])),bK 2 14 60] (aa [aF 61 0 1 14,ax 62 1 61,aF 63 1 1 10,ax 64 1 63,bo 65 .eql 62 64] (aT 65 (.seq (aa [aF 66 1 1 14,ax 67 1 66,I 68 3,bo 69 .neq 67 68] (aT 69 (aa [ej 8 2,be 9 false] .ret) .skip)) (.seq (.pubB 12 (.region [ax 70 1 12,I 8 70,be 9 true])) .ret)) .skip)))) (.region [aU 71 .add 57 1,I 57 71])))) (aa [ax 72 1 12,aF 73 1 1 10,ax 74 1 73,I 75 3,b5 76 (.build [.int .i64 0,.int .i64 0] [(0,1,(.t 74)),(1,1,(.t 75))]),ei 77 2 98 [.t 76],c3 (.appm 78 none 2 98 (.t 72) (.t 77)),bK 1 12 78] (aa [ax 79 1 12,b5 80 (.mkif 48 (.t 79)),b5 81 (.mkf 183 [.t 12]),b7 82 182 80 81] (.seq (.pubB 12 (.region [ax 83 1 12,I 8 83,be 9 true])) .ret))))))))))
@[simp] def jP:List bt:=[.tmp 8,.tmp 9]
def DM:C:=(aa [cx 6 2,c3 (.box 7 (some 811) (.t 3)),ej 8 2,be 9 false] (.seq (aa [I 17 0,cD 18 86 17,cu 19 18,I 20 19,aq 20 false (aW 21 4 6),aq 20 false (cD 22 64 21),aq 20 false (cu 23 22),c2 24 20 23,I 25 24,b3 25 false 26 1,aq 25 false (cD 27 88 26),aq 25 false (cu 28 27),c2 29 25 28,I 30 29,aq 30 false (ax 31 1 7),aq 30 false (cD 32 160 31),aq 30 false (cu 33 32),c2 34 30 33] (aT 34 (aa [ej 8 2,be 9 false] .ret) .skip)) (aa [I 36 0,aW 37 4 6,b7 38 69 36 37,I 35 38,cC 39 0 35,cC 40 1 35,dk 10 dO,bK 4 10 39,I 11 40] (.seq (aa [I 41 11,cu 42 41,I 43 42,aq 43 false (aW 44 4 10),aq 43 false (ax 45 1 7),aq 43 false (b7 46 177 44 45),c2 47 43 46] (aT 47 (aa [ej 8 2,be 9 false] .ret) .skip)) (aa [c3 (.mkmap 48 (some 812)),c3 (.alloc 12 (some 813) (.junk)),bK 1 12 48] (.seq (aa [I 49 1,cn 50 49,bV 51 0] (fw 52 51 50 (.seq (.block 1 (aa [ct 53 2 49 51,aW 54 2 53,c3 (.alloc 14 none (.agg [.int .i64 0,.str []])),bK 2 14 54] (.region [ax 55 1 12,aW 56 2 14,c3 (.mput (.a [false,true]) (.t 55) (.t 56) (.c (.bool true)))]))) (.region [aU 57 .add 51 1,I 51 57])))) (aa [aW 58 4 10,b5 59 (.mkf 184 [.t 12,.t 7]),b7 60 134 58 59] (aa [c3 (.bslm 61 (some 814) 2 100 []),c3 (.alloc 15 (some 815) (.slice 2 .nil [])),bK 1 15 61] (.seq (aa [ax 62 1 12,c3 (.range 63 none (.t 62))] (.block 2 (.loop (aa [⟨none,.next 64 (.t 63)⟩,cC 65 0 64] (.seq (aT 65 .skip (.exit 2)) (.block 3 (aa [b5 66 (.ment (.t 63)),cC 67 0 66,c3 (.alloc 16 none (.agg [.int .i64 0,.str []])),bK 2 16 67] (.region [ax 68 1 15,aW 69 2 16,ei 70 2 100 [.t 69],c3 (.appm 71 none 2 100 (.t 68) (.t 70)),bK 1 15 71])))))))) (aa [ax 72 1 15,b5 73 (.mkif 49 (.t 72)),b5 74 (.mkf 185 [.t 15]),b7 75 182 73 74] (.seq (.pubB 15 (.region [ax 76 1 15,I 8 76,be 9 true])) .ret)))))))))))
@[simp] def F7:List bt:=[.tmp 8,.tmp 9]
def DO:C:=(aa [cx 2 0,cx 3 1,be 4 false] (aa [aF 5 0 1 2,ax 6 1 5,aF 7 0 1 3,ax 8 1 7,bo 9 .lss 6 8,I 10 9,aq 10 false (aF 11 0 1 2),aq 10 false (ax 12 1 11),aq 10 false (aF 13 0 1 3),aq 10 false (ax 14 1 13),aq 10 false (bo 15 .eql 12 14),b3 10 false 16 15,aq 16 true (aF 17 1 1 2),aq 16 true (ax 18 1 17),aq 16 true (aF 19 1 1 3),aq 16 true (ax 20 1 19),aq 16 true (bo 21 .lss 18 20),aq 10 false (dz 22 16 21),c2 23 10 22,I 4 23] .ret))
@[simp] def aji:List bt:=[.tmp 4]
def DR:C:=(aa [cx 2 0,be 4 false] (.seq (aa [aF 5 0 1 2,ax 6 1 5,aU 7 .eql 6 4] (aT 7 (aa [aF 8 3 1 2,ax 9 1 8,jH 10 4 9 0,aW 11 4 10,I 12 1,b7 13 177 11 12,I 14 13,aq 14 false (aF 15 3 1 2),aq 14 false (ax 16 1 15),aq 14 false (jH 17 4 16 1),aq 14 false (aW 18 4 17),b3 14 false 19 1,aq 14 false (b7 20 177 18 19),c2 21 14 20,I 4 21] .ret) .skip)) (aa [aF 22 0 1 2,ax 23 1 22,aU 24 .eql 23 2,I 25 24,aq 25 true (aF 26 2 1 2),aq 25 true (ax 27 1 26),b3 25 true 28 1,aq 25 true (bo 29 .eql 27 28),dz 30 25 29,I 4 30] .ret)))
@[simp] def Gd:List bt:=[.tmp 4]
def N1:C:=(aa [be 5 false] (.seq (.drawn true 17 [ax 6 1 2,I 7 0,ct 8 2 6 7,aF 9 0 1 8,ax 10 1 9,ax 11 1 2,I 12 1,ct 13 2 11 12,aF 14 0 1 13,ax 15 1 14,bo 16 .lss 10 15,I 5 16]) .ret))
@[simp] def U4:List bt:=[.tmp 5]
def NZ:C:=(.region [ax 4 1 1,I 5 0,ax 6 1 2,b5 7 (.build [.int .i64 0,.str []] [(0,1,(.t 5)),(1,1,(.t 6))]),c3 (.mput (.a [false,true]) (.t 4) (.t 7) (.c (.bool true)))])
@[simp] def U2:List bt:=[]
def N0:C:=(aa [be 5 false] (.seq (.drawn true 15 [ax 6 1 2,I 7 0,ct 8 2 6 7,aW 9 2 8,ax 10 1 2,I 11 1,ct 12 2 10 11,aW 13 2 12,b7 14 161 9 13,I 5 14]) .ret))
@[simp] def U3:List bt:=[.tmp 5]
def s5:List (Nat×dC):=[
 (3,⟨1,8,.int .i64,.int .i64 0⟩),
 (9,⟨1,16,.str,.str []⟩),
 (27,⟨1,24,.slice 30,.slice 4 .nil []⟩),
 (30,⟨4,56,.struct [(0,3),(1,3),(2,9),(3,27)],.agg [.int .i64 0,.int .i64 0,.str [],.slice 4 .nil []]⟩),
 (48,⟨1,24,.slice 98,.slice 2 .nil []⟩),
 (49,⟨1,24,.slice 100,.slice 2 .nil []⟩),
 (98,⟨2,16,.struct [(0,3),(1,3)],.agg [.int .i64 0,.int .i64 0]⟩),
 (100,⟨2,24,.struct [(0,3),(1,9)],.agg [.int .i64 0,.str []]⟩),
 (165,⟨1,8,.map 100 4,.junk⟩)]
theorem jR:fM al s5=true:=by kernel_rfl
theorem ag3:bX s5 N4 U8 1 Tryz.f87=true:=by kernel_rfl
theorem aaB:al.funcs[(87:Nat)]? =some Tryz.f87:=Tryz.func87
theorem ag4:bX s5 N5 Ln 1 Tryz.f88=true:=by kernel_rfl
theorem aaC:al.funcs[(88:Nat)]? =some Tryz.f88:=Tryz.func88
theorem rF:bX s5 qg jP 4 Tryz.f118=true:=by kernel_rfl
theorem qY:al.funcs[(118:Nat)]? =some Tryz.f118:=Tryz.func118
theorem KW:bX s5 DM F7 4 Tryz.f120=true:=by kernel_rfl
theorem Iw:al.funcs[(120:Nat)]? =some Tryz.f120:=Tryz.func120
theorem KY:bX s5 DO aji 2 Tryz.f161=true:=by kernel_rfl
theorem Iy:al.funcs[(161:Nat)]? =some Tryz.f161:=Tryz.func161
theorem K1:bX s5 DR Gd 2 Tryz.f177=true:=by kernel_rfl
theorem IB:al.funcs[(177:Nat)]? =some Tryz.f177:=Tryz.func177
theorem ag0:bX s5 N1 U4 3 Tryz.f183=true:=by kernel_rfl
theorem aay:al.funcs[(183:Nat)]? =some Tryz.f183:=Tryz.func183
theorem agY:bX s5 NZ U2 3 Tryz.f184=true:=by kernel_rfl
theorem aaw:al.funcs[(184:Nat)]? =some Tryz.f184:=Tryz.func184
theorem agZ:bX s5 N0 U3 3 Tryz.f185=true:=by kernel_rfl
theorem aax:al.funcs[(185:Nat)]? =some Tryz.f185:=Tryz.func185
def lY(x:bJ):Prop:=(0≤x.v∧x.v≤100000)∧(x.k=2∨x.k=3)
def mY(x y:bJ):Prop:=x.v<y.v
theorem Fp{l:List bJ}:iV l↔∀i,i<l.length→h0 lY mY l i:=by rw[Nt (p:=lY) (r:=mY) (fun a b c J U=>by unfold mY at*;omega)];exact⟨fun h=>⟨h.at',h.asc⟩,fun h=>⟨h.1,h.2⟩⟩
def j5(x:bj):Prop:=(0≤x.v∧x.v≤100000)∧jy x.s=true
def ks(x y:bj):Prop:=fc x y<0
theorem FF{l:List bj}:hC l↔∀i,i<l.length→h0 j5 ks l i:=by rw[Nt (p:=j5) (r:=ks) (fun a b c J U=>by unfold ks at*;exact lD.ltr J (Int.le_of_lt U))];exact⟨fun h=>⟨h.at',h.asc⟩,fun h=>⟨h.1,h.2⟩⟩
open Classical in
theorem WW(l:List bJ):bG al 87 [.slice 2 .no (l.map bJ.e)] (.bool (decide (iV l))):=by
 generalize bh:decide (iV l)=R;refine bd jR aaB ag3 fun aP=>?_;unfold N4;have eT:l.length≤68719476736:=by simp[eC,ec,ev,lim]at aP;omega
 simp;refine dV [0,5,6] (fun i (_:Unit)=>[(7,.int .i64 i)]) l.length (fun i _=> ∀j,j<i→h0 lY mY l j) () b1 (fun k ad=>by omega) (fun _ af _=>?_) (fun i _ hi af _=>?_)
 ·have:R=true:=by rw[←bh,fE,Fp];exact af
  rw[this];exact b0
 ·obtain⟨b,ae⟩:∃b,l[i]? =some b:=⟨_,cf hi⟩;obtain⟨c,ay⟩:∃c,l[i-1]? =some c:=⟨_,cf (by omega)⟩;have cJ:∀h,(l[i]'h)=b:=fun h=>by rw[cf hi]at ae;exact fh ae
  have dj:¬h0 lY mY l i→R=false:=fun h=>by rw[←bh,hE];exact fun cr=>h (Fp.1 cr i hi)
  have dc:h0 lY mY l i→∀j,j<i+1→h0 lY mY l j:=fun h j jh=>by
   by_cases e:j=i
   ·rw[e];exact h
   ·exact af j (by omega)
  simp[hi,cJ,ay];((with_reducible repeat' first|refine aj ?_|simp[cJ,ay,hi]|((first|apply bM|apply bR|apply bQ)<;>intro h<;>try simp at h))<;>(try exact ch));all_goals first
   |(have aw:¬h0 lY mY l i:=by(intro cr;have J:=cr b ae;have U:=J.2 c;have ao:=J.1;unfold lY mY at*;first|omega|(have a8:=U (by omega) ay;omega)|(simp_all;done)|(simp_all;omega))
     rw[dj aw]
     simp[bu,U8,aX,aY,aV]
     done)
   |(refine bP.rng () hi (dc fun bO fR=>?_) ?_
     ·rw[ae]at fR;cases fR
      refine⟨?_,fun cl bB gT=>?_⟩
      ·unfold lY;first|(simp_all;done)|(simp_all;omega)
      ·rw[ay]at gT;cases gT;unfold mY;simp_all
     ·exact b1)
theorem AF(a b:bj):bG al 161 [a.e,b.e] (.bool (hB fc a b)):=by
 rw[←Uj];have bh:sL a b=(decide (a.v<b.v)||(a.v==b.v&&hl a.s b.s)):=rfl;rcases Int.lt_trichotomy a.v b.v with h|h|h
 ·have:sL a b=true:=by rw[bh];simp[h]
  rw[this];refine bd jR Iy KY fun aP=>?_;unfold DO;exact b0
 ·have J:¬a.v<b.v:=by omega
  have U:(a.v==b.v)=true:=by simp[h]
  have:sL a b=hl a.s b.s:=by rw[bh];simp[h]
  rw[this];refine bd jR Iy KY fun aP=>?_;unfold DO;exact b0
 ·have J:¬a.v<b.v:=by omega
  have U:¬a.v=b.v:=by omega
  have ao:(a.v==b.v)=false:=by simp[U]
  have:sL a b=false:=by rw[bh];simp[J,U]
  rw[this];refine bd jR Iy KY fun aP=>?_;unfold DO;exact b0
end Go.Proofs.YtahlgcidhnjlbaaGreat
namespace Go.Proofs.YtahlgcidhnjlbaaGreat
open Go Go.Pv
open Classical in
theorem WY(l:List bj):bG al 88 [.slice 2 .no (l.map bj.e)] (.bool (decide (hC l))):=by
 generalize bh:decide (hC l)=R;refine bd jR aaC ag4 fun aP=>?_;unfold N5;have eT:l.length≤68719476736:=by simp[eC,ec,ev,lim]at aP;omega
 simp;refine dV [0,5,6] (fun i (_:Unit)=>[(7,.int .i64 i)]) l.length (fun i _=> ∀j,j<i→h0 j5 ks l j) () b1 (fun k ad=>by omega) (fun _ af _=>?_) (fun i _ hi af _=>?_)
 ·have:R=true:=by rw[←bh,fE,FF];exact af
  rw[this];exact b0
 ·obtain⟨b,ae⟩:∃b,l[i]? =some b:=⟨_,cf hi⟩;obtain⟨c,ay⟩:∃c,l[i-1]? =some c:=⟨_,cf (by omega)⟩;have cJ:∀h,(l[i]'h)=b:=fun h=>by rw[cf hi]at ae;exact fh ae
  have dj:¬h0 j5 ks l i→R=false:=fun h=>by rw[←bh,hE];exact fun cr=>h (FF.1 cr i hi)
  have dc:h0 j5 ks l i→∀j,j<i+1→h0 j5 ks l j:=fun h j jh=>by
   by_cases e:j=i
   ·rw[e];exact h
   ·exact af j (by omega)
  have gr:∀p:Prop,(p→eo)→(h0 j5 ks l i→p)→R=false:=fun p J U=>dj fun h=>J (U h);have o6:h0 j5 ks l i→j5 b:=fun h=>(h b ae).1;have bC:h0 j5 ks l i→0<i→hB fc c b=true:=fun h bB=>by simpa[hB,ks]using(h b ae).2 c bB ay
  have eD:j5 b→(0<i→hB fc c b=true)→h0 j5 ks l i:=fun J U bO fR=>by rw[ae]at fR;cases fR;exact⟨J,fun cl bB gT=>by rw[ay]at gT;cases gT;simpa[hB,ks]using U bB⟩
  unfold j5 at o6 eD;by_cases g1:b.v<0
  ·rw[gr _ (fun h=>by omega) (fun h=>(o6 h).1.1)];exact b0
  by_cases g2:100000<b.v
  ·rw[gr _ (fun h=>by omega) (fun h=>(o6 h).1.2)];exact b0
  cases g3:jy b.s
  ·rw[gr _ (fun h=>by rw[h]at g3;cases g3) (fun h=>(o6 h).2)];simp[hi,cJ,ay];(with_reducible repeat' first|refine aj ?_|refine aD (s6 _) ?_|refine aE (s6 _) ?_|simp[cJ,ay,hi,g1,g2,g3]);simp[bu,Ln,aX,aY,aV]
  by_cases g4:0<i
  ·cases g5:hB fc c b
   ·rw[gr _ (fun h=>by rw[h]at g5;cases g5) (fun h=>bC h g4)];simp[hi,cJ,ay];(with_reducible repeat' first|refine aj ?_|refine aD (s6 _) ?_|refine aE (s6 _) ?_|refine aD (AF _ _) ?_|refine aE (AF _ _) ?_|simp[cJ,ay,hi,g1,g2,g3,g4,g5]);simp[bu,Ln,aX,aY,aV]
   ·simp[hi,cJ,ay];(with_reducible repeat' first|refine aj ?_|refine aD (s6 _) ?_|refine aE (s6 _) ?_|refine aD (AF _ _) ?_|refine aE (AF _ _) ?_|simp[cJ,ay,hi,g1,g2,g3,g4,g5]);exact bP.rng () hi (dc (eD ⟨⟨by omega,by omega⟩,g3⟩ fun _=>g5)) b1
  ·obtain rfl:i=0:=by omega
   simp[hi,cJ,ay];(with_reducible repeat' first|refine aj ?_|refine aD (s6 _) ?_|refine aE (s6 _) ?_|simp[cJ,ay,hi,g1,g2,g3,g4]);exact bP.rng () hi (dc (eD ⟨⟨by omega,by omega⟩,g3⟩ fun h=>by omega)) b1
theorem alW(s:List dB):∀t:T,bG al 177 [t.e,.str s] (.bool (t.has s)):=by
 intro t;induction t with
 |pair a b dQ dR=>
  refine bd jR IB K1 fun aP=>?_;unfold DR;simp;cases bE:a.has s<;>cases ae:b.has s<;>rw[bE]at dQ<;>rw[ae]at dR;all_goals(with_reducible repeat' first|refine aj ?_|refine aD dQ ?_|refine aE dQ ?_|refine aD dR ?_|refine aE dR ?_|simp)
  all_goals simp[bu,Gd,aX,aY,aV]
  all_goals simp[T.has,bE,ae]
 |sym n=>
  refine bd jR IB K1 fun aP=>?_;unfold DR;simp;(with_reducible repeat' first|refine aj ?_|simp);all_goals simp[bu,Gd,aX,aY,aV]
  all_goals simp[T.has]
 |_=>
  refine bd jR IB K1 fun aP=>?_;unfold DR;simp;(with_reducible repeat' first|refine aj ?_|simp);all_goals simp[bu,Gd,aX,aY,aV]
  all_goals simp[T.has]
end Go.Proofs.YtahlgcidhnjlbaaGreat
namespace Go.Proofs.YtahlgcidhnjlbaaGreat
open Go Go.Pv
def Pp:C:=(aa [cx 2 0] (aa [bV 4 20] (aa [I 8 4,bV 5 0,I 6 8] (.seq (.block 0 (.loop (.seq (aa [I 9 6,I 10 1,bo 11 .leq 9 10] (aT 11 .skip (.exit 0))) (.block 1 (aa [aW 12 2 2,I 13 5,I 14 6,dn 15 231 [.t 12,.t 13,.t 14]] (aa [I 16 6,I 5 16] (.region [I 17 6,I 18 4,bo 19 .add 17 18,I 6 19]))))))) (aa [aW 20 2 2,I 21 5,I 22 1,dn 23 231 [.t 20,.t 21,.t 22]] (.block 2 (.loop (.seq (aa [I 24 4,I 25 1,bo 26 .lss 24 25] (aT 26 .skip (.exit 2))) (.block 3 (aa [I 27 4,b5 28 (.bin .mul false (gd 2) (.t 27)),bV 5 0,I 6 28] (.seq (.block 4 (.loop (.seq (aa [I 29 6,I 30 1,bo 31 .leq 29 30] (aT 31 .skip (.exit 4))) (.block 5 (aa [aW 32 2 2,I 33 5,I 34 5,I 35 4,bo 36 .add 34 35,I 37 6,dn 38 232 [.t 32,.t 33,.t 36,.t 37]] (aa [I 39 6,I 5 39] (.region [I 40 6,I 41 4,b5 42 (.bin .mul false (gd 2) (.t 41)),bo 43 .add 40 42,I 6 43]))))))) (.seq (aa [I 44 5,I 45 4,bo 46 .add 44 45,I 7 46] (aa [I 47 7,I 48 1,bo 49 .lss 47 48] (aT 49 (.region [aW 50 2 2,I 51 5,I 52 7,I 53 1,dn 54 232 [.t 50,.t 51,.t 52,.t 53]]) .skip))) (.region [I 55 4,aU 56 .mul 55 2,I 4 56])))))))))))))
@[simp] def ajZ:List bt:=[]
def HY:C:=(aa [cx 3 0] (aa [I 8 1,aU 9 .add 8 1,I 6 9] (.block 0 (.loop (.seq (aa [I 10 6,I 11 2,bo 12 .lss 10 11] (aT 12 .skip (.exit 0))) (.seq (.block 1 (aa [I 15 6,I 7 15] (.block 2 (.loop (.seq (aa [I 16 7,I 17 1,bo 18 .gtr 16 17,I 19 18,aq 19 true (aF 20 0 1 3),aq 19 true (ax 21 1 20),b3 19 true 22 7,b3 19 true 23 7,aq 19 true (aU 24 .sub 23 1),aq 19 true (gB 25 21 [.t 22,.t 24]),dz 26 19 25] (aT 26 .skip (.exit 2))) (.seq (.block 3 (.region [aF 29 1 1 3,ax 30 1 29,I 31 7,I 32 7,aU 33 .sub 32 1,gB 34 30 [.t 31,.t 33]])) (.region [I 27 7,aU 28 .sub 27 1,I 7 28]))))))) (.region [I 13 6,aU 14 .add 13 1,I 6 14])))))))
@[simp] def ajV:List bt:=[]
def DX:C:=(aa [I 164 16,I 165 22,bo 166 .lss 164 165,I 167 166,b3 167 true 168 22,b3 167 true 169 3,aq 167 true (bo 170 .lss 168 169),dz 171 167 170] (aT 171 (.region [aW 172 2 4,I 173 16,I 174 22,I 175 3,dn 176 232 [.t 172,.t 173,.t 174,.t 175]]) .skip))
def DY:C:=(.seq (aa [I 151 1,I 152 18,bo 153 .lss 151 152,I 154 153,b3 154 true 155 18,b3 154 true 156 16,aq 154 true (bo 157 .lss 155 156),dz 158 154 157] (aT 158 (.region [aW 159 2 4,I 160 1,I 161 18,I 162 16,dn 163 232 [.t 159,.t 160,.t 161,.t 162]]) .skip)) DX)
def H3:C:=(.seq (aa [I 138 18,I 139 2,bo 140 .lss 138 139,I 141 140,b3 141 true 142 2,b3 141 true 143 22,aq 141 true (bo 144 .lss 142 143),dz 145 141 144] (aT 145 (.region [aW 146 2 4,I 147 18,I 148 2,I 149 22,dn 150 251 [.t 146,.t 147,.t 148,.t 149]]) .skip)) DY)
def H4:C:=(aa [I 113 17,aU 114 .sub 113 1,I 20 114] (.seq (.block 8 (.loop (.seq (aa [I 115 18,I 116 19,bo 117 .lss 115 116] (aT 117 .skip (.exit 8))) (.block 9 (aa [I 118 18,I 119 19,bo 120 .add 118 119,b5 121 (.conv .u64 (.t 120)),b5 122 (.bin .shr false (.t 121) (.c (.int .u64 1))),b5 123 (.conv .i64 (.t 122)),I 21 123] (aa [aF 124 0 1 4,ax 125 1 124,I 126 20,I 127 21,bo 128 .sub 126 127,I 129 21,gB 130 125 [.t 128,.t 129],cu 131 130] (aT 131 (.region [I 132 21,aU 133 .add 132 1,I 18 133]) (.region [I 134 21,I 19 134])))))))) (aa [I 135 17,I 136 18,bo 137 .sub 135 136,I 22 137] H3)))
def Pr:C:=(aa [cx 4 0] (.seq (aa [I 23 2,I 24 1,bo 25 .sub 23 24,aU 26 .eql 25 1] (aT 26 (aa [I 27 2,I 8 27] (aa [I 28 3,I 9 28] (.seq (.block 0 (.loop (.seq (aa [I 29 8,I 30 9,bo 31 .lss 29 30] (aT 31 .skip (.exit 0))) (.block 1 (aa [I 32 8,I 33 9,bo 34 .add 32 33,b5 35 (.conv .u64 (.t 34)),b5 36 (.bin .shr false (.t 35) (.c (.int .u64 1))),b5 37 (.conv .i64 (.t 36)),I 10 37] (aa [aF 38 0 1 4,ax 39 1 38,I 40 10,I 41 1,gB 42 39 [.t 40,.t 41]] (aT 42 (.region [I 43 10,aU 44 .add 43 1,I 8 44]) (.region [I 45 10,I 9 45])))))))) (.seq (aa [I 46 1,I 11 46] (.block 2 (.loop (.seq (aa [I 47 11,I 48 8,aU 49 .sub 48 1,bo 50 .lss 47 49] (aT 50 .skip (.exit 2))) (.seq (.block 3 (.region [aF 53 1 1 4,ax 54 1 53,I 55 11,I 56 11,aU 57 .add 56 1,gB 58 54 [.t 55,.t 57]])) (.region [I 51 11,aU 52 .add 51 1,I 11 52])))))) .ret)))) .skip)) (.seq (aa [I 59 3,I 60 2,bo 61 .sub 59 60,aU 62 .eql 61 1] (aT 62 (aa [I 63 1,I 12 63] (aa [I 64 2,I 13 64] (.seq (.block 4 (.loop (.seq (aa [I 65 12,I 66 13,bo 67 .lss 65 66] (aT 67 .skip (.exit 4))) (.block 5 (aa [I 68 12,I 69 13,bo 70 .add 68 69,b5 71 (.conv .u64 (.t 70)),b5 72 (.bin .shr false (.t 71) (.c (.int .u64 1))),b5 73 (.conv .i64 (.t 72)),I 14 73] (aa [aF 74 0 1 4,ax 75 1 74,I 76 2,I 77 14,gB 78 75 [.t 76,.t 77],cu 79 78] (aT 79 (.region [I 80 14,aU 81 .add 80 1,I 12 81]) (.region [I 82 14,I 13 82])))))))) (.seq (aa [I 83 2,I 15 83] (.block 6 (.loop (.seq (aa [I 84 15,I 85 12,bo 86 .gtr 84 85] (aT 86 .skip (.exit 6))) (.seq (.block 7 (.region [aF 89 1 1 4,ax 90 1 89,I 91 15,I 92 15,aU 93 .sub 92 1,gB 94 90 [.t 91,.t 93]])) (.region [I 87 15,aU 88 .sub 87 1,I 15 88])))))) .ret)))) .skip)) (aa [I 95 1,I 96 3,bo 97 .add 95 96,b5 98 (.conv .u64 (.t 97)),b5 99 (.bin .shr false (.t 98) (.c (.int .u64 1))),b5 100 (.conv .i64 (.t 99)),I 16 100] (aa [I 101 16,I 102 2,bo 103 .add 101 102,I 17 103] (aa [bV 18 0,bV 19 0] (.seq (aa [I 104 2,I 105 16,bo 106 .gtr 104 105] (aT 106 (aa [I 107 17,I 108 3,bo 109 .sub 107 108,I 18 109] (.region [I 110 16,I 19 110])) (aa [I 111 1,I 18 111] (.region [I 112 2,I 19 112])))) H4)))))))
@[simp] def aj0:List bt:=[]
def Pn:C:=(aa [cx 4 0] (aa [I 10 2,I 11 1,bo 12 .sub 10 11,I 8 12] (aa [I 13 3,I 14 2,bo 15 .sub 13 14,I 9 15] (.seq (.block 0 (.loop (.seq (aa [I 16 8,I 17 9,bo 18 .neq 16 17] (aT 18 .skip (.exit 0))) (.block 1 (aa [I 19 8,I 20 9,bo 21 .gtr 19 20] (aT 21 (aa [aW 22 2 4,I 23 2,I 24 8,bo 25 .sub 23 24,I 26 2,I 27 9,dn 28 270 [.t 22,.t 25,.t 26,.t 27]] (.region [I 29 8,I 30 9,bo 31 .sub 29 30,I 8 31])) (aa [aW 32 2 4,I 33 2,I 34 8,bo 35 .sub 33 34,I 36 2,I 37 9,bo 38 .add 36 37,I 39 8,bo 40 .sub 38 39,I 41 8,dn 42 270 [.t 32,.t 35,.t 40,.t 41]] (.region [I 43 9,I 44 8,bo 45 .sub 43 44,I 9 45])))))))) (.region [aW 46 2 4,I 47 2,I 48 8,bo 49 .sub 47 48,I 50 2,I 51 8,dn 52 270 [.t 46,.t 49,.t 50,.t 51]])))))
@[simp] def ajX:List bt:=[]
def Pq:C:=(aa [cx 4 0] (aa [bV 8 0] (.block 0 (.loop (.seq (aa [I 9 8,I 10 3,bo 11 .lss 9 10] (aT 11 .skip (.exit 0))) (.seq (.block 1 (.region [aF 14 1 1 4,ax 15 1 14,I 16 1,I 17 8,bo 18 .add 16 17,I 19 2,I 20 8,bo 21 .add 19 20,gB 22 15 [.t 18,.t 21]])) (.region [I 12 8,aU 13 .add 12 1,I 8 13])))))))
@[simp] def VA:List bt:=[]
def Az:List (Nat×dC):=[
 (3,⟨1,8,.int .i64,.int .i64 0⟩),
 (143,⟨1,8,.other,.junk⟩),
 (181,⟨1,8,.other,.junk⟩),
 (185,⟨2,16,.struct [(0,143),(1,181)],.agg [.junk,.junk]⟩),
 (192,⟨1,8,.int .u64,.int .u64 0⟩)]
theorem AB:fM al Az=true:=by kernel_rfl
theorem aij:bX Az Pp ajZ 2 Tryz.f199=true:=by kernel_rfl
theorem abR:al.funcs[(199:Nat)]? =some Tryz.f199:=Tryz.func199
theorem UG:bX Az HY ajV 3 Tryz.f231=true:=by kernel_rfl
theorem QR:al.funcs[(231:Nat)]? =some Tryz.f231:=Tryz.func231
theorem ail:bX Az Pr aj0 4 Tryz.f232=true:=by kernel_rfl
theorem abT:al.funcs[(232:Nat)]? =some Tryz.f232:=Tryz.func232
theorem aih:bX Az Pn ajX 4 Tryz.f251=true:=by kernel_rfl
theorem abP:al.funcs[(251:Nat)]? =some Tryz.f251:=Tryz.func251
theorem aik:bX Az Pq VA 4 Tryz.f270=true:=by kernel_rfl
theorem abS:al.funcs[(270:Nat)]? =some Tryz.f270:=Tryz.func270
end Go.Proofs.YtahlgcidhnjlbaaGreat
namespace Go.Proofs.YtahlgcidhnjlbaaGreat
open Go Go.Pv
structure e1 {α:Type} (S:List α→cI) (n:Nat) (g b6:Nat) (lc b2:List ah) (lt:α→α→Bool):Prop where
 ok:∀l,ea (S l)
 same:∀l aZ,l.length=n→aZ.length=n→Same (S l) (S aZ)
 klc:∀l,l.length=n→aJ (inObs (S l)) lc
 ksc:∀l,l.length=n→aJ (inObs (S l)) b2
 slc:cR lc=lc
 ssc:cR b2=b2
 le:n≤68719476736
 less:∀l,l.length=n→∀(i j:Nat) x y,l[i]? =some x→l[j]? =some y→bN al g (.int .i64 i:: .int .i64 j::lc) (S l) fun r ai=>r= .bool (lt x y)∧ai=S l
 swap:∀l,l.length=n→2≤n→∀i j:Nat,i<n→j<n→bN al b6 (.int .i64 i:: .int .i64 j::b2) (S l) fun r ai=>r= .tuple []∧ai=S (gX l i j)
variable {α:Type} {S:List α→cI} {n g b6:Nat} {lc b2:List ah} {lt:α→α→Bool}
def eV(g b6:Nat)(lc b2:List ah):ah:= .agg [.func g lc,.func b6 b2]
theorem I6(H:e1 S n g b6 lc b2 lt)(l:List α)(au:l.length=n)(a b c:Nat)(aop:a+c≤b)(RH:b+c≤n):
  bN al 270 [eV g b6 lc b2,.int .i64 a,.int .i64 b,.int .i64 c] (S l) fun r ai=>r= .tuple []∧∃aZ,ai=S aZ∧gm a (b+c) l aZ∧∀k,aZ[k]? =l[rP a b c k]?:=by
 have ag:=H.ok l;have aw:∀l m,Pv.look (.loc m) (S l).b=none:=fun l=>(H.ok l).obj.1;have hu:∀l m cs,cw (.loc m) cs (S l).b=(S l).b++[(.loc m,cs)]:=fun l m cs=>jT (aw l m);have av:∀m,aH.loc m∉cQ (S l):=jO ag.obj;have hle:=H.le;refine bN.mk mixed AB abS aik (by simp) ag.obj fun aP cP=>?_;unfold Pq;simp[eV,hu,av,cH,aw,H.slc,H.ssc];refine hR (fun i (lk:List α)=>⟨[(1,.int .i64 a),(2,.int .i64 b),(3,.int .i64 c),(4,.ptr (.loc 0) 0),(8,.int .i64 i)],[(.loc 0,[.func g lc,.func b6 b2])]++(S lk).b,(S lk).e,1,cQ (S l)⟩) c (fun i lk=>lk.length=n∧gm a (b+c) l lk∧∀k,lk[k]? =l[rP a b i k]?) l
  (iA.obL ag (Same.refl _) (by simp[aC]) (by simp[cH,aw,aC,aJ,zP (H.klc l au),zP (H.ksc l au)]) aR aR) ⟨au,.refl _,fun k=>by simp[rP];split<;>(try split)<;>(try rfl)<;>(exfalso;omega)⟩ ?_ ?_
 ·rintro lk ⟨J,U,ao⟩ _;simp;refine cS.at (S lk) (.inr rfl) (H.ok lk) (H.same _ _ au J) aR aR ?_;simp[cZ,VA,aX,aY,aV];exact⟨lk,rfl,U,ao⟩
 ·rintro i lk hi ⟨J,U,ao⟩ _;have ak:((a:Int)+i)=(a+i:Nat):=by omega
  have aB:((b:Int)+i)=(b+i:Nat):=by omega
  simp[hi,cH,aw,H.ssc];(with_reducible repeat' first|refine aj ?_|simp);rw[ak,aB];refine c4.ob (H.swap lk J (by omega) (a+i) (b+i) (by omega) (by omega)) (H.ok lk) aR aR (by simp[H.ksc lk J]) ?_;rintro r ai ⟨rfl,rfl⟩;refine⟨H.same _ _ J (by simp[J]),?_⟩;simp[gO,ir,cv,aw];(with_reducible repeat' first|refine aj ?_|simp);refine bP.rng (gX lk (a+i) (b+i)) hi ⟨by simp[J],.step U (by omega) (by omega) (by omega) (by omega) (by omega) (by omega),fun k=>?_⟩ (iA.obL (L:=[(.loc 0,[.func g lc,.func b6 b2])]) (H.ok _) (H.same _ _ au (by simp[J])) (by simp[aC]) (by simp[cH,aw,aC,aJ,zP (H.klc (gX lk (a+i) (b+i)) (by simp[J])),zP (H.ksc (gX lk (a+i) (b+i)) (by simp[J]))]) aR aR);rw[zF _ _ _ _ (by omega) (by omega),ao,ao,ao];have:rP a b (i+1) k=if k=a+i then rP a b i (b+i)else if k=b+i then rP a b i (a+i)else rP a b i k:=by
   simp only[rP];repeat' split
   all_goals omega
  rw[this];split
  ·rfl
  ·split<;>rfl
section
variable (H:e1 S n g b6 lc b2 lt)
include H
theorem e1.loc{l:List α}(m:Nat):Pv.look (.loc m) (S l).b=none:=(H.ok l).obj.1 m
theorem e1.weak{l lk:List α}(au:l.length=n)(ad:lk.length=n){st:bq}{dJ:List (Nat×ah)}(aN:∀x∈dJ,Pv.get x.1 st.t=x.2∧aC (l0 (S lk) 1) x.2)(bB:Pv.look (.loc 0) st.b=some [.func g lc,.func b6 b2])
  (ae:∀k cs,Pv.look k (S lk).b=some cs→Pv.look k st.b=some cs) (he:∀k o,Pv.look k (S lk).e=some o→Pv.look k st.e=some o):
  iA (cQ (S l)) st ⟨dJ,(.loc 0,[.func g lc,.func b6 b2])::(S lk).b,(S lk).e,1,cQ (S l)⟩:=
 iA.obL (L:=[(.loc 0,[.func g lc,.func b6 b2])]) (H.ok _) (H.same _ _ au ad) aN (by simp[bB,aC,aJ,zP (H.klc lk ad),zP (H.ksc lk ad)]) ae he
theorem e1.weakC{l lk:List α}(au:l.length=n)(ad:lk.length=n){t dJ:List (Nat×ah)}{q:Nat}{o:List aH}(aN:∀x∈dJ,Pv.get x.1 t=x.2∧aC (l0 (S lk) 1) x.2):
  iA (cQ (S l)) ⟨t,(.loc 0,[.func g lc,.func b6 b2])::(S lk).b,(S lk).e,q,o⟩ ⟨dJ,(.loc 0,[.func g lc,.func b6 b2])::(S lk).b,(S lk).e,1,cQ (S l)⟩:=
 H.weak au ad aN (by simp[Pv.look]) (fun k cs ab=>by
  cases k with
  |loc m=>rw[H.loc m]at ab;cases ab
  |obj m=>simpa[Pv.look]using ab) (fun _ _ ab=>ab)
theorem e1.call{lk:List α}(J:lk.length=n){f:Nat}{args:List ah}{R:ah→List α→Prop}(aI:bN al f args (S lk) fun r ai=> ∃aZ,ai=S aZ∧R r aZ)(bh:∀r aZ,R r aZ→aZ.length=n)(ad:aJ (inObs (S lk)) args){t:List (Nat×ah)}{D:List ah}{o:List aH}{d:Option Nat}{K:bq→Prop}
  (h:∀r aZ,R r aZ→K ⟨eQ d r t,(.loc 0,D)::(S aZ).b,(S aZ).e,1,o++cQ (S aZ)⟩):c4 al f args ⟨t,(.loc 0,D)::(S lk).b,(S lk).e,1,o⟩ d K:=by
 refine c4.ob aI (H.ok lk) (fun k cs ab=>?_) (fun _ _ ab=>ab) ad ?_
 ·cases k with
  |loc m=>rw[H.loc m]at ab;cases ab
  |obj m=>simpa[Pv.look]using ab
 ·rintro r ai ⟨aZ,rfl,aL⟩;refine⟨H.same _ _ J (bh _ _ aL),?_⟩;have ak:cv (S lk).b ((.loc 0,D)::(S lk).b)=[(.loc 0,D)]:=by have:=ir (S lk).b [(aH.loc 0,D)] (S lk).b;rw[gO]at this;simpa[cv,H.loc]using this
  have aB:cv (S lk).e (S lk).e=[]:=gO _;have:=h _ _ aL;simp only[ak,aB];exact this
theorem e1.doSwap{lk:List α}(J:lk.length=n)(i j:Nat)(hi:i<n)(af:j<n)(U:2≤n){t:List (Nat×ah)}{D:List ah}{o:List aH}{d:Option Nat}{K:bq→Prop}
  (h:K ⟨eQ d (.tuple []) t,(.loc 0,D)::(S (gX lk i j)).b,(S (gX lk i j)).e,1,o++cQ (S (gX lk i j))⟩):c4 al b6 (.int .i64 i:: .int .i64 j::b2) ⟨t,(.loc 0,D)::(S lk).b,(S lk).e,1,o⟩ d K:=
 H.call J (R:=fun r aZ=>r= .tuple []∧aZ=gX lk i j) ((H.swap lk J U i j hi af).mono fun r ai ⟨ak,aB⟩=>⟨_,aB,ak,rfl⟩) (fun r aZ ⟨_,e⟩=>by rw[e];simp[J]) (by simp[aC,aJ,H.ksc lk J]) (by rintro r aZ ⟨rfl,rfl⟩;exact h)
theorem e1.doLess{lk:List α}(J:lk.length=n)(i j:Nat){x y:α}(hi:lk[i]? =some x)(af:lk[j]? =some y){t:List (Nat×ah)}{D:List ah}{o:List aH}{d:Option Nat}{K:bq→Prop}
  (h:K ⟨eQ d (.bool (lt x y)) t,(.loc 0,D)::(S lk).b,(S lk).e,1,o++cQ (S lk)⟩):c4 al g (.int .i64 i:: .int .i64 j::lc) ⟨t,(.loc 0,D)::(S lk).b,(S lk).e,1,o⟩ d K:=
 H.call J (R:=fun r aZ=>r= .bool (lt x y)∧aZ=lk) ((H.less lk J i j x y hi af).mono fun r ai ⟨ak,aB⟩=>⟨_,aB,ak,rfl⟩) (fun r aZ ⟨_,e⟩=>by rw[e];exact J) (by simp[aC,aJ,H.klc lk J]) (by rintro r aZ ⟨rfl,rfl⟩;exact h)
theorem e1.doFn{lk:List α}(J:lk.length=n){f:Nat}{args:List ah}{R:List α→Prop}(aI:bN al f args (S lk) fun r ai=>r= .tuple []∧∃aZ,ai=S aZ∧R aZ)(bh:∀aZ,R aZ→aZ.length=n)(ad:aJ (inObs (S lk)) args){t:List (Nat×ah)}{D:List ah}{o:List aH}{d:Option Nat}{K:bq→Prop}
  (h:∀aZ,R aZ→K ⟨eQ d (.tuple []) t,(.loc 0,D)::(S aZ).b,(S aZ).e,1,o++cQ (S aZ)⟩):c4 al f args ⟨t,(.loc 0,D)::(S lk).b,(S lk).e,1,o⟩ d K:=
 H.call J (R:=fun r aZ=>r= .tuple []∧R aZ) (aI.mono fun r ai ⟨ak,aZ,aB,bf⟩=>⟨aZ,aB,ak,bf⟩) (fun r aZ h=>bh aZ h.2) ad (by rintro r aZ ⟨rfl,aL⟩;exact h aZ aL)
theorem e1.kdata{lk:List α}(J:lk.length=n):aC (inObs (S lk)) (eV g b6 lc b2):=by simp[eV,aC,aJ,H.klc lk J,H.ksc lk J]
theorem e1.ret{l lk:List α}(au:l.length=n)(J:lk.length=n){Q:ah→cI→Prop}{e:Exit}(he:e= .ret∨e= .normal){t:List (Nat×ah)}{D:List ah}{q:Nat}{o:List aH}(bn:Q (.tuple []) (S lk)):cS [] (S l) Q e ⟨t,(.loc 0,D)::(S lk).b,(S lk).e,q,o⟩:=by
 refine cS.at (S lk) he (H.ok lk) (H.same _ _ au J) (fun k cs ab=>?_) (fun _ _ ab=>ab) ?_
 ·cases k with
  |loc m=>rw[H.loc m]at ab;cases ab
  |obj m=>simpa[Pv.look]using ab
 ·simp[cZ,aX,aV,aC,aJ,bn]
end
theorem h6(H:e1 S n g b6 lc b2 lt):dh (eV g b6 lc b2)=eV g b6 lc b2:=by simp[eV,dh,cR,H.slc,H.ssc]
theorem h1:ah.agg [.func g lc,.func b6 b2]=eV g b6 lc b2:=rfl
theorem ac9(H:e1 S n g b6 lc b2 lt)(l:List α)(au:l.length=n)(a m b:Nat)(Bz:a<m)(vk:m<b)(ae:b≤n):
  bN al 251 [eV g b6 lc b2,.int .i64 a,.int .i64 m,.int .i64 b] (S l) fun r ai=>r= .tuple []∧∃aZ,ai=S aZ∧gm a b l aZ∧∀k,aZ[k]? =l[hP a m b k]?:=by
 have ag:=H.ok l;have aw:∀l m,Pv.look (.loc m) (S l).b=none:=fun l=>(H.ok l).obj.1;have hu:∀l m cs,cw (.loc m) cs (S l).b=(S l).b++[(.loc m,cs)]:=fun l m cs=>jT (aw l m);have av:∀m,aH.loc m∉cQ (S l):=jO ag.obj;have hle:=H.le;refine bN.mk mixed AB abP aih (by simp) ag.obj fun aP cP=>?_;unfold Pn;simp[eV,hu,av,cH,aw];(with_reducible repeat' first|refine aj ?_|simp[hu,av,cH,aw]);refine n2 (fun(x:(Nat×Nat)×List α)=>⟨[(2,.int .i64 m),(4,.ptr (.loc 0) 0),(8,.int .i64 x.1.1),(9,.int .i64 x.1.2)],(.loc 0,[.func g lc,.func b6 b2])::(S x.2).b,(S x.2).e,1,cQ (S l)⟩) (fun x=>x.1.1+x.1.2)
  (fun x=>x.2.length=n∧0<x.1.1∧0<x.1.2∧a+x.1.1≤m∧m+x.1.2≤b∧gm a b l x.2∧∀k,l[hP a m b k]? =x.2[hP (m-x.1.1) m (m+x.1.2) k]?) ((m-a,b-m),l)
  (H.weak au au (by simp[aC];omega) (by simp[cH,aw]) aR aR) ⟨au,by simp;omega,by simp;omega,by simp;omega,by simp;omega,.refl _,fun k=>by simp[show m-(m-a)=a by omega,show m+(b-m)=b by omega]⟩ ?_
 rintro⟨⟨i,j⟩,lk⟩ ⟨J,hi,af,gh,EN,U,ao⟩ _;simp only at J hi af gh EN U ao;simp[Pv.look];((with_reducible repeat' first|refine aj ?_|simp[Pv.look]|((first|apply bM|apply bR|apply bQ)<;>intro h<;>try simp at h))<;>(try exact ch))
 ·have ak:((m:Int)-i)=(m-i:Nat):=by omega
  simp only[h6 H,H.slc,H.ssc,ak,h1];refine H.doFn J (I6 H lk J (m-i) m j (by omega) (by omega)) (fun aZ h=>by rw[h.1.length];exact J) (by simp[aJ,aC,H.kdata J]) ?_;rintro aZ ⟨a6,bz⟩;have bU:aZ.length=n:=by rw[a6.length];exact J
  simp;((with_reducible repeat' first|refine aj ?_|simp|((first|apply bM|apply bR|apply bQ)<;>intro h<;>try simp at h))<;>(try exact ch));refine bP.whl ((i-j,j),aZ) (by simp;omega) ⟨bU,by simp;omega,af,by simp;omega,EN,U.trans (a6.mono (by omega) (by omega)),fun k=>?_⟩ (H.weakC au bU (by simp[aC];omega));rw[ao,bz];congr 1;simp only[hP,rP];repeat' split
  all_goals omega
 ·have ak:((m:Int)-i)=(m-i:Nat):=by omega
  have aB:((m:Int)+j-i)=(m+j-i:Nat):=by omega
  simp only[h6 H,H.slc,H.ssc,ak,aB,h1];refine H.doFn J (I6 H lk J (m-i) (m+j-i) i (by omega) (by omega)) (fun aZ h=>by rw[h.1.length];exact J) (by simp[aJ,aC,H.kdata J]) ?_;rintro aZ ⟨a6,bz⟩;have bU:aZ.length=n:=by rw[a6.length];exact J
  simp;(with_reducible repeat' first|refine aj ?_|simp);refine bP.whl ((i,j-i),aZ) (by simp;omega) ⟨bU,hi,by simp;omega,gh,by simp;omega,U.trans (a6.mono (by omega) (by omega)),fun k=>?_⟩ (H.weakC au bU (by simp[aC];omega));rw[ao,bz];congr 1;simp only[hP,rP];repeat' split
  all_goals omega
 ·have ak:((m:Int)-i)=(m-i:Nat):=by omega
  simp only[h6 H,H.slc,H.ssc,ak,h1];refine H.doFn J (I6 H lk J (m-i) m i (by omega) (by omega)) (fun aZ h=>by rw[h.1.length];exact J) (by simp[aJ,aC,H.kdata J]) ?_;rintro aZ ⟨a6,bz⟩;have bU:aZ.length=n:=by rw[a6.length];exact J
  simp;refine H.ret au bU (.inr rfl) ⟨rfl,aZ,rfl,U.trans (a6.mono (by omega) (by omega)),fun k=>?_⟩;rw[ao,bz];congr 1;simp only[hP,rP];repeat' split
  all_goals omega
end Go.Proofs.YtahlgcidhnjlbaaGreat
namespace Go.Proofs.YtahlgcidhnjlbaaGreat
open Go Go.Pv
variable {α:Type} {S:List α→cI} {n g b6:Nat} {lc b2:List ah} {lt:α→α→Bool}
def tj(lt:α→α→Bool)(a b j:Nat)(l:List α):Prop:= ∀p q x y,a≤p→p<q→q<b→q≠j→l[p]? =some x→l[q]? =some y→lt y x=false
theorem tj.swap(bC:qa lt){a b j:Nat}{l:List α}(h:tj lt a b (j+1) l)(RG:a≤j)(EN:j+1<b)(af:j+1<l.length){x y:α}(ab:l[j+1]? =some x)(aG:l[j]? =some y)(hK:lt x y=true):tj lt a b j (gX l (j+1) j):=by
 intro p q u v bI km bn aoE hu aK;rw[zF _ _ _ _ af (by omega)]at hu aK;rw[if_neg (by omega:¬(q=j))]at aK;split at aK
 ·rename_i e;subst e;rw[aG]at aK;cases aK;split at hu
  ·omega
  ·split at hu
   ·rw[ab]at hu;cases hu;exact bC.asym _ _ hK
   ·exact h p j u y bI (by omega) (by omega) (by omega) hu aG
 ·split at hu
  ·rename_i e;subst e;rw[aG]at hu;cases hu;exact h j q y v RG (by omega) bn (by omega) aG aK
  ·split at hu
   ·rename_i e;subst e;rw[ab]at hu;cases hu;exact h (p+1) q x v (by omega) (by omega) bn (by omega) ab aK
   ·exact h p q u v bI km bn (by omega) hu aK
theorem tj.done(bC:qa lt){a b j:Nat}{l:List α}(h:tj lt a b (j+1) l)(RG:a≤j)(EN:j+1<b){x y:α}(ab:l[j+1]? =some x)(aG:l[j]? =some y)(hK:lt x y=false):fa lt a b l:=by
 intro p q u v bI km bn hu aK;by_cases e:q=j+1
 ·subst e;rw[ab]at aK;cases aK;by_cases aB:p=j
  ·subst aB;rw[aG]at hu;cases hu;exact hK
  ·exact bC.ntr _ _ _ (h p j u y bI (by omega) (by omega) (by omega) hu aG) hK
 ·exact h p q u v bI km bn e hu aK
theorem tj.first{a b:Nat}{l:List α}(h:tj lt a b a l):fa lt a b l:=fun p q u v bI km bn hu aK=>h p q u v bI km bn (by omega) hu aK
theorem fa.but{a b:Nat}{l:List α}(h:fa lt a b l):tj lt a (b+1) b l:=fun p q u v bI km bn JH hu aK=>h p q u v bI km (by omega) hu aK
theorem Ri(H:e1 S n g b6 lc b2 lt)(bC:qa lt)(l:List α)(au:l.length=n)(a b:Nat)(mQ:a≤b)(ae:b≤n):
  bN al 231 [eV g b6 lc b2,.int .i64 a,.int .i64 b] (S l) fun r ai=>r= .tuple []∧∃aZ,ai=S aZ∧gm a b l aZ∧fa lt a b aZ:=by
 have ag:=H.ok l;have aw:∀l m,Pv.look (.loc m) (S l).b=none:=fun l=>(H.ok l).obj.1;have hu:∀l m cs,cw (.loc m) cs (S l).b=(S l).b++[(.loc m,cs)]:=fun l m cs=>jT (aw l m);have av:∀m,aH.loc m∉cQ (S l):=jO ag.obj;have hle:=H.le;refine bN.mk mixed AB QR UG (by simp) ag.obj fun aP cP=>?_;unfold HY;simp[eV,hu,av,cH,aw];(with_reducible repeat' first|refine aj ?_|simp[hu,av,cH,aw]);refine n2 (fun(x:Nat×List α)=>⟨[(1,.int .i64 a),(2,.int .i64 b),(3,.ptr (.loc 0) 0),(6,.int .i64 x.1)],(.loc 0,[.func g lc,.func b6 b2])::(S x.2).b,(S x.2).e,1,cQ (S l)⟩) (fun x=>b+1-x.1)
  (fun x=>x.2.length=n∧a<x.1∧x.1≤b+1∧(x.1≤b∨x.1=a+1)∧gm a b l x.2∧fa lt a x.1 x.2) (a+1,l)
  (H.weak au au (by simp[aC]) (by simp[cH,aw]) aR aR) ⟨au,by simp,by simp;omega,.inr rfl,.refl _,fun i j x y J U ao=>by simp at ao;omega⟩ ?_
 rintro⟨i,lk⟩ ⟨J,mR,y6,sv,U,ao⟩ _;simp only at J mR y6 sv U ao;simp;((with_reducible repeat' first|refine aj ?_|simp|((first|apply bM|apply bR|apply bQ)<;>intro h<;>try simp at h))<;>(try exact ch))
 ·refine n2 (fun(x:Nat×List α)=>⟨[(1,.int .i64 a),(2,.int .i64 b),(3,.ptr (.loc 0) 0),(6,.int .i64 i),(7,.int .i64 x.1)],(.loc 0,[.func g lc,.func b6 b2])::(S x.2).b,(S x.2).e,1,cQ (S l)⟩) (fun x=>x.1)
   (fun x=>x.2.length=n∧a≤x.1∧x.1≤i∧gm a b l x.2∧tj lt a (i+1) x.1 x.2) (i,lk)
   (H.weakC au J (by simp[aC])) ⟨J,by simp;omega,by simp,U,fa.but ao⟩ ?_
  rintro⟨j,Ck⟩ ⟨aS,afM,af1,bp,bW⟩ _;simp only at aS afM af1 bp bW;simp[Pv.look];((with_reducible repeat' first|refine aj ?_|simp[Pv.look]|((first|apply bM|apply bR|apply bQ)<;>intro h<;>try simp at h))<;>(try exact ch))
  ·obtain⟨dD,rfl⟩:∃dD,j=dD+1:=⟨j-1,by omega⟩;obtain⟨x,ab⟩:∃x,Ck[dD+1]? =some x:=⟨_,cf (by omega)⟩;obtain⟨y,aG⟩:∃y,Ck[dD]? =some y:=⟨_,cf (by omega)⟩;have ak:(((dD+1:Nat):Int)-1)=(dD:Nat):=by omega
   rw[H.slc,ak];refine H.doLess aS (dD+1) dD ab aG ?_;simp;cases hK:lt x y with
   |true=>
    simp[Pv.look];(with_reducible repeat' first|refine aj ?_|simp[Pv.look]);have bf:((dD:Int)+1)=(dD+1:Nat):=by omega
    rw[H.ssc,bf];refine H.doSwap aS (dD+1) dD (by omega) (by omega) (by omega) ?_;simp;(with_reducible repeat' first|refine aj ?_|simp);refine bP.whl (dD,gX Ck (dD+1) dD) (by simp) ⟨by simp[aS],by simp;omega,by simp;omega,.step bp (by omega) (by omega) (by omega) (by omega) (by omega) (by omega),bW.swap bC (by omega) (by omega) (by omega) ab aG hK⟩ (H.weakC au (by simp[aS]) (by simp[aC]))
   |false=>simp;((with_reducible repeat' first|refine aj ?_|simp|((first|apply bM|apply bR|apply bQ)<;>intro h<;>try simp at h))<;>(try exact ch));refine bP.whl (i+1,Ck) (by simp;omega) ⟨aS,by simp;omega,by simp;omega,by simp;omega,bp,bW.done bC (by omega) (by omega) ab aG hK⟩ (H.weakC au aS (by simp[aC]))
  ·obtain rfl:j=a:=by omega
   refine bP.whl (i+1,Ck) (by simp;omega) ⟨aS,by simp;omega,by simp;omega,by simp;omega,bp,bW.first⟩ (H.weakC au aS (by simp[aC]))
 ·refine H.ret au J (.inr rfl) ⟨rfl,lk,rfl,U,fun p q x y bI km bn=>ao p q x y bI km (by omega)⟩
end Go.Proofs.YtahlgcidhnjlbaaGreat
namespace Go.Proofs.YtahlgcidhnjlbaaGreat
open Go Go.Pv
variable {α:Type} [Inhabited α] {S:List α→cI} {n g b6:Nat} {lc b2:List ah} {lt:α→α→Bool}
theorem yt{d:Array α}{i:Nat}(h:i<d.size):d.toList[i]? =some d[i]!:=by simp[getElem!_pos,h]
theorem FE(d:Array α){i j:Nat}(hi:i<d.size)(af:j<d.size):gX d.toList i j=(Sort.swp d i j).toList:=by simp[gX,Sort.swp,yt hi,yt af]
section
variable (H:e1 S n g b6 lc b2 lt)
include H
theorem e1.swapA{d:Array α}(J:d.size=n)(U:2≤n)(i j:Nat)(hi:i<n)(af:j<n){t:List (Nat×ah)}{D:List ah}{o:List aH}{b8:Option Nat}{K:bq→Prop}
  (h:∀o,K ⟨eQ b8 (.tuple []) t,(.loc 0,D)::(S (Sort.swp d i j).toList).b,(S (Sort.swp d i j).toList).e,1,o⟩):c4 al b6 (.int .i64 i:: .int .i64 j::b2) ⟨t,(.loc 0,D)::(S d.toList).b,(S d.toList).e,1,o⟩ b8 K:=by
 refine H.doSwap (by simpa using J) i j hi af U ?_;rw[FE d (by omega) (by omega)];exact h _
theorem e1.lessA{d:Array α}(J:d.size=n)(i j:Nat)(hi:i<n)(af:j<n){t:List (Nat×ah)}{D:List ah}{o:List aH}{b8:Option Nat}{K:bq→Prop}
  (h:∀o,K ⟨eQ b8 (.bool (lt d[i]! d[j]!)) t,(.loc 0,D)::(S d.toList).b,(S d.toList).e,1,o⟩):c4 al g (.int .i64 i:: .int .i64 j::lc) ⟨t,(.loc 0,D)::(S d.toList).b,(S d.toList).e,1,o⟩ b8 K:=
 H.doLess (by simpa using J) i j (yt (by omega)) (yt (by omega)) (h _)
theorem e1.fnA{d d2:Array α}(J:d.size=n)(U:d2.size=n){f:Nat}{args:List ah}{r:ah}(aI:bN al f args (S d.toList) fun eJ ai=>eJ=r∧ai=S d2.toList)(ad:aJ (inObs (S d.toList)) args){t:List (Nat×ah)}{D:List ah}{o:List aH}{b8:Option Nat}{K:bq→Prop}
  (h:∀o,K ⟨eQ b8 r t,(.loc 0,D)::(S d2.toList).b,(S d2.toList).e,1,o⟩):c4 al f args ⟨t,(.loc 0,D)::(S d.toList).b,(S d.toList).e,1,o⟩ b8 K:=
 H.call (by simpa using J) (R:=fun eJ aZ=>eJ=r∧aZ=d2.toList) (aI.mono fun r ai ⟨ak,aB⟩=>⟨_,aB,ak,rfl⟩) (fun r aZ ⟨_,e⟩=>by rw[e];simpa using U) ad (by rintro eJ aZ ⟨rfl,rfl⟩;exact h _)
end
section
variable (H:e1 S n g b6 lc b2 lt)
include H
theorem e1.loopA{β:Type}{xB:List α}(au:xB.length=n){t:List (Nat×ah)}{b:List (aH×List ah)}{e:List (aH×fF)}{q:Nat}{o:List aH}(b9:List Nat)(cs:β→List (Nat×ah))(A:β→Array α)(μ:β→Nat)(gI:β→Prop)(a0:β)(bg:(A a0).size=n)(bB:gI a0)
  (va:Pv.look (.loc 0) b=some [.func g lc,.func b6 b2]) (ae:∀k cs,Pv.look k (S (A a0).toList).b=some cs→Pv.look k b=some cs) (he:∀k o,Pv.look k (S (A a0).toList).e=some o→Pv.look k e=some o)
  (aN:∀x∈tV t b9++cs a0,Pv.get x.1 t=x.2∧aC (l0 (S (A a0).toList) 1) x.2) {c:C} {Q:Exit→bq→Prop}
  (ag:∀a,gI a→cU al (cQ (S xB)) c (bP (cQ (S xB)) (AL (fun a=>⟨tV t b9++cs a,(.loc 0,[.func g lc,.func b6 b2])::(S (A a).toList).b,(S (A a).toList).e,1,cQ (S xB)⟩) μ gI) (μ a) Q) ⟨tV t b9++cs a,(.loc 0,[.func g lc,.func b6 b2])::(S (A a).toList).b,(S (A a).toList).e,1,cQ (S xB)⟩):
  cU al (cQ (S xB)) (.loop c) Q ⟨t,b,e,q,o⟩:=
 n2 (fun a=>⟨tV t b9++cs a,(.loc 0,[.func g lc,.func b6 b2])::(S (A a).toList).b,(S (A a).toList).e,1,cQ (S xB)⟩) μ gI a0 (H.weak au (by simpa using bg) aN va ae he) bB fun a af _=>ag a af
theorem e1.callA0{lk:List α}(J:lk.length=n){f:Nat}{args:List ah}{R:ah→List α→Prop}(aI:bN al f args (S lk) fun r ai=> ∃aZ,ai=S aZ∧R r aZ)(bh:∀r aZ,R r aZ→aZ.length=n)(ad:aJ (inObs (S lk)) args){t:List (Nat×ah)}{D:List ah}{o:List aH}{d:Option Nat}{K:bq→Prop}
  (h:∀r aZ,R r aZ→∀o,K ⟨eQ d r t,(.loc 0,D)::(S aZ).b,(S aZ).e,1,o⟩):c4 al f args ⟨t,(S lk).b++[(.loc 0,D)],(S lk).e,1,o⟩ d K:=by
 refine c4.ob aI (H.ok lk) (fun k cs ab=>by rw[cH,ab]) (fun _ _ ab=>ab) ad ?_;rintro r ai ⟨aZ,rfl,aL⟩;refine⟨H.same _ _ J (bh _ _ aL),?_⟩;have ak:cv (S lk).b ((S lk).b++[(.loc 0,D)])=[(.loc 0,D)]:=by rw[ir,gO];simp[cv,H.loc]
 have aB:cv (S lk).e (S lk).e=[]:=gO _;have:=h _ _ aL (o++cQ (S aZ));simp only[ak,aB];exact this
theorem e1.swapA0{d:Array α}(J:d.size=n)(U:2≤n)(i j:Nat)(hi:i<n)(af:j<n){t:List (Nat×ah)}{D:List ah}{o:List aH}{b8:Option Nat}{K:bq→Prop}
  (h:∀o,K ⟨eQ b8 (.tuple []) t,(.loc 0,D)::(S (Sort.swp d i j).toList).b,(S (Sort.swp d i j).toList).e,1,o⟩):c4 al b6 (.int .i64 i:: .int .i64 j::b2) ⟨t,(S d.toList).b++[(.loc 0,D)],(S d.toList).e,1,o⟩ b8 K:=by
 refine H.callA0 (by simpa using J) (R:=fun r aZ=>r= .tuple []∧aZ=(Sort.swp d i j).toList) ((H.swap d.toList (by simpa using J) U i j hi af).mono fun r ai ⟨ak,aB⟩=>⟨_,aB,ak,FE d (by omega) (by omega)⟩) (fun r aZ ⟨_,e⟩=>by rw[e];simp[Sort.swp,J]) (by simp[aC,aJ,H.ksc d.toList (by simpa using J)]) ?_;rintro r aZ ⟨rfl,rfl⟩ o;exact h o
theorem e1.retA{l:List α}{d:Array α}(au:l.length=n)(J:d.size=n){Q:ah→cI→Prop}{e:Exit}(he:e= .ret∨e= .normal){t:List (Nat×ah)}{D:List ah}{q:Nat}{o:List aH}(bn:Q (.tuple []) (S d.toList)):cS [] (S l) Q e ⟨t,(.loc 0,D)::(S d.toList).b,(S d.toList).e,q,o⟩:=H.ret au (by simpa using J) he bn
theorem e1.retR{eG:List bt}{l:List α}{d:Array α}(au:l.length=n)(J:d.size=n){Q:ah→cI→Prop}{e:Exit}(he:e= .ret∨e= .normal){t:List (Nat×ah)}{D:List ah}{q:Nat}{o:List aH}(h:cZ ⟨t,(.loc 0,D)::(S d.toList).b,(S d.toList).e,q,o⟩ eG fun r=>aC (inObs (S d.toList)) r∧Q r (S d.toList)):cS eG (S l) Q e ⟨t,(.loc 0,D)::(S d.toList).b,(S d.toList).e,q,o⟩:=by
 refine cS.at (S d.toList) he (H.ok _) (H.same _ _ au (by simpa using J)) (fun k cs ab=>?_) (fun _ _ ab=>ab) h;cases k with
 |loc m=>rw[H.loc m]at ab;cases ab
 |obj m=>simpa[Pv.look]using ab
end
theorem gD(d:Array α)(i j:Nat):(Sort.swp d i j).size=d.size:=by simp[Sort.swp]
end Go.Proofs.YtahlgcidhnjlbaaGreat
namespace Go.Proofs.YtahlgcidhnjlbaaGreat
open Go Go.Pv
def O7:C:=(aa [bV 2 0] (.seq (.cond (.c (.bool false)) (aa [I 3 0,b5 4 (.conv .u32 (.t 3)),cD 5 236 4,I 2 5] .ret) .skip) (aa [I 6 0,cD 7 237 6,I 2 7] .ret)))
@[simp] def ajT:List bt:=[.tmp 2]
def HZ:C:=(aa [aW 91 2 4,I 92 1,I 93 2,I 94 11,dn 95 244 [.t 91,.t 92,.t 93,.t 94],I 90 95,cC 96 0 90,cC 97 1 90,I 14 96,I 15 97] (aa [I 98 15,I 9 98] (aa [I 99 14,I 100 1,bo 101 .sub 99 100,I 102 2,I 103 14,bo 104 .sub 102 103,I 16 101,I 17 104] (aa [I 105 10,aU 106 .quo 105 8,I 18 106] (aa [I 107 16,I 108 17,bo 109 .lss 107 108] (aT 109 (aa [I 110 16,I 111 18,bo 112 .geq 110 111,I 8 112] (aa [aW 113 2 4,I 114 1,I 115 14,I 116 3,dn 117 214 [.t 113,.t 114,.t 115,.t 116]] (.region [I 118 14,aU 119 .add 118 1,I 1 119]))) (aa [I 120 17,I 121 18,bo 122 .geq 120 121,I 8 122] (aa [aW 123 2 4,I 124 14,aU 125 .add 124 1,I 126 2,I 127 3,dn 128 214 [.t 123,.t 125,.t 126,.t 127]] (.region [I 129 14,I 2 129])))))))))
def A3:C:=(.seq (aa [I 73 1,aU 74 .gtr 73 0,I 75 74,aq 75 true (aF 76 0 1 4),aq 75 true (ax 77 1 76),b3 75 true 78 1,aq 75 true (aU 79 .sub 78 1),b3 75 true 80 11,aq 75 true (gB 81 77 [.t 79,.t 80]),aq 75 true (cu 82 81),dz 83 75 82] (aT 83 (aa [aW 84 2 4,I 85 1,I 86 2,I 87 11,dn 88 243 [.t 84,.t 85,.t 86,.t 87],I 13 88] (aa [I 89 13,I 1 89] (.exit 1))) .skip)) HZ)
def H0:C:=(.seq (aa [I 61 8,I 62 61,b3 62 true 63 9,dz 64 62 63,I 65 64,b3 65 true 66 12,aq 65 true (aU 67 .eql 66 1),dz 68 65 67] (aT 68 (aa [aW 69 2 4,I 70 1,I 71 2,dn 72 242 [.t 69,.t 70,.t 71]] (aT 72 .ret .skip)) .skip)) A3)
def H2:C:=(aa [aW 43 2 4,I 44 1,I 45 2,dn 46 240 [.t 43,.t 44,.t 45],I 42 46,cC 47 0 42,cC 48 1 42,I 11 47,I 12 48] (.seq (aa [I 49 12,aU 50 .eql 49 2] (aT 50 (aa [aW 51 2 4,I 52 1,I 53 2,dn 54 241 [.t 51,.t 52,.t 53]] (aa [I 55 2,aU 56 .sub 55 1,I 57 11,I 58 1,bo 59 .sub 57 58,bo 60 .sub 56 59,I 11 60] (.region [bV 12 1]))) .skip)) H0))
def Pl:C:=(aa [cx 4 0] (aa [be 8 true] (aa [be 9 true] (.block 0 (.loop (.block 1 (aa [I 19 2,I 20 1,bo 21 .sub 19 20,I 10 21] (.seq (aa [I 22 10,aU 23 .leq 22 12] (aT 23 (aa [aW 24 2 4,I 25 1,I 26 2,dn 27 231 [.t 24,.t 25,.t 26]] .ret) .skip)) (.seq (aa [I 28 3,aU 29 .eql 28 0] (aT 29 (aa [aW 30 2 4,I 31 1,I 32 2,dn 33 238 [.t 30,.t 31,.t 32]] .ret) .skip)) (.seq (aa [I 34 8,cu 35 34] (aT 35 (aa [aW 36 2 4,I 37 1,I 38 2,dn 39 239 [.t 36,.t 37,.t 38]] (.region [I 40 3,aU 41 .sub 40 1,I 3 41])) .skip)) H2))))))))))
@[simp] def Vz:List bt:=[]
@[simp] def aqR:List bt:=[.tmp 2]
def O8:C:=(aa [bV 2 0] (.seq (aa [I 3 0,b5 4 (.bin .geq false (.t 3) (.c (.int .u64 4294967296)))] (aT 4 (aa [I 5 0,b5 6 (.bin .shr false (.t 5) (.c (.int .u64 32))),I 0 6] (.region [bV 2 32])) .skip)) (.seq (aa [I 7 0,b5 8 (.bin .geq false (.t 7) (.c (.int .u64 65536)))] (aT 8 (aa [I 9 0,b5 10 (.bin .shr false (.t 9) (.c (.int .u64 16))),I 0 10] (.region [I 11 2,aU 12 .add 11 16,I 2 12])) .skip)) (.seq (aa [I 13 0,b5 14 (.bin .geq false (.t 13) (.c (.int .u64 256)))] (aT 14 (aa [I 15 0,b5 16 (.bin .shr false (.t 15) (.c (.int .u64 8))),I 0 16] (.region [I 17 2,aU 18 .add 17 8,I 2 18])) .skip)) (aa [I 19 2,I 20 0,b5 21 (.conv .u8 (.t 20)),b5 22 (.sidx (.c (.str [0,1,2,2,3,3,3,3,4,4,4,4,4,4,4,4,5,5,5,5,5,5,5,5,5,5,5,5,5,5,5,5,6,6,6,6,6,6,6,6,6,6,6,6,6,6,6,6,6,6,6,6,6,6,6,6,6,6,6,6,6,6,6,6,7,7,7,7,7,7,7,7,7,7,7,7,7,7,7,7,7,7,7,7,7,7,7,7,7,7,7,7,7,7,7,7,7,7,7,7,7,7,7,7,7,7,7,7,7,7,7,7,7,7,7,7,7,7,7,7,7,7,7,7,7,7,7,7,8,8,8,8,8,8,8,8,8,8,8,8,8,8,8,8,8,8,8,8,8,8,8,8,8,8,8,8,8,8,8,8,8,8,8,8,8,8,8,8,8,8,8,8,8,8,8,8,8,8,8,8,8,8,8,8,8,8,8,8,8,8,8,8,8,8,8,8,8,8,8,8,8,8,8,8,8,8,8,8,8,8,8,8,8,8,8,8,8,8,8,8,8,8,8,8,8,8,8,8,8,8,8,8,8,8,8,8,8,8,8,8,8,8,8,8,8,8,8,8,8,8,8,8,8,8,8,8])) (.t 21)),b5 23 (.conv .i64 (.t 22)),bo 24 .add 19 23,I 2 24] .ret)))))
@[simp] def Ac:List bt:=[.tmp 2]
def Pc:C:=(aa [cx 3 0] (aa [I 11 1,I 6 11] (aa [bV 7 0] (aa [I 12 2,I 13 1,bo 14 .sub 12 13,I 8 14] (.seq (aa [I 15 8,aU 16 .sub 15 1,aU 17 .quo 16 2,I 9 17] (.block 0 (.loop (.seq (aa [I 18 9,aU 19 .geq 18 0] (aT 19 .skip (.exit 0))) (.seq (.block 1 (.region [aW 22 2 3,I 23 9,I 24 8,I 25 6,dn 26 252 [.t 22,.t 23,.t 24,.t 25]])) (.region [I 20 9,aU 21 .sub 20 1,I 9 21])))))) (aa [I 27 8,aU 28 .sub 27 1,I 10 28] (.block 2 (.loop (.seq (aa [I 29 10,aU 30 .geq 29 0] (aT 30 .skip (.exit 2))) (.seq (.block 3 (aa [aF 33 1 1 3,ax 34 1 33,I 35 6,I 36 6,I 37 10,bo 38 .add 36 37,gB 39 34 [.t 35,.t 38]] (.region [aW 40 2 3,I 41 7,I 42 10,I 43 6,dn 44 252 [.t 40,.t 41,.t 42,.t 43]]))) (.region [I 31 10,aU 32 .sub 31 1,I 10 32])))))))))))
@[simp] def ajU:List bt:=[]
def Pa:C:=(aa [cx 3 0] (aa [I 11 2,I 12 1,bo 13 .sub 11 12,I 6 13] (aa [I 14 6,aU 15 .geq 14 8] (aT 15 (aa [I 16 6,b5 17 (.conv .u64 (.t 16)),c3 (.alloc 7 (some 902) (.int .u64 0)),bK 1 7 17] (aa [I 18 6,cD 19 253 18,I 8 19] (aa [I 20 1,I 21 6,aU 22 .quo 21 4,aU 23 .mul 22 2,bo 24 .add 20 23,aU 25 .sub 24 1,I 9 25] (.block 0 (.loop (.seq (aa [I 26 9,I 27 1,I 28 6,aU 29 .quo 28 4,aU 30 .mul 29 2,bo 31 .add 27 30,aU 32 .add 31 1,bo 33 .leq 26 32] (aT 33 .skip (.exit 0))) (.seq (.block 1 (aa [cD 36 254 7,I 37 8,b5 38 (.bin .sub true (.t 37) (.c (.int .u64 1))),bo 39 .and 36 38,b5 40 (.conv .i64 (.t 39)),I 10 40] (.seq (aa [I 41 10,I 42 6,bo 43 .geq 41 42] (aT 43 (.region [I 44 10,I 45 6,bo 46 .sub 44 45,I 10 46]) .skip)) (.region [aF 47 1 1 3,ax 48 1 47,I 49 9,I 50 1,I 51 10,bo 52 .add 50 51,gB 53 48 [.t 49,.t 52]])))) (.region [I 34 9,aU 35 .add 34 1,I 9 35])))))))) .skip))))
@[simp] def Vv:List bt:=[]
def Pb:C:=(aa [cx 3 0,bV 6 0,bV 7 0] (aa [I 13 2,I 14 1,bo 15 .sub 13 14,I 8 15] (aa [c3 (.alloc 9 (some 901) (.int .i64 0))] (aa [I 16 1,I 17 8,aU 18 .quo 17 4,aU 19 .mul 18 1,bo 20 .add 16 19,I 10 20] (aa [I 21 1,I 22 8,aU 23 .quo 22 4,aU 24 .mul 23 2,bo 25 .add 21 24,I 11 25] (aa [I 26 1,I 27 8,aU 28 .quo 27 4,aU 29 .mul 28 3,bo 30 .add 26 29,I 12 30] (.seq (aa [I 31 8,aU 32 .geq 31 8] (aT 32 (.seq (aa [I 33 8,aU 34 .geq 33 50] (aT 34 (aa [aW 35 2 3,I 36 10,dn 37 255 [.t 35,.t 36,.t 9],I 10 37] (aa [aW 38 2 3,I 39 11,dn 40 255 [.t 38,.t 39,.t 9],I 11 40] (.region [aW 41 2 3,I 42 12,dn 43 255 [.t 41,.t 42,.t 9],I 12 43]))) .skip)) (.region [aW 44 2 3,I 45 10,I 46 11,I 47 12,dn 48 256 [.t 44,.t 45,.t 46,.t 47,.t 9],I 11 48])) .skip)) (aa [ax 49 1 9] (.block 0 (aa [aU 52 .eql 49 0,I 51 52] (aT 51 (aa [I 53 11,I 6 53,bV 7 1] .ret) (aa [aU 55 .eql 49 12,I 54 55] (aT 54 (aa [I 56 11,I 6 56,bV 7 2] .ret) (aa [I 50 11,I 6 50,bV 7 0] .ret))))))))))))))
@[simp] def Lx:List bt:=[.tmp 6,.tmp 7]
def Pm:C:=(aa [cx 3 0] (aa [I 8 1,I 6 8] (aa [I 9 2,aU 10 .sub 9 1,I 7 10] (.block 0 (.loop (.seq (aa [I 11 6,I 12 7,bo 13 .lss 11 12] (aT 13 .skip (.exit 0))) (.block 1 (aa [aF 14 1 1 3,ax 15 1 14,I 16 6,I 17 7,gB 18 15 [.t 16,.t 17]] (aa [I 19 6,aU 20 .add 19 1,I 6 20] (.region [I 21 7,aU 22 .sub 21 1,I 7 22]))))))))))
@[simp] def ajW:List bt:=[]
def Ph:C:=(aa [cx 3 0,be 6 false] (aa [I 11 1,aU 12 .add 11 1,I 7 12] (.seq (aa [bV 8 0] (.block 0 (.loop (.seq (aa [I 13 8,aU 14 .lss 13 5] (aT 14 .skip (.exit 0))) (.seq (.block 1 (.seq (.block 2 (.loop (.seq (aa [I 17 7,I 18 2,bo 19 .lss 17 18,I 20 19,aq 20 true (aF 21 0 1 3),aq 20 true (ax 22 1 21),b3 20 true 23 7,b3 20 true 24 7,aq 20 true (aU 25 .sub 24 1),aq 20 true (gB 26 22 [.t 23,.t 25]),aq 20 true (cu 27 26),dz 28 20 27] (aT 28 .skip (.exit 2))) (.block 3 (.region [I 29 7,aU 30 .add 29 1,I 7 30]))))) (.seq (aa [I 31 7,I 32 2,bo 33 .eql 31 32] (aT 33 (aa [be 6 true] .ret) .skip)) (.seq (aa [I 34 2,I 35 1,bo 36 .sub 34 35,aU 37 .lss 36 50] (aT 37 (aa [be 6 false] .ret) .skip)) (aa [aF 38 1 1 3,ax 39 1 38,I 40 7,I 41 7,aU 42 .sub 41 1,gB 43 39 [.t 40,.t 42]] (.seq (aa [I 44 7,I 45 1,bo 46 .sub 44 45,aU 47 .geq 46 2] (aT 47 (aa [I 48 7,aU 49 .sub 48 1,I 9 49] (.block 4 (.loop (.seq (aa [I 50 9,aU 51 .geq 50 1] (aT 51 .skip (.exit 4))) (.seq (.block 5 (.seq (aa [aF 54 0 1 3,ax 55 1 54,I 56 9,I 57 9,aU 58 .sub 57 1,gB 59 55 [.t 56,.t 58],cu 60 59] (aT 60 (.exit 4) .skip)) (.region [aF 61 1 1 3,ax 62 1 61,I 63 9,I 64 9,aU 65 .sub 64 1,gB 66 62 [.t 63,.t 65]]))) (.region [I 52 9,aU 53 .sub 52 1,I 9 53])))))) .skip)) (aa [I 67 2,I 68 7,bo 69 .sub 67 68,aU 70 .geq 69 2] (aT 70 (aa [I 71 7,aU 72 .add 71 1,I 10 72] (.block 6 (.loop (.seq (aa [I 73 10,I 74 2,bo 75 .lss 73 74] (aT 75 .skip (.exit 6))) (.seq (.block 7 (.seq (aa [aF 78 0 1 3,ax 79 1 78,I 80 10,I 81 10,aU 82 .sub 81 1,gB 83 79 [.t 80,.t 82],cu 84 83] (aT 84 (.exit 6) .skip)) (.region [aF 85 1 1 3,ax 86 1 85,I 87 10,I 88 10,aU 89 .sub 88 1,gB 90 86 [.t 87,.t 89]]))) (.region [I 76 10,aU 77 .add 76 1,I 10 77])))))) .skip)))))))) (.region [I 15 8,aU 16 .add 15 1,I 8 16])))))) (aa [be 6 false] .ret))))
@[simp] def Gh:List bt:=[.tmp 6]
def Pj:C:=(aa [cx 4 0,bV 8 0] (aa [aF 11 1 1 4,ax 12 1 11,I 13 1,I 14 3,gB 15 12 [.t 13,.t 14]] (aa [I 16 1,aU 17 .add 16 1,I 18 2,aU 19 .sub 18 1,I 9 17,I 10 19] (.seq (.block 0 (.loop (.block 1 (.seq (.block 2 (.loop (.seq (aa [I 20 9,I 21 10,bo 22 .leq 20 21,I 23 22,aq 23 true (aF 24 0 1 4),aq 23 true (ax 25 1 24),b3 23 true 26 1,b3 23 true 27 9,aq 23 true (gB 28 25 [.t 26,.t 27]),aq 23 true (cu 29 28),dz 30 23 29] (aT 30 .skip (.exit 2))) (.block 3 (.region [I 31 9,aU 32 .add 31 1,I 9 32]))))) (.seq (.block 4 (.loop (.seq (aa [I 33 9,I 34 10,bo 35 .leq 33 34,I 36 35,aq 36 true (aF 37 0 1 4),aq 36 true (ax 38 1 37),b3 36 true 39 1,b3 36 true 40 10,aq 36 true (gB 41 38 [.t 39,.t 40]),dz 42 36 41] (aT 42 .skip (.exit 4))) (.block 5 (.region [I 43 10,aU 44 .sub 43 1,I 10 44]))))) (.seq (aa [I 45 9,I 46 10,bo 47 .gtr 45 46] (aT 47 (.exit 0) .skip)) (aa [aF 48 1 1 4,ax 49 1 48,I 50 9,I 51 10,gB 52 49 [.t 50,.t 51]] (aa [I 53 9,aU 54 .add 53 1,I 9 54] (.region [I 55 10,aU 56 .sub 55 1,I 10 56]))))))))) (aa [I 57 9,I 8 57] .ret)))))
@[simp] def Lz:List bt:=[.tmp 8]
def Pk:C:=(aa [cx 4 0,bV 8 0,be 9 false] (aa [aF 12 1 1 4,ax 13 1 12,I 14 1,I 15 3,gB 16 13 [.t 14,.t 15]] (aa [I 17 1,aU 18 .add 17 1,I 19 2,aU 20 .sub 19 1,I 10 18,I 11 20] (.seq (.block 0 (.loop (.seq (aa [I 21 10,I 22 11,bo 23 .leq 21 22,I 24 23,aq 24 true (aF 25 0 1 4),aq 24 true (ax 26 1 25),b3 24 true 27 10,b3 24 true 28 1,aq 24 true (gB 29 26 [.t 27,.t 28]),dz 30 24 29] (aT 30 .skip (.exit 0))) (.block 1 (.region [I 31 10,aU 32 .add 31 1,I 10 32]))))) (.seq (.block 2 (.loop (.seq (aa [I 33 10,I 34 11,bo 35 .leq 33 34,I 36 35,aq 36 true (aF 37 0 1 4),aq 36 true (ax 38 1 37),b3 36 true 39 11,b3 36 true 40 1,aq 36 true (gB 41 38 [.t 39,.t 40]),aq 36 true (cu 42 41),dz 43 36 42] (aT 43 .skip (.exit 2))) (.block 3 (.region [I 44 11,aU 45 .sub 44 1,I 11 45]))))) (.seq (aa [I 46 10,I 47 11,bo 48 .gtr 46 47] (aT 48 (aa [aF 49 1 1 4,ax 50 1 49,I 51 11,I 52 1,gB 53 50 [.t 51,.t 52]] (aa [I 54 11,I 8 54,be 9 true] .ret)) .skip)) (aa [aF 55 1 1 4,ax 56 1 55,I 57 10,I 58 11,gB 59 56 [.t 57,.t 58]] (aa [I 60 10,aU 61 .add 60 1,I 10 61] (aa [I 62 11,aU 63 .sub 62 1,I 11 63] (.seq (.block 4 (.loop (.block 5 (.seq (.block 6 (.loop (.seq (aa [I 64 10,I 65 11,bo 66 .leq 64 65,I 67 66,aq 67 true (aF 68 0 1 4),aq 67 true (ax 69 1 68),b3 67 true 70 10,b3 67 true 71 1,aq 67 true (gB 72 69 [.t 70,.t 71]),dz 73 67 72] (aT 73 .skip (.exit 6))) (.block 7 (.region [I 74 10,aU 75 .add 74 1,I 10 75]))))) (.seq (.block 8 (.loop (.seq (aa [I 76 10,I 77 11,bo 78 .leq 76 77,I 79 78,aq 79 true (aF 80 0 1 4),aq 79 true (ax 81 1 80),b3 79 true 82 11,b3 79 true 83 1,aq 79 true (gB 84 81 [.t 82,.t 83]),aq 79 true (cu 85 84),dz 86 79 85] (aT 86 .skip (.exit 8))) (.block 9 (.region [I 87 11,aU 88 .sub 87 1,I 11 88]))))) (.seq (aa [I 89 10,I 90 11,bo 91 .gtr 89 90] (aT 91 (.exit 4) .skip)) (aa [aF 92 1 1 4,ax 93 1 92,I 94 10,I 95 11,gB 96 93 [.t 94,.t 95]] (aa [I 97 10,aU 98 .add 97 1,I 10 98] (.region [I 99 11,aU 100 .sub 99 1,I 11 100]))))))))) (aa [aF 101 1 1 4,ax 102 1 101,I 103 11,I 104 1,gB 105 102 [.t 103,.t 104]] (aa [I 106 11,I 8 106,be 9 false] .ret))))))))))))
@[simp] def CR:List bt:=[.tmp 8,.tmp 9]
def Po:C:=(aa [cx 4 0] (aa [I 10 1,I 8 10] (.block 0 (.loop (.block 1 (aa [I 11 8,b5 12 (.bin .mul false (gd 2) (.t 11)),aU 13 .add 12 1,I 9 13] (.seq (aa [I 14 9,I 15 2,bo 16 .geq 14 15] (aT 16 (.exit 0) .skip)) (.seq (aa [I 17 9,aU 18 .add 17 1,I 19 2,bo 20 .lss 18 19,I 21 20,aq 21 true (aF 22 0 1 4),aq 21 true (ax 23 1 22),b3 21 true 24 3,b3 21 true 25 9,aq 21 true (bo 26 .add 24 25),b3 21 true 27 3,b3 21 true 28 9,aq 21 true (bo 29 .add 27 28),aq 21 true (aU 30 .add 29 1),aq 21 true (gB 31 23 [.t 26,.t 30]),dz 32 21 31] (aT 32 (.region [I 33 9,aU 34 .add 33 1,I 9 34]) .skip)) (.seq (aa [aF 35 0 1 4,ax 36 1 35,I 37 3,I 38 8,bo 39 .add 37 38,I 40 3,I 41 9,bo 42 .add 40 41,gB 43 36 [.t 39,.t 42],cu 44 43] (aT 44 .ret .skip)) (aa [aF 45 1 1 4,ax 46 1 45,I 47 3,I 48 8,bo 49 .add 47 48,I 50 3,I 51 9,bo 52 .add 50 51,gB 53 46 [.t 49,.t 52]] (.region [I 54 9,I 8 54])))))))))))
@[simp] def ajY:List bt:=[]
def Pf:C:=(aa [b5 2 (.mov (.c (.int .u64 0)))] (aa [I 4 0,b5 5 (.conv .u64 (.t 4)),cD 6 213 5,b5 7 (.conv .u64 (.t 6)),I 3 7] (aa [I 8 3,b5 9 (.bin .shl false (.c (.int .u64 1)) (.t 8)),I 2 9] .ret)))
@[simp] def Vy:List bt:=[.tmp 2]
def Ps:C:=(aa [b5 2 (.mov (.c (.int .u64 0)))] (.seq (.drawn true 33 [I 3 0,fv 4 3,ax 5 1 4,I 6 0,fv 7 6,ax 8 1 7,b5 9 (.bin .shl false (.t 8) (.c (.int .u64 13))),bo 10 .xor 5 9,fv 11 3,bK 1 11 10]) (.seq (.drawn true 33 [I 12 0,fv 13 12,ax 14 1 13,I 15 0,fv 16 15,ax 17 1 16,b5 18 (.bin .shr false (.t 17) (.c (.int .u64 7))),bo 19 .xor 14 18,fv 20 12,bK 1 20 19]) (.seq (.drawn true 33 [I 21 0,fv 22 21,ax 23 1 22,I 24 0,fv 25 24,ax 26 1 25,b5 27 (.bin .shl false (.t 26) (.c (.int .u64 17))),bo 28 .xor 23 27,fv 29 21,bK 1 29 28]) (aa [I 30 0,fv 31 30,ax 32 1 31,I 2 32] .ret)))))
@[simp] def VB:List bt:=[.tmp 2]
def Pd:C:=(aa [cx 3 0,bV 6 0] (aa [aW 7 2 3,I 8 1,aU 9 .sub 8 1,I 10 1,I 11 1,aU 12 .add 11 1,I 13 2,dn 14 256 [.t 7,.t 9,.t 10,.t 12,.t 13],I 6 14] .ret))
@[simp] def Vw:List bt:=[.tmp 6]
def Pe:C:=(aa [cx 5 0,bV 10 0] (aa [aW 12 2 5,I 13 1,I 14 2,I 15 4,dn 16 271 [.t 12,.t 13,.t 14,.t 15],I 11 16,cC 17 0 11,cC 18 1 11,I 1 17,I 2 18] (aa [aW 20 2 5,I 21 2,I 22 3,I 23 4,dn 24 271 [.t 20,.t 21,.t 22,.t 23],I 19 24,cC 25 0 19,cC 26 1 19,I 2 25,I 3 26] (aa [aW 28 2 5,I 29 1,I 30 2,I 31 4,dn 32 271 [.t 28,.t 29,.t 30,.t 31],I 27 32,cC 33 0 27,cC 34 1 27,I 1 33,I 2 34] (aa [I 35 2,I 10 35] .ret)))))
@[simp] def Vx:List bt:=[.tmp 10]
def Pg:C:=(aa [cx 4 0,bV 8 0,bV 9 0] (.seq (aa [aF 10 0 1 4,ax 11 1 10,I 12 2,I 13 1,gB 14 11 [.t 12,.t 13]] (aT 14 (aa [I 15 3,fv 16 15,ax 17 1 16,aU 18 .add 17 1,fv 19 15,bK 1 19 18] (aa [I 20 2,I 21 1,I 8 20,I 9 21] .ret)) .skip)) (aa [I 22 1,I 23 2,I 8 22,I 9 23] .ret)))
@[simp] def Ly:List bt:=[.tmp 8,.tmp 9]
def nj:List (Nat×dC):=[
 (3,⟨1,8,.int .i64,.int .i64 0⟩),
 (5,⟨1,1,.int .u8,.int .u8 0⟩),
 (9,⟨1,16,.str,.str []⟩),
 (143,⟨1,8,.other,.junk⟩),
 (181,⟨1,8,.other,.junk⟩),
 (185,⟨2,16,.struct [(0,143),(1,181)],.agg [.junk,.junk]⟩),
 (192,⟨1,8,.int .u64,.int .u64 0⟩),
 (206,⟨1,4,.int .u32,.int .u32 0⟩),
 (208,⟨1,8,.int .u64,.int .u64 0⟩),
 (222,⟨1,8,.int .u64,.int .u64 0⟩)]
theorem nJ:fM al nj=true:=by kernel_rfl
theorem ah1:bX nj O7 ajT 1 Tryz.f213=true:=by kernel_rfl
theorem abA:al.funcs[(213:Nat)]? =some Tryz.f213:=Tryz.func213
theorem aie:bX nj Pl Vz 4 Tryz.f214=true:=by kernel_rfl
theorem abN:al.funcs[(214:Nat)]? =some Tryz.f214:=Tryz.func214
theorem ah2:bX nj O8 Ac 1 Tryz.f237=true:=by kernel_rfl
theorem abB:al.funcs[(237:Nat)]? =some Tryz.f237:=Tryz.func237
theorem ah6:bX nj Pc ajU 3 Tryz.f238=true:=by kernel_rfl
theorem abF:al.funcs[(238:Nat)]? =some Tryz.f238:=Tryz.func238
theorem ah4:bX nj Pa Vv 3 Tryz.f239=true:=by kernel_rfl
theorem abD:al.funcs[(239:Nat)]? =some Tryz.f239:=Tryz.func239
theorem ah5:bX nj Pb Lx 3 Tryz.f240=true:=by kernel_rfl
theorem abE:al.funcs[(240:Nat)]? =some Tryz.f240:=Tryz.func240
theorem aif:bX nj Pm ajW 3 Tryz.f241=true:=by kernel_rfl
theorem abO:al.funcs[(241:Nat)]? =some Tryz.f241:=Tryz.func241
theorem aib:bX nj Ph Gh 3 Tryz.f242=true:=by kernel_rfl
theorem abK:al.funcs[(242:Nat)]? =some Tryz.f242:=Tryz.func242
theorem aic:bX nj Pj Lz 4 Tryz.f243=true:=by kernel_rfl
theorem abL:al.funcs[(243:Nat)]? =some Tryz.f243:=Tryz.func243
theorem aid:bX nj Pk CR 4 Tryz.f244=true:=by kernel_rfl
theorem abM:al.funcs[(244:Nat)]? =some Tryz.f244:=Tryz.func244
theorem aii:bX nj Po ajY 4 Tryz.f252=true:=by kernel_rfl
theorem abQ:al.funcs[(252:Nat)]? =some Tryz.f252:=Tryz.func252
theorem ah9:bX nj Pf Vy 1 Tryz.f253=true:=by kernel_rfl
theorem abI:al.funcs[(253:Nat)]? =some Tryz.f253:=Tryz.func253
theorem aim:bX nj Ps VB 1 Tryz.f254=true:=by kernel_rfl
theorem abU:al.funcs[(254:Nat)]? =some Tryz.f254:=Tryz.func254
theorem ah7:bX nj Pd Vw 3 Tryz.f255=true:=by kernel_rfl
theorem abG:al.funcs[(255:Nat)]? =some Tryz.f255:=Tryz.func255
theorem ah8:bX nj Pe Vx 5 Tryz.f256=true:=by kernel_rfl
theorem abH:al.funcs[(256:Nat)]? =some Tryz.f256:=Tryz.func256
theorem aia:bX nj Pg Ly 4 Tryz.f271=true:=by kernel_rfl
theorem abJ:al.funcs[(271:Nat)]? =some Tryz.f271:=Tryz.func271
end Go.Proofs.YtahlgcidhnjlbaaGreat
