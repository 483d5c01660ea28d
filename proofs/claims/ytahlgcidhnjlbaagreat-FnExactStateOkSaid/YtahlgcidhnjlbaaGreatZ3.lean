/- made by mk2.py: the code of the functions, and the checks against the program's own form. -/
import Derived.Test.YtahlgcidhnjlbaaGreatProg
import Derived.Shelf.Sort.Plain
import Derived.Ground.NamesProg
import Derived.Sort.OwnSortedInts
import Derived.Lib.OwnBridge
import Derived.Sort.AssemblyPlain
import Derived.Sort.LotD5
import Derived.Test.YtahlgcidhnjlbaaGreatZ2
set_option linter.all false
set_option maxHeartbeats 4000000
open Bool renaming and_eq_true→cA,eq_iff_iff→pH,false_eq_true→gI,or_eq_true→mf
open Go renaming Program→cy
open Go.IntKind renaming bits→nv,signed→rz,u64→gW,wrap→rA
open Go.IntWalk renaming i64_in→oc
open Go.Op renaming bytesLess→hf
open Go.Proofs.Tryz renaming prog→ao
open Go.Value renaming cells→oU
open List renaming all_eq_true→ja,cons_append→bN,drop→mR,drop_eq_getElem_cons→kQ,getElem?_eq_getElem→ca,getElem?_eq_none→pJ,getElem?_eq_some_iff→fH,getElem_of_mem→mS,length_append→oV,length_cons→pK,length_drop→rC,map_cons→gX,mem_append→ki,mem_cons→fU,mem_filter→mT,mem_map→iC,mem_of_getElem?→eP,nil_append→bT,pairwise_cons→mg,pairwise_iff_getElem→oX,take_of_length_le→hq
open List.Nodup renaming length_le_of_subset→LM
open List.Pairwise renaming filter→VQ,imp_of_mem→akN,sublist→apC
open List.Perm renaming eq_of_pairwise→LN,swap→apD
open List.cons renaming injEq→pI
open Nat renaming le_refl→eQ,le_trans→jT
open Ne renaming symm→ky
open Option renaming bind_eq_some_iff→mh,getD_none→mU,getD_some→kR,map_eq_some_iff→gA,map_some→ny
open Option.some renaming inj→fw,injEq→dz
open Prod.mk renaming injEq→jb
open _root_ renaming False→eI,Option→aW,UInt8→dA,beq_iff_eq→dG,congrArg→e1,decide_eq_false→oe,decide_eq_false_iff_not→hx,decide_eq_true→nz,decide_eq_true_eq→fx
namespace Go.Pv
open Go
structure bG where
 v:Int
 k:Int
 deriving DecidableEq,Inhabited
def bG.e(b:bG):ah:= .agg [.int .i64 b.v,.int .i64 b.k]
@[simp] theorem bG.eta(b:bG):bG.mk b.v b.k=b:=rfl
@[simp] theorem L5(v k:Int):ah.agg [.int .i64 v,.int .i64 k]=(bG.mk v k).e:=rfl
@[simp] theorem ang(S:aD→Prop)(b:bG):aB S b.e=True:=by simp[bG.e,-L5]
@[simp] theorem api(b:bG):dn b.e=b.e:=by simp[bG.e,-L5]
theorem RR(S:aD→Prop):∀l:List bG,aH S (l.map bG.e)
 |[]=>by simp[aH]
 |x::xs=>by simp[aH,RR S xs]
@[simp] theorem amY(S:aD→Prop)(l:List bG):aH S (l.map bG.e)=True:=eq_true (RR S l)
@[simp] theorem K5:∀l:List bG,cU (l.map bG.e)=l.map bG.e
 |[]=>rfl
 |x::xs=>by simp[cU,K5 xs]
@[simp] theorem aoT(b:bG):dS b.e=true:=rfl
@[simp] theorem alr(b:bG):cells b.e=[.int .i64 b.v,.int .i64 b.k]:=rfl
@[simp] theorem amG(b:bG):Pv.isAgg 2 b.e:=⟨_,rfl,rfl⟩
@[simp] theorem al1(off:Nat)(eW:Bool)(sz:Nat)(b:bG):qC off eW sz b.e=if eW then some (off+sz≤2,.agg (([.int .i64 b.v,.int .i64 b.k].drop off).take sz))else(([.int .i64 b.v,.int .i64 b.k]:List ah)[off]?).map fun p=>(True,p):=rfl
@[simp] theorem alR(off:Nat)(eW:Bool)(sz:Nat)(b:bG):o6 off eW sz (.eptr b.e)=if eW then some (off+sz≤2,.eptr (.agg (([.int .i64 b.v,.int .i64 b.k].drop off).take sz)))else(([.int .i64 b.v,.int .i64 b.k]:List ah)[off]?).map fun p=>(dS p=true∧cells p=[p],.eptr p):=rfl
structure bf where
 v:Int
 s:List dA
 deriving DecidableEq,Inhabited
def bf.e(b:bf):ah:= .agg [.int .i64 b.v,.str b.s]
@[simp] theorem bf.eta(b:bf):bf.mk b.v b.s=b:=rfl
@[simp] theorem GB(v:Int)(s:List dA):ah.agg [.int .i64 v,.str s]=(bf.mk v s).e:=rfl
@[simp] theorem adY(S:aD→Prop)(b:bf):aB S b.e=True:=by simp[bf.e,-GB]
@[simp] theorem apm(b:bf):dn b.e=b.e:=by simp[bf.e,-GB]
theorem Jd(S:aD→Prop):∀l:List bf,aH S (l.map bf.e)
 |[]=>by simp[aH]
 |x::xs=>by simp[aH,Jd S xs]
@[simp] theorem RT(S:aD→Prop)(l:List bf):aH S (l.map bf.e)=True:=eq_true (Jd S l)
@[simp] theorem K6:∀l:List bf,cU (l.map bf.e)=l.map bf.e
 |[]=>rfl
 |x::xs=>by simp[cU,K6 xs]
@[simp] theorem aoX(b:bf):dS b.e=true:=rfl
@[simp] theorem alw(b:bf):cells b.e=[.int .i64 b.v,.str b.s]:=rfl
@[simp] theorem amI(b:bf):Pv.isAgg 2 b.e:=⟨_,rfl,rfl⟩
@[simp] theorem al2(off:Nat)(eW:Bool)(sz:Nat)(b:bf):qC off eW sz b.e=if eW then some (off+sz≤2,.agg (([.int .i64 b.v,.str b.s].drop off).take sz))else(([.int .i64 b.v,.str b.s]:List ah)[off]?).map fun p=>(True,p):=rfl
@[simp] theorem alS(off:Nat)(eW:Bool)(sz:Nat)(b:bf):o6 off eW sz (.eptr b.e)=if eW then some (off+sz≤2,.eptr (.agg (([.int .i64 b.v,.str b.s].drop off).take sz)))else(([.int .i64 b.v,.str b.s]:List ah)[off]?).map fun p=>(dS p=true∧cells p=[p],.eptr p):=rfl
def e5(x y:bf):Int:=if en x.v y.v=0 then kd x.s y.s else en x.v y.v
theorem lb:jc e5:=by
 refine⟨fun x y=>?_,fun x y z J U=>?_,fun x y=>?_⟩
 ·unfold e5;have:=jQ.neg x.v y.v;have:=B6.neg x.s y.s;by_cases e:en x.v y.v=0
  ·rw[if_pos e,if_pos (by omega)];omega
  ·rw[if_neg e,if_neg (by omega)];omega
 ·unfold e5 at J U⊢;by_cases aj:en x.v y.v=0
  ·rw[if_pos aj]at J;rw[(jQ.zero _ _).1 aj];by_cases aC:en y.v z.v=0
   ·rw[if_pos aC]at U⊢;exact B6.tr _ _ _ J U
   ·rw[if_neg aC]at U⊢;exact U
  ·rw[if_neg aj]at J;have bu:en x.v y.v<0:=by omega
   by_cases aC:en y.v z.v=0
   ·rw[←(jQ.zero _ _).1 aC,if_neg aj];exact J
   ·rw[if_neg aC]at U;have:=jQ.ltr bu U;rw[if_neg (by omega)];omega
 ·unfold e5;by_cases e:en x.v y.v=0
  ·rw[if_pos e,B6.zero];have:=(jQ.zero _ _).1 e;cases x;cases y;simp_all
  ·rw[if_neg e];exact⟨fun h=>absurd h e,fun h=>by rw[h]at e;exact absurd (jQ.refl _) e⟩
def si(x y:bf):Bool:=decide (x.v<y.v)||(x.v==y.v&&hf x.s y.s)
theorem WH(a:List dA):hf a a=false:=by
 cases h:hf a a with
 |false=>rfl
 |true=>rw[GI a a h]at h;cases h
theorem SE(x y:bf):si x y=hv e5 x y:=by
 unfold si hv e5;rw[pH];simp only[mf,fx,cA,dG];by_cases e:x.v=y.v
 ·have:en x.v y.v=0:=(jQ.zero _ _).2 e;rw[if_pos this];simp only[e,Int.lt_irrefl,false_or,true_and,kd];by_cases aC:x.s=y.s
  ·rw[if_pos aC,aC,WH];simp
  ·rw[if_neg aC];split<;>simp_all
 ·have bs:¬en x.v y.v=0:=fun h=>e ((jQ.zero _ _).1 h);rw[if_neg bs];simp only[e,false_and,or_false];unfold en;(repeat' split)<;>omega
def hR{α:Type}(p:α→Prop)(r:α→α→Prop)(l:List α)(i:Nat):Prop:= ∀b,l[i]? =some b→p b∧∀c,0<i→l[i-1]? =some c→r c b
theorem L1{α:Type}{p:α→Prop}{r:α→α→Prop}(aO:∀a b c,r a b→r b c→r a c){l:List α}:(∀i,i<l.length→hR p r l i)↔(∀b∈l,p b)∧l.Pairwise r:=by
 constructor
 ·intro h;refine⟨fun b ae=>?_,?_⟩
  ·obtain⟨i,hi,e⟩:=mS ae;exact(h i hi b (by rw[ca hi,e])).1
  ·rw[oX];have jk:∀i (h:i+1<l.length),r l[i] l[i+1]:=fun i hi=>(h (i+1) hi l[i+1] (by simp[ca hi])).2 l[i] (by omega) (by simp[ca (show i<l.length by omega)]);have:∀(d i:Nat) (h:i+d+1<l.length),r l[i] l[i+d+1]:=by
    intro d;induction d with
    |zero=>intro i h;exact jk i h
    |succ d bM=>intro i h;exact aO _ _ _ (bM i (by omega)) (jk (i+d+1) (by omega))
   intro i j hi af ly;have:=this (j-i-1) i (by omega);simpa[show i+(j-i-1)+1=j from by omega]using this
 ·rintro⟨J,U⟩ i hi b ae;refine⟨J b (eP ae),fun c bs aw=>?_⟩;obtain⟨g1,aj⟩:=fH.1 aw;obtain⟨g2,aC⟩:=fH.1 ae;have:=oX.1 U (i-1) i g1 g2 (by omega);rw[aj,aC]at this;exact this
def jN{α:Type}(c:α→α→Int)(x:α):List α→List α
 |[]=>[x]
 |y::l=>if c y x<0 then y::jN c x l else if c y x=0 then y::l else x::y::l
section
variable {α:Type} {c:α→α→Int}
theorem ER(aw:jc c){x z:α}:∀{l:List α},z∈jN c x l↔z=x∨z∈l
 |[]=>by simp[jN]
 |y::l=>by
  simp only[jN];split
  ·simp only[fU,ER aw (l:=l)];constructor
   ·rintro(h|h|h)
    ·exact .inr (.inl h)
    ·exact .inl h
    ·exact .inr (.inr h)
   ·rintro(h|h|h)
    ·exact .inr (.inl h)
    ·exact .inl h
    ·exact .inr (.inr h)
  ·split
   ·rename_i h;obtain rfl:=(aw.zero _ _).1 h;simp
   ·simp
theorem IX(aw:jc c){x:α}:∀{l:List α},hy c l→hy c (jN c x l)
 |[],_=>by simp[jN,hy]
 |y::l,h=>by
  obtain⟨J,U⟩:=mg.1 h;simp only[jN];split
  ·rename_i al;refine mg.2 ⟨fun z bC=>?_,IX aw U⟩;rcases(ER aw).1 bC with rfl|bC
   ·exact al
   ·exact J z bC
  ·split
   ·exact h
   ·rename_i al a6;have hC:c x y<0:=by have:=aw.neg x y;omega
    refine mg.2 ⟨fun z bC=>?_,h⟩;rcases fU.1 bC with rfl|bC
    ·exact hC
    ·exact aw.ltr hC (by have:=J z bC;omega)
theorem IZ(x:α):∀l:List α,(jN c x l).length≤l.length+1
 |[]=>by simp[jN]
 |y::l=>by
  have:=IZ x l;simp only[jN];split
  ·simp;omega
  ·split<;>simp
theorem IY(aw:jc c)(x:α):∀(l:List α) (k:Nat),(∀i y,i<k→l[i]? =some y→c y x<0)→(∀y,l[k]? =some y→0≤c y x)→k≤l.length→jN c x l=if(match l[k]? with|some y=>decide (c y x=0)|none=>false)=true then l else l.take k++x::l.drop k
 |[],k,_,_,ab=>by simp at ab;subst ab;simp[jN]
 |y::l,0,_,U,_=>by
  have:=U y rfl;by_cases e:c y x=0
  ·simp[jN,e]
  ·have al:¬c y x<0:=by omega
   simp[jN,al,e]
 |y::l,k+1,J,U,ab=>by
  have bs:=J 0 y (by omega) rfl;simp only[jN,if_pos bs,List.take_succ_cons,List.drop_succ_cons,bN,List.getElem?_cons_succ];rw[IY aw x l k (fun i d hi aP=>J (i+1) d (by omega) (by simpa using aP)) (fun d aP=>U d (by simpa using aP)) (by simpa using ab)];cases l[k]? with
  |none=>rfl
  |some z=>simp only[];split<;>rfl
end
structure iI (l:List bG):Prop where
 at':∀x∈l,(0≤x.v∧x.v≤100000)∧(x.k=2∨x.k=3)
 asc:l.Pairwise fun x y=>x.v<y.v
def kJ(l:List bG)(v:Int):aW Int:=(l.find? fun x=>x.v==v).map (·.k)
def k7(x:bG):List bG→List bG
 |[]=>[x]
 |y::l=>if y.v<x.v then y::k7 x l else x::y::l
theorem ES{x z:bG}:∀{l:List bG},z∈k7 x l↔z=x∨z∈l
 |[]=>by simp[k7]
 |y::l=>by
  simp only[k7];split
  ·simp only[fU,ES (l:=l)];constructor
   ·rintro(h|h|h)
    ·exact .inr (.inl h)
    ·exact .inl h
    ·exact .inr (.inr h)
   ·rintro(h|h|h)
    ·exact .inr (.inl h)
    ·exact .inl h
    ·exact .inr (.inr h)
  ·simp
theorem I0(x:bG):∀l:List bG,(k7 x l).Perm (x::l)
 |[]=>.refl _
 |y::l=>by
  simp only[k7];split
  ·exact((I0 x l).cons y).trans (apD _ _ _)
  ·exact .refl _
theorem En{x:bG}:∀{l:List bG},l.Pairwise (fun x y=>x.v<y.v)→(∀y∈l,y.v≠x.v)→(k7 x l).Pairwise fun x y=>x.v<y.v
 |[],_,_=>by simp[k7]
 |y::l,h,aA=>by
  obtain⟨J,U⟩:=mg.1 h;have aL:=aA y (by simp);simp only[k7];split
  ·rename_i al;refine mg.2 ⟨fun z bC=>?_,En U fun z bC=>aA z (by simp[bC])⟩;rcases ES.1 bC with rfl|bC
   ·exact al
   ·exact J z bC
  ·refine mg.2 ⟨fun z bC=>?_,h⟩;rcases fU.1 bC with rfl|bC
   ·omega
   ·have:=J z bC;omega
theorem Rj(x:bG):∀(l:List bG) (k:Nat),(∀i y,i<k→l[i]? =some y→y.v<x.v)→(∀y,l[k]? =some y→¬y.v<x.v)→k≤l.length→k7 x l=l.take k++x::l.drop k
 |[],k,_,_,ab=>by simp at ab;subst ab;rfl
 |y::l,0,_,U,_=>by have:=U y rfl;simp[k7,this]
 |y::l,k+1,J,U,ab=>by have bs:=J 0 y (by omega) rfl;simp only[k7,if_pos bs,List.take_succ_cons,List.drop_succ_cons,bN];rw[Rj x l k (fun i d hi aP=>J (i+1) d (by omega) (by simpa using aP)) (fun d aP=>U d (by simpa using aP)) (by simpa using ab)]
theorem RA{l aX:List bG}(bF:aX.Perm l)(aP:l.Pairwise fun x y=>x.v<y.v)(ag:aX.Pairwise fun x y=>decide (y.v<x.v)=false):aX=l:=by
 refine LN (le:=fun x y:bG=>x.v≤y.v) (fun x y ad aL J U=>?_) (ag.imp (by simp)) (aP.imp (by omega)) bF;have hU:x∈l:=bF.mem_iff.1 ad;have qX:y∈l:=aL;obtain⟨i,hi,rfl⟩:=mS hU;obtain⟨j,af,rfl⟩:=mS qX;have:=oX.1 aP;rcases Nat.lt_trichotomy i j with h|h|h
 ·have:=this i j hi af h;omega
 ·subst h;rfl
 ·have:=this j i af hi h;omega
theorem w7{l:List bG}{v:Int}:kJ l v=none↔∀x∈l,x.v≠v:=by simp[kJ]
theorem RI{l:List bG}{v k:Int}(h:kJ l v=some k):(⟨v,k⟩:bG)∈l:=by unfold kJ at h;rw[gA]at h;obtain⟨x,J,rfl⟩:=h;have U:=List.find?_some J;simp at U;subst U;exact List.mem_of_find?_eq_some J
theorem EA{l:List bG}(bD:l.Pairwise fun x y=>x.v<y.v){x:bG}(h:x∈l):kJ l x.v=some x.k:=by
 induction l with
 |nil=>simp at h
 |cons y l bM=>
  obtain⟨J,U⟩:=mg.1 bD;rcases fU.1 h with rfl|h
  ·simp[kJ]
  ·have:=J x h;have e:=bM U h;unfold kJ at e⊢;rw[List.find?_cons_of_neg (by simp;omega)];exact e
def jU(l:List bG)(t:T)(k:Int):aW (List bG):=match t with
 | .var n=>match kJ l n with
  |some bH=>if bH=k then some l else none
  |none=>some (k7 ⟨n,k⟩ l)
 |t=>if t.kind=k then some l else none
theorem Gv{l aX:List bG}{t:T}{k:Int}(h:iI l)(aO:t.ok=true)(ab:k=2∨k=3)(he:jU l t k=some aX):iI aX:=by
 unfold jU at he;split at he
 ·rename_i n;split at he
  ·split at he
   ·cases he;exact h
   ·cases he
  ·rename_i aA;cases he;rw[w7]at aA;refine⟨fun x ad=>?_,En h.asc aA⟩;rcases ES.1 ad with rfl|ad
   ·exact⟨by simpa[T.ok]using aO,ab⟩
   ·exact h.at' x ad
 ·split at he
  ·cases he;exact h
  ·cases he
theorem u7{l:List bG}(h:iI l):l.length≤100001:=by
 have J:(l.map (·.v)).Nodup:=by rw[List.nodup_iff_pairwise_ne,List.pairwise_map];exact h.asc.imp fun h e=>by omega
 have:=RG J fun v aK=>by obtain⟨x,ad,rfl⟩:=iC.1 aK;exact(h.at' x ad).1
 simpa using this
def fR(s:List aq):List bG→List bG→aW (List bG)
 |[],acc=>some acc
 |x::r,acc=>match jU acc (cx s x.v) x.k with
  |some a=>fR s r a
  |none=>none
structure iJ (l:List bf):Prop where
 at':∀x∈l,(0≤x.v∧x.v≤100000)∧jl x.s=true
 asc:hy e5 l
def _root_.Go.Pv.T.has(s:List dA):T→Bool
 | .sym n=>n==s
 | .pair a b=>a.has s||b.has s
 |_=>false
def lp(l:List bf)(t:T)(s:List dA):aW (List bf):=if t.has s then none else some (asc e5 (l++(mQ t).map fun v=>⟨v,s⟩))
theorem CJ{t:T}{v:Int}:v∈mQ t↔t.occ v=true:=by
 refine⟨fun h=>?_,xe⟩;induction t with
 |var n=>simp[mQ]at h;simp[T.occ,h]
 |pair a b dO dP=>simp only[mQ,ki]at h;simp only[T.occ,mf];exact h.imp dO dP
 |_=>simp[mQ]at h
theorem BQ{l aX:List bf}{t:T}{s:List dA}(h:lp l t s=some aX)(x:bf):x∈aX↔x∈l∨(x.s=s∧t.occ x.v=true):=by
 unfold lp at h;split at h
 ·cases h
 ·cases h;rw[Sq,ki,iC];refine or_congr_right ?_;constructor
  ·rintro⟨v,aK,rfl⟩;exact⟨rfl,CJ.1 aK⟩
  ·rintro⟨J,U⟩;exact⟨x.v,CJ.2 U,by rw[←J]⟩
theorem Gw{l aX:List bf}{t:T}{s:List dA}(cI:t.has s=false)(bD:hy e5 aX)(hm:∀x,x∈aX↔x∈l∨(x.s=s∧t.occ x.v=true)):lp l t s=some aX:=by
 have h:lp l t s=some (asc e5 (l++(mQ t).map fun v=>⟨v,s⟩)):=by unfold lp;rw[cI];rfl
 rw[h];congr 1;exact(GC lb _).ext lb bD fun x=>by rw[hm,←BQ h]
theorem Gx{l aX:List bf}{t:T}{s:List dA}(h:iJ l)(aO:t.ok=true)(ag:jl s=true)(he:lp l t s=some aX):iJ aX:=by
 refine⟨fun x ad=>?_,?_⟩
 ·rcases(BQ he x).1 ad with J|⟨J,U⟩
  ·exact h.at' x J
  ·exact⟨vM aO U,by rw[J];exact ag⟩
 ·unfold lp at he;split at he
  ·cases he
  ·cases he;exact GC lb _
def fS(s:List aq):List bf→List bf→aW (List bf)
 |[],acc=>some acc
 |x::r,acc=>match lp acc (cx s x.v) x.s with
  |some a=>fS s r a
  |none=>none
end Go.Pv
namespace Go.Proofs.YtahlgcidhnjlbaaGreat
open Go Go.Pv
def MI:C:=(aa [cP 1 0,bm 2 false] (aa [be 3 4 1,dE 4 131 [.t 3,(gi 5000)],aS 5 .gtr 4 0,I 2 5] .ret))
@[simp] def Ts:List bK:=[.tmp 2]
@[simp] def aoe:List bK:=[.tmp 2]
def M6:C:=(aa [cX (.box 2 (some 201) (.t 0)),cP 3 1,dL 4 dX,bm 5 false] (aa [be 6 4 3,b0 7 (.mkf 138 [.t 2]),cl 8 137 6 7,cV 9 0 8,cV 10 1 8,b1 4 4 9,I 5 10] .ret))
@[simp] def TI:List bK:=[.cell 4 true 4,.tmp 5]
def Oa:C:=(aa [dL 2 dX] (aa [I 3 0,kO 4 dX [(0,1,(gi 1)),(1,1,(.t 3))],b1 4 2 4] .ret))
@[simp] def ah2:List bK:=[.cell 2 true 4]
@[simp] def aoo:List bK:=[.cell 2 true 4]
def M2:C:=(aa [cP 2 0,bV 4 0] (.seq (aa [I 7 1,aS 8 .lss 7 1] (aT 8 (aa [bV 4 (-1)] .ret) .skip)) (.seq (aa [aG 9 0 1 2,ax 10 1 9,aS 11 .neq 10 4] (aT 11 (.seq (aa [aG 12 3 1 2,ax 13 1 12,cn 14 13,aS 15 .neq 14 0] (aT 15 (aa [bV 4 (-1)] .ret) .skip)) (.seq (aa [aG 16 0 1 2,ax 17 1 16] (.block 0 (aa [aS 19 .eql 17 0,I 18 19] (aT 18 (aa [aG 20 1 1 2,ax 21 1 20,aS 22 .neq 21 0,I 23 22,ar 23 false (aG 24 2 1 2),ar 23 false (ax 25 1 24),vO 23 false 26 (.bin .neq false (.t 25) (.c (.str []))),df 27 23 26] (aT 27 (aa [bV 4 (-1)] .ret) .skip)) (aa [aS 29 .eql 17 1,I 28 29] (aT 28 (aa [aG 30 1 1 2,ax 31 1 30,aS 32 .lss 31 0,I 33 32,ar 33 false (aG 34 1 1 2),ar 33 false (ax 35 1 34),ar 33 false (aS 36 .gtr 35 100000),df 37 33 36,I 38 37,ar 38 false (aG 39 2 1 2),ar 38 false (ax 40 1 39),vO 38 false 41 (.bin .neq false (.t 40) (.c (.str []))),df 42 38 41] (aT 42 (aa [bV 4 (-1)] .ret) .skip)) (aa [aS 44 .eql 17 2,I 43 44] (aT 43 (aa [aG 45 1 1 2,ax 46 1 45,aS 47 .neq 46 0,I 48 47,ar 48 false (aG 49 2 1 2),ar 48 false (ax 50 1 49),ar 48 false (c7 51 160 50),ar 48 false (cB 52 51),df 53 48 52] (aT 53 (aa [bV 4 (-1)] .ret) .skip)) (aa [aS 55 .eql 17 3,I 54 55] (aT 54 (aa [aG 56 1 1 2,ax 57 1 56,aS 58 .lss 57 (-1000000000),I 59 58,ar 59 false (aG 60 1 1 2),ar 59 false (ax 61 1 60),ar 59 false (aS 62 .gtr 61 1000000000),df 63 59 62,I 64 63,ar 64 false (aG 65 2 1 2),ar 64 false (ax 66 1 65),vO 64 false 67 (.bin .neq false (.t 66) (.c (.str []))),df 68 64 67] (aT 68 (aa [bV 4 (-1)] .ret) .skip)) (aa [bV 4 (-1)] .ret))))))))))) (aa [bV 4 1] .ret))) .skip)) (.seq (aa [aG 69 1 1 2,ax 70 1 69,aS 71 .neq 70 0,I 72 71,ar 72 false (aG 73 2 1 2),ar 72 false (ax 74 1 73),vO 72 false 75 (.bin .neq false (.t 74) (.c (.str []))),df 76 72 75,I 77 76,ar 77 false (aG 78 3 1 2),ar 77 false (ax 79 1 78),ar 77 false (cn 80 79),ar 77 false (aS 81 .neq 80 2),df 82 77 81] (aT 82 (aa [bV 4 (-1)] .ret) .skip)) (aa [aG 83 3 1 2,ax 84 1 83,js 85 4 84 0,be 86 4 85,I 87 1,aS 88 .sub 87 1,cl 89 131 86 88,I 5 89] (.seq (aa [I 90 5,aS 91 .lss 90 0] (aT 91 (aa [bV 4 (-1)] .ret) .skip)) (aa [aG 92 3 1 2,ax 93 1 92,js 94 4 93 1,be 95 4 94,I 96 1,aS 97 .sub 96 1,I 98 5,bk 99 .sub 97 98,cl 100 131 95 99,I 6 100] (.seq (aa [I 101 6,aS 102 .lss 101 0] (aT 102 (aa [bV 4 (-1)] .ret) .skip)) (aa [I 103 5,b0 104 (.bin .add false (gi 1) (.t 103)),I 105 6,bk 106 .add 104 105,I 4 106] .ret)))))))))
@[simp] def Fk:List bK:=[.tmp 4]
def Dd:C:=(aa [cP 2 0,cP 3 1,bV 4 0] (.seq (aa [aG 6 0 1 2,ax 7 1 6,aG 8 0 1 3,ax 9 1 8,bk 10 .neq 7 9] (aT 10 (aa [aG 11 0 1 2,ax 12 1 11,aG 13 0 1 3,ax 14 1 13,cl 15 190 12 14,I 4 15] .ret) .skip)) (.seq (aa [aG 16 1 1 2,ax 17 1 16,aG 18 1 1 3,ax 19 1 18,bk 20 .neq 17 19] (aT 20 (aa [aG 21 1 1 2,ax 22 1 21,aG 23 1 1 3,ax 24 1 23,cl 25 190 22 24,I 4 25] .ret) .skip)) (.seq (aa [aG 26 2 1 2,ax 27 1 26,aG 28 2 1 3,ax 29 1 28,bk 30 .neq 27 29] (aT 30 (.seq (aa [aG 31 2 1 2,ax 32 1 31,aG 33 2 1 3,ax 34 1 33,bk 35 .lss 32 34] (aT 35 (aa [bV 4 (-1)] .ret) .skip)) (aa [bV 4 1] .ret)) .skip)) (.seq (aa [aG 36 0 1 2,ax 37 1 36,aS 38 .neq 37 4] (aT 38 (aa [bV 4 0] .ret) .skip)) (.seq (.seq (.drawn true 60 [aG 39 3 1 2,ax 40 1 39,js 41 4 40 0,be 42 4 41,aG 43 3 1 3,ax 44 1 43,js 45 4 44 0,be 46 4 45,cl 47 133 42 46,I 5 47]) (aa [I 48 5,aS 49 .neq 48 0] (aT 49 (aa [I 50 5,I 4 50] .ret) .skip))) (.seq (.drawn true 60 [aG 51 3 1 2,ax 52 1 51,js 53 4 52 1,be 54 4 53,aG 55 3 1 3,ax 56 1 55,js 57 4 56 1,be 58 4 57,cl 59 133 54 58,I 4 59]) .ret)))))))
@[simp] def Fl:List bK:=[.tmp 4]
def wb:C:=(aa [cP 2 0] (.seq (aa [aG 4 0 1 2,ax 5 1 4,aS 6 .eql 5 1] (aT 6 (.region [I 7 1,aG 8 1 1 2,ax 9 1 8,gv 10 7 [.t 9]]) .skip)) (aa [aG 11 0 1 2,ax 12 1 11,aS 13 .eql 12 4] (aT 13 (aa [aG 14 3 1 2,ax 15 1 14,js 16 4 15 0,be 17 4 16,I 18 1,cl 19 134 17 18] (.region [aG 20 3 1 2,ax 21 1 20,js 22 4 21 1,be 23 4 22,I 24 1,cl 25 134 23 24])) .skip))))
@[simp] def xt:List bK:=[]
@[simp] def aof:List bK:=[]
def Nb:C:=(aa [eO 2 1] (aa [cX (.bslm 5 (some 306) 1 3 []),I 3 5] (.seq (aa [I 6 0,cX (.range 7 none (.t 6))] (.block 0 (.loop (aa [⟨none,.next 8 (.t 7)⟩,cV 9 0 8] (.seq (aT 9 .skip (.exit 0)) (.block 1 (aa [b0 10 (.ment (.t 7)),cV 11 0 10,I 4 11] (.region [I 12 3,I 13 4,fC 14 1 3 [.t 13],cX (.appm 15 none 1 3 (.t 12) (.t 14)),I 3 15])))))))) (aa [I 16 3,c7 17 191 16] (.seq (.pub 3 (.region [I 18 3,I 2 18])) .ret)))))
@[simp] def TK:List bK:=[.tmp 2]
def M8:C:=(aa [cP 2 0,cX (.box 3 (some 202) (.t 1)),dL 4 dX,bm 5 false] (aa [be 7 4 2,b0 8 (.mkf 193 [.t 3]),cl 9 192 7 8,I 6 9] (.seq (aa [I 10 6,aS 11 .gtr 10 5000] (aT 11 (aa [kO 12 dX [],b1 4 4 12,bm 5 false] .ret) .skip)) (aa [be 13 4 2,ax 14 1 3,cl 15 194 13 14,b1 4 4 15,bm 5 true] .ret))))
@[simp] def Kj:List bK:=[.cell 4 true 4,.tmp 5]
def M7:C:=(aa [dL 3 dX,bm 4 false] (.seq (aa [ax 6 1 1,I 7 0,cl 8 139 6 7,I 5 8] (aa [I 9 5,aS 10 .geq 9 0] (aT 10 (aa [ax 11 1 1,I 12 5,cv 13 5 11 12,hG 14 1 4 13,be 15 4 14,b1 4 3 15,bm 4 true] .ret) .skip))) (aa [kO 16 dX [],b1 4 3 16,bm 4 false] .ret)))
@[simp] def Ki:List bK:=[.cell 3 true 4,.tmp 4]
def MY:C:=(aa [cX (.box 2 (some 101) (.t 0)),cX (.box 3 (some 102) (.t 1)),bV 4 0] (aa [ax 6 1 2,cn 7 6,b0 8 (.mkf 196 [.t 2,.t 3]),cl 9 195 7 8,I 5 9] (.seq (.seq (.drawn true 24 [I 10 5,ax 11 1 2,cn 12 11,bk 13 .lss 10 12,I 14 13,ar 14 true (ax 15 1 2),b3 14 true 16 5,ar 14 true (cv 17 5 15 16),ar 14 true (aG 18 0 1 17),ar 14 true (ax 19 1 18),ar 14 true (ax 20 1 3),ar 14 true (bk 21 .eql 19 20),dH 22 14 21]) (aT 22 (aa [I 23 5,I 4 23] .ret) .skip)) (aa [bV 4 (-1)] .ret))))
@[simp] def TD:List bK:=[.tmp 4]
def MW:C:=(aa [cP 2 0,cP 3 1,bm 4 false] (aa [be 5 4 2,be 6 4 3,cl 7 133 5 6,aS 8 .eql 7 0,I 4 8] .ret))
@[simp] def TB:List bK:=[.tmp 4]
def GQ:C:=(aa [cP 1 0,dL 2 dX] (.seq (aa [aG 3 0 1 1,ax 4 1 3,aS 5 .neq 4 4] (aT 5 (aa [aG 6 0 1 1,ax 7 1 6,aG 8 1 1 1,ax 9 1 8,aG 10 2 1 1,ax 11 1 10,kO 12 dX [(0,1,(.t 7)),(1,1,(.t 9)),(2,1,(.t 11))],b1 4 2 12] .ret) .skip)) (.seq (.drawn true 25 [aG 13 3 1 1,ax 14 1 13,js 15 4 14 0,be 16 4 15,c7 17 143 16,aG 18 3 1 1,ax 19 1 18,js 20 4 19 1,be 21 4 20,c7 22 143 21,fC 23 4 30 [.t 17,.t 22],kO 24 dX [(0,1,(gi 4)),(3,1,(.t 23))],b1 4 2 24]) .ret)))
@[simp] def ahm:List bK:=[.cell 2 true 4]
def MJ:C:=(aa [bm 2 false] (.seq (aa [I 5 0,cn 6 5,aS 7 .gtr 6 400] (aT 7 (aa [bm 2 false] .ret) .skip)) (.seq (aa [I 8 0,cn 9 8,bV 10 0] (fG 11 10 9 (.seq (.block 1 (aa [I 12 10,cv 13 5 8 10,be 14 5 13,dL 4 jO,I 3 12,b1 5 4 14] (.seq (.drawn true 45 [aG 15 0 1 4,ax 16 1 15,aS 17 .lss 16 0,I 18 17,ar 18 false (aG 19 0 1 4),ar 18 false (ax 20 1 19),ar 18 false (aS 21 .gtr 20 100000),df 22 18 21,I 23 22,b3 23 false 24 3,ar 23 false (aS 25 .gtr 24 0),b3 23 false 26 25,b3 26 true 27 0,b3 26 true 28 3,ar 26 true (aS 29 .sub 28 1),ar 26 true (cv 30 5 27 29),ar 26 true (aG 31 0 1 30),ar 26 true (ax 32 1 31),ar 26 true (aG 33 0 1 4),ar 26 true (ax 34 1 33),ar 26 true (bk 35 .geq 32 34),ar 23 false (dH 36 26 35),df 37 23 36,I 38 37,ar 38 false (hG 39 1 4 4),ar 38 false (be 40 4 39),ar 38 false (c7 41 64 40),ar 38 false (cB 42 41),df 43 38 42]) (aT 43 (aa [bm 2 false] .ret) .skip)))) (.region [aS 44 .add 10 1,I 10 44])))) (aa [bm 2 true] .ret))))
@[simp] def Ff:List bK:=[.tmp 2]
def Mz:C:=(aa [bm 2 false] (.seq (aa [I 4 0,b0 5 (.slen (.t 4)),aS 6 .lss 5 1,I 7 6,b3 7 false 8 0,ar 7 false (b0 9 (.slen (.t 8))),ar 7 false (aS 10 .gtr 9 12),df 11 7 10,I 12 11,b3 12 false 13 0,ar 12 false (b0 14 (.sidx (.t 13) (gi 0))),ar 12 false (b0 15 (.bin .lss false (.t 14) (.c (.int .u8 97)))),df 16 12 15,I 17 16,b3 17 false 18 0,ar 17 false (b0 19 (.sidx (.t 18) (gi 0))),ar 17 false (b0 20 (.bin .gtr false (.t 19) (.c (.int .u8 122)))),df 21 17 20] (aT 21 (aa [bm 2 false] .ret) .skip)) (.seq (aa [bV 3 1] (.block 0 (.loop (.seq (aa [I 22 3,I 23 0,b0 24 (.slen (.t 23)),bk 25 .lss 22 24] (aT 25 .skip (.exit 0))) (.seq (.block 1 (aa [I 28 0,I 29 3,b0 30 (.sidx (.t 28) (.t 29)),b0 31 (.bin .geq false (.t 30) (.c (.int .u8 97))),I 32 31,b3 32 true 33 0,b3 32 true 34 3,ar 32 true (b0 35 (.sidx (.t 33) (.t 34))),ar 32 true (b0 36 (.bin .leq false (.t 35) (.c (.int .u8 122)))),dH 37 32 36,I 38 37,b3 38 false 39 0,b3 38 false 40 3,ar 38 false (b0 41 (.sidx (.t 39) (.t 40))),ar 38 false (b0 42 (.bin .geq false (.t 41) (.c (.int .u8 48)))),b3 38 false 43 42,b3 43 true 44 0,b3 43 true 45 3,ar 43 true (b0 46 (.sidx (.t 44) (.t 45))),ar 43 true (b0 47 (.bin .leq false (.t 46) (.c (.int .u8 57)))),ar 38 false (dH 48 43 47),df 49 38 48,I 50 49,b3 50 false 51 0,b3 50 false 52 3,ar 50 false (b0 53 (.sidx (.t 51) (.t 52))),ar 50 false (b0 54 (.bin .eql false (.t 53) (.c (.int .u8 45)))),df 55 50 54,cB 56 55] (aT 56 (aa [bm 2 false] .ret) .skip))) (.region [I 26 3,aS 27 .add 26 1,I 3 27])))))) (aa [bm 2 true] .ret))))
@[simp] def Fe:List bK:=[.tmp 2]
def Nc:C:=(aa [bm 2 false] (.seq (aa [I 5 0,cn 6 5,bV 7 0] (fG 8 7 6 (.seq (.block 1 (aa [cv 9 4 5 7,be 10 4 9,dL 4 dX,b1 4 4 10] (aa [be 11 4 4,c7 12 64 11,cB 13 12] (aT 13 (aa [bm 2 false] .ret) .skip)))) (.region [aS 14 .add 7 1,I 7 14])))) (aa [bm 2 true] .ret)))
@[simp] def ahn:List bK:=[.tmp 2]
def N7:C:=(aa [cP 2 0,cP 3 1,dL 4 dX] (aa [be 5 4 2,be 6 4 3,fC 7 4 30 [.t 5,.t 6],kO 8 dX [(0,1,(gi 4)),(3,1,(.t 7))],b1 4 4 8] .ret))
@[simp] def TV:List bK:=[.cell 4 true 4]
def M4:C:=(aa [bV 4 0] (.seq (aa [I 5 0,I 6 1,bk 7 .lss 5 6] (aT 7 (aa [bV 4 (-1)] .ret) .skip)) (.seq (aa [I 8 0,I 9 1,bk 10 .gtr 8 9] (aT 10 (aa [bV 4 1] .ret) .skip)) (aa [bV 4 0] .ret))))
@[simp] def TG:List bK:=[.tmp 4]
def uw:C:=(aa [cP 2 0,bV 4 0] (.seq (aa [aG 6 0 1 2,ax 7 1 6] (.block 0 (aa [aS 9 .eql 7 1,I 8 9] (aT 8 (aa [I 10 1,aG 11 1 1 2,ax 12 1 11,gv 13 10 [.t 12],b0 14 (.min2 (.t 13) (gi 5001)),I 4 14] .ret) (aa [aS 16 .eql 7 4,I 15 16] (aT 15 (aa [aG 17 3 1 2,ax 18 1 17,js 19 4 18 0,be 20 4 19,I 21 1,cl 22 192 20 21,I 5 22] (.seq (aa [I 23 5,aS 24 .gtr 23 5000] (aT 24 (aa [I 25 5,I 4 25] .ret) .skip)) (aa [I 26 5,b0 27 (.bin .add false (gi 1) (.t 26)),aG 28 3 1 2,ax 29 1 28,js 30 4 29 1,be 31 4 30,I 32 1,cl 33 192 31 32,bk 34 .add 27 33,b0 35 (.min2 (.t 34) (gi 5001)),I 4 35] .ret))) .skip)))))) (aa [bV 4 1] .ret)))
@[simp] def tR:List bK:=[.tmp 4]
def M9:C:=(aa [bV 3 0] (.seq (aa [ax 7 1 1,I 8 0,gv 9 7 [.t 8],I 6 9,cV 10 0 6,cV 11 1 6,dL 4 dX,b1 4 4 10,I 5 11] (aa [I 12 5] (aT 12 (aa [be 13 4 4,dE 14 131 [.t 13,(gi 5000)],I 3 14] .ret) .skip))) (aa [bV 3 1] .ret)))
@[simp] def TJ:List bK:=[.tmp 3]
def wc:C:=(aa [cP 2 0,dL 4 dX] (.seq (aa [aG 7 0 1 2,ax 8 1 7] (.block 0 (aa [aS 10 .eql 8 1,I 9 10] (aT 9 (.seq (aa [I 12 1,aG 13 1 1 2,ax 14 1 13,gv 15 12 [.t 14],I 11 15,cV 16 0 11,cV 17 1 11,dL 5 dX,b1 4 5 16,I 6 17] (aa [I 18 6] (aT 18 (aa [be 19 4 5,c7 20 143 19,b1 4 4 20] .ret) .skip))) (aa [be 21 4 2,b1 4 4 21] .ret)) (aa [aS 23 .eql 8 4,I 22 23] (aT 22 (.seq (.drawn false 38 [aG 24 3 1 2,ax 25 1 24,js 26 4 25 0,be 27 4 26,I 28 1,cl 29 194 27 28,aG 30 3 1 2,ax 31 1 30,js 32 4 31 1,be 33 4 32,I 34 1,cl 35 194 33 34,cl 36 221 29 35,b1 4 4 36]) .ret) .skip)))))) (aa [be 37 4 2,b1 4 4 37] .ret)))
@[simp] def xu:List bK:=[.cell 4 true 4]
def ND:C:=(aa [bV 4 0] (aa [I 8 0,bV 5 0,I 6 8] (.seq (.block 0 (.loop (.seq (aa [I 9 5,I 10 6,bk 11 .lss 9 10] (aT 11 .skip (.exit 0))) (.block 1 (aa [I 12 5,I 13 6,bk 14 .add 12 13,b0 15 (.conv .u64 (.t 14)),b0 16 (.bin .shr false (.t 15) (.c (.int .u64 1))),b0 17 (.conv .i64 (.t 16)),I 7 17] (aa [I 18 1,I 19 7,gv 20 18 [.t 19],cB 21 20] (aT 21 (.region [I 22 7,aS 23 .add 22 1,I 5 23]) (.region [I 24 7,I 6 24])))))))) (aa [I 25 5,I 4 25] .ret))))
@[simp] def TL:List bK:=[.tmp 4]
def MZ:C:=(aa [bm 4 false] (.seq (.drawn true 12 [ax 5 1 1,I 6 0,cv 7 5 5 6,aG 8 0 1 7,ax 9 1 8,ax 10 1 2,bk 11 .geq 9 10,I 4 11]) .ret))
@[simp] def TE:List bK:=[.tmp 4]
def M5:C:=(aa [cP 2 0,cP 3 1,dL 4 dX] (aa [be 5 4 2,be 6 4 3,fC 7 4 30 [.t 5,.t 6],kO 8 dX [(0,1,(gi 4)),(3,1,(.t 7))],b1 4 4 8] .ret))
@[simp] def TH:List bK:=[.cell 4 true 4]
def bt:List (Nat×dB):=[
 (3,⟨1,8,.int .i64,.int .i64 0⟩),
 (9,⟨1,16,.str,.str []⟩),
 (27,⟨1,24,.slice 30,.slice 4 .nil []⟩),
 (30,⟨4,56,.struct [(0,3),(1,3),(2,9),(3,27)],.agg [.int .i64 0,.int .i64 0,.str [],.slice 4 .nil []]⟩),
 (46,⟨1,24,.slice 113,.slice 5 .nil []⟩),
 (76,⟨1,24,.slice 3,.slice 1 .nil []⟩),
 (113,⟨5,64,.struct [(0,3),(1,30)],.agg [.int .i64 0,.int .i64 0,.int .i64 0,.str [],.slice 4 .nil []]⟩),
 (136,⟨1,8,.map 3 4,.junk⟩),
 (141,⟨1,8,.other,.junk⟩),
 (192,⟨1,8,.int .u64,.int .u64 0⟩)]
theorem mixed:ao.follows .mixedOrders=true:=by kernel_rfl
theorem br{bt:List (Nat×dB)}(aO:fN ao bt=true){f:FuncId}{fn:Func}(aI:ao.funcs[f]? =some fn){c:C}{fa:List bK}{n:Nat}(eS:b5 bt c fa n fn=true){args:List ah}{r:ah}(he:eE args→cR ao [] c (bA fa r) ⟨jR 0 args,[],[],0,[]⟩)(au:args.length≤n:=by simp)(aJ:aB (fun _=>eI) r:=by simp[aB]):bI ao f args r:=bI.mk mixed aO aI eS au aJ he
theorem gh:fN ao bt=true:=by kernel_rfl
theorem afg:b5 bt MI Ts 1 Tryz.f64=true:=by kernel_rfl
theorem YT:ao.funcs[(64:Nat)]? =some Tryz.f64:=Tryz.func64
theorem afE:b5 bt M6 TI 2 Tryz.f69=true:=by kernel_rfl
theorem Zh:ao.funcs[(69:Nat)]? =some Tryz.f69:=Tryz.func69
theorem agF:b5 bt Oa ah2 1 Tryz.f114=true:=by kernel_rfl
theorem aah:ao.funcs[(114:Nat)]? =some Tryz.f114:=Tryz.func114
theorem afA:b5 bt M2 Fk 2 Tryz.f131=true:=by kernel_rfl
theorem Zd:ao.funcs[(131:Nat)]? =some Tryz.f131:=Tryz.func131
theorem JU:b5 bt Dd Fl 2 Tryz.f133=true:=by kernel_rfl
theorem Hw:ao.funcs[(133:Nat)]? =some Tryz.f133:=Tryz.func133
theorem zm:b5 bt wb xt 2 Tryz.f134=true:=by kernel_rfl
theorem yh:ao.funcs[(134:Nat)]? =some Tryz.f134:=Tryz.func134
theorem afJ:b5 bt Nb TK 1 Tryz.f136=true:=by kernel_rfl
theorem Zm:ao.funcs[(136:Nat)]? =some Tryz.f136:=Tryz.func136
theorem afG:b5 bt M8 Kj 2 Tryz.f137=true:=by kernel_rfl
theorem Zj:ao.funcs[(137:Nat)]? =some Tryz.f137:=Tryz.func137
theorem afF:b5 bt M7 Ki 2 Tryz.f138=true:=by kernel_rfl
theorem Zi:ao.funcs[(138:Nat)]? =some Tryz.f138:=Tryz.func138
theorem afw:b5 bt MY TD 2 Tryz.f139=true:=by kernel_rfl
theorem Y9:ao.funcs[(139:Nat)]? =some Tryz.f139:=Tryz.func139
theorem afu:b5 bt MW TB 2 Tryz.f142=true:=by kernel_rfl
theorem Y7:ao.funcs[(142:Nat)]? =some Tryz.f142:=Tryz.func142
theorem SR:b5 bt GQ ahm 1 Tryz.f143=true:=by kernel_rfl
theorem Pc:ao.funcs[(143:Nat)]? =some Tryz.f143:=Tryz.func143
theorem afh:b5 bt MJ Ff 1 Tryz.f158=true:=by kernel_rfl
theorem YU:ao.funcs[(158:Nat)]? =some Tryz.f158:=Tryz.func158
theorem ae7:b5 bt Mz Fe 1 Tryz.f160=true:=by kernel_rfl
theorem YK:ao.funcs[(160:Nat)]? =some Tryz.f160:=Tryz.func160
theorem afK:b5 bt Nc ahn 1 Tryz.f172=true:=by kernel_rfl
theorem Zn:ao.funcs[(172:Nat)]? =some Tryz.f172:=Tryz.func172
theorem agC:b5 bt N7 TV 2 Tryz.f189=true:=by kernel_rfl
theorem aae:ao.funcs[(189:Nat)]? =some Tryz.f189:=Tryz.func189
theorem afC:b5 bt M4 TG 2 Tryz.f190=true:=by kernel_rfl
theorem Zf:ao.funcs[(190:Nat)]? =some Tryz.f190:=Tryz.func190
theorem xl:b5 bt uw tR 2 Tryz.f192=true:=by kernel_rfl
theorem wj:ao.funcs[(192:Nat)]? =some Tryz.f192:=Tryz.func192
theorem afH:b5 bt M9 TJ 2 Tryz.f193=true:=by kernel_rfl
theorem Zk:ao.funcs[(193:Nat)]? =some Tryz.f193:=Tryz.func193
theorem zn:b5 bt wc xu 2 Tryz.f194=true:=by kernel_rfl
theorem yi:ao.funcs[(194:Nat)]? =some Tryz.f194:=Tryz.func194
theorem af8:b5 bt ND TL 2 Tryz.f195=true:=by kernel_rfl
theorem ZL:ao.funcs[(195:Nat)]? =some Tryz.f195:=Tryz.func195
theorem afx:b5 bt MZ TE 3 Tryz.f196=true:=by kernel_rfl
theorem Za:ao.funcs[(196:Nat)]? =some Tryz.f196:=Tryz.func196
theorem afD:b5 bt M5 TH 2 Tryz.f221=true:=by kernel_rfl
theorem Zg:ao.funcs[(221:Nat)]? =some Tryz.f221:=Tryz.func221
def adB(s:List dA)(k:Nat)(st:bo):Prop:=∃i:Nat,1≤i∧i≤s.length∧k=s.length-i∧((s.drop 1).all lY=(s.drop i).all lY)∧st=⟨[(0,.str s),(3,.int .i64 i)],[],[],0,[]⟩
theorem sC(s:List dA):bI ao 160 [.str s] (.bool (jl s)):=by
 refine bI.mk mixed gh YK ae7 (by simp) (by simp[aB]) fun ae=>?_;unfold Mz;simp;(with_reducible repeat' first|((first|refine bO (fun h=>?_) fun h=>?_|refine bS (fun h=>?_) fun h=>?_|refine bR (fun h=>?_) fun h=>?_)<;>try simp at h)|refine ak ?_|simp);case refine_1.refine_1.refine_1.refine_2=>
  have acB:jl s=(s.drop 1).all lY:=by simp[jl,low];omega
  rw[acB];refine s5 (adB s) (s.length-1) _ ⟨by simp,by simp[gu],by simp[n4],by simp⟩ ⟨1,by omega,by omega,rfl,rfl,rfl⟩ ?_;rintro k st ⟨i,lx,ho,ab,kX,rfl⟩ p1 c1;rw[kX];simp;refine bO (fun bu=>?_) (fun ti=>?_)
  ·simp at bu;have aP:s.drop i=s[i]?.getD 0::s.drop (i+1):=by rw[kQ bu];simp[bu]
   simp;(with_reducible repeat' first|((first|refine bO (fun h=>?_) fun h=>?_|refine bS (fun h=>?_) fun h=>?_|refine bR (fun h=>?_) fun h=>?_)<;>try simp at h)|refine ak ?_|simp);all_goals first
    |(simp[bA,Fe,aV,aY,aU,aP,lY,low];omega)
    |(simp only[CS];refine⟨s.length-(i+1),_,by omega,⟨by simp,by simp[gu],by simp[n4],by simp⟩,i+1,by omega,by omega,rfl,?_,rfl⟩;rw[kX,aP];simp[lY,low];omega)
  ·simp at ti;have:s.drop i=[]:=by simp;omega
   simp[bA,Fe,aV,aY,aU,this]
 all_goals simp[bA,Fe,aV,aY,aU,jl,low]
 all_goals omega
theorem Vu(m:Nat):∀(t:bP),t.sz≤m→∀(room:Int),0≤room∧room≤10000→bI ao 131 [enc t,.int .i64 room] (.int .i64 (fk t room)):=by
 induction m with
 |zero=>intro t aO;cases t;simp[bP.sz]at aO
 |succ m bM=>
 rintro⟨k,n,s,args⟩ aO room qT;refine br gh Zd afA fun aR=>?_;unfold M2;simp[bP.kind,bP.num,bP.name,bP.args];(with_reducible repeat' first|((first|refine bO (fun h=>?_) fun h=>?_|refine bS (fun h=>?_) fun h=>?_|refine bR (fun h=>?_) fun h=>?_)<;>try simp at h)|refine ak ?_|simp);all_goals try refine c2.val (by simp) (sC _) ?_
 all_goals try simp
 (with_reducible repeat' first|((first|refine bO (fun h=>?_) fun h=>?_|refine bS (fun h=>?_) fun h=>?_|refine bR (fun h=>?_) fun h=>?_)<;>try simp at h)|refine ak ?_|simp);all_goals try simp[bA,Fk,aV,aY,aU]
 case succ.refine_2.refine_2.refine_1.refine_1.refine_2=>
  rename_i bs J U al;match args,h with
  |[a,b],_=>
  simp[bP.sz,bP.szL]at aO;subst J U al;simp;(with_reducible repeat' first|((first|refine bO (fun h=>?_) fun h=>?_|refine bS (fun h=>?_) fun h=>?_|refine bR (fun h=>?_) fun h=>?_)<;>try simp at h)|refine ak ?_|simp);refine c2.val (by simp) (bM a (by omega) (room-1) (by omega)) ?_;simp;have bD:=JM a (room-1);have mw:=BW a (room-1);(with_reducible repeat' first|((first|refine bO (fun h=>?_) fun h=>?_|refine bS (fun h=>?_) fun h=>?_|refine bR (fun h=>?_) fun h=>?_)<;>try simp at h)|refine ak ?_|simp)
  ·simp[bA,Fk,aV,aY,aU];rw[JL];simp;omega
  ·refine c2.val (by simp) (bM b (by omega) (room-1-fk a (room-1)) (by omega)) ?_;simp;have ae:=JM b (room-1-fk a (room-1));have fL:=BW b (room-1-fk a (room-1));(with_reducible repeat' first|((first|refine bO (fun h=>?_) fun h=>?_|refine bS (fun h=>?_) fun h=>?_|refine bR (fun h=>?_) fun h=>?_)<;>try simp at h)|refine ak ?_|simp);all_goals simp[bA,Fk,aV,aY,aU]
   all_goals rw[JL];simp;omega
 all_goals rw[JL]
 all_goals simp_all[kK]
 all_goals first|omega|(split<;>simp at h⊢)
theorem Lo(t:bP):bI ao 64 [enc t] (.bool t.fits):=by refine br gh YT afg fun aR=>?_;unfold MI;simp;refine c2.val (by simp) (Vu t.sz t (eQ _) 5000 (by omega)) ?_;simp;simp[bA,Ts,aV,aY,aU];simp[bP.fits]
theorem ajz(t:T):bI ao 64 [t.e] (.bool t.fit):=by have:=Lo t.tm;rwa[uB,bP.fits_T]at this
theorem F9(a b:T):bI ao 221 [a.e,b.e] (T.pair a b).e:=by refine br gh Zg afD fun aR=>?_;unfold M5;simp;(with_reducible repeat' first|((first|refine bO (fun h=>?_) fun h=>?_|refine bS (fun h=>?_) fun h=>?_|refine bR (fun h=>?_) fun h=>?_)<;>try simp at h)|refine ak ?_|simp);all_goals try simp[bA,TH,aV,aY,aU]
theorem F4(a b:T):bI ao 189 [a.e,b.e] (T.pair a b).e:=by refine br gh aae agC fun aR=>?_;unfold N7;simp;(with_reducible repeat' first|((first|refine bO (fun h=>?_) fun h=>?_|refine bS (fun h=>?_) fun h=>?_|refine bR (fun h=>?_) fun h=>?_)<;>try simp at h)|refine ak ?_|simp);all_goals try simp[bA,TV,aV,aY,aU]
theorem sD(t:T):bI ao 143 [t.e] t.e:=by
 induction t with
 |pair a b dO dP=>refine br gh Pc SR fun aR=>?_;unfold GQ;exact ct
 |_=>refine br gh Pc SR fun aR=>?_;unfold GQ;exact ct
theorem nu(a b:Int):bI ao 190 [.int .i64 a,.int .i64 b] (.int .i64 (en a b)):=by
 refine br gh Zf afC fun aR=>?_;unfold M4;simp;((with_reducible repeat' first|refine ak ?_|simp|((first|apply bO|apply bS|apply bR)<;>intro h<;>try simp at h))<;>(try exact cq));all_goals simp[bA,TG,aV,aY,aU]
 all_goals simp[en]
 all_goals omega
theorem z1(a:T):∀b:T,bI ao 133 [a.e,b.e] (.int .i64 (eg a b)):=by
 induction a with
 |pair bz a2 El Em=>
  intro b;cases b with
  |pair b9 bZ=>
   refine br gh Hw JU fun aR=>?_;unfold Dd;simp;((with_reducible repeat' first|refine ak ?_|refine aE (El _) ?_|refine aF (El _) ?_|refine aE (Em _) ?_|refine aF (Em _) ?_|refine aE (nu _ _) ?_|refine aF (nu _ _) ?_|simp|((first|apply bO|apply bS|apply bR)<;>intro h<;>try simp at h))<;>(try exact cq));all_goals simp[bA,Fl,aV,aY,aU]
   all_goals simp_all[eg]
  |_=>
   refine br gh Hw JU fun aR=>?_;unfold Dd;simp;(with_reducible repeat' first|refine ak ?_|refine aE (nu _ _) ?_|refine aF (nu _ _) ?_|simp);all_goals simp[bA,Fl,aV,aY,aU]
   all_goals simp_all[eg]
 |_=>
  intro b;cases b<;>
  (refine br gh Hw JU fun aR=>?_;unfold Dd
   simp
   (with_reducible repeat' first|((first|apply bO|apply bS|apply bR)<;>intro h<;>try simp at h)|refine ak ?_|refine aE (nu _ _) ?_|refine aF (nu _ _) ?_|simp)
   all_goals simp[bA,Fl,aV,aY,aU]
   all_goals simp_all[eg,kd])
theorem sE(a b:T):bI ao 142 [a.e,b.e] (.bool (decide (a=b))):=by
 refine br gh Y7 afu fun aR=>?_;unfold MW;simp;(with_reducible repeat' first|refine ak ?_|refine aE (z1 _ _) ?_|refine aF (z1 _ _) ?_|simp);all_goals simp[bA,TB,aV,aY,aU]
 have:=qe a b;by_cases h:eg a b=0<;>simp_all
open Classical in
def adF(l:List cQ)(k:Nat)(st:bo):Prop:=∃i:Nat,i≤l.length∧k=l.length-i∧(∀j,j<i→zl l j)∧st=⟨[(0,.slice 5 .no (l.map cQ.e)),(8,.slice 5 .no (l.map cQ.e)),(9,.int .i64 l.length),(10,.int .i64 i)],[],[],0,[]⟩
open Classical in
theorem ajA(l:List cQ):bI ao 158 [.slice 5 .no (l.map cQ.e)] (.bool (decide (x0 l))):=by
 refine br gh YU afh fun aR=>?_;unfold MJ;simp;(with_reducible repeat' first|((first|apply bO|apply bS|apply bR)<;>intro h<;>try simp at h)|refine ak ?_|simp)
 ·simp[bA,Ff,aV,aY,aU];intro cp;have:=cp.1;omega
 ·refine s5 (adF l) l.length _ ⟨by simp,by simp[gu],by simp[n4],by simp⟩ ⟨0,by omega,by omega,by simp,rfl⟩ ?_;rintro k st ⟨i,hi,ab,kX,rfl⟩ p1 c1;simp;refine bO (fun bu=>?_) (fun ti=>?_)
  ·simp at bu;obtain⟨b,ae⟩:∃b,l[i]? =some b:=⟨_,ca bu⟩;obtain⟨c,aw⟩:∃c,l[i-1]? =some c:=⟨_,ca (by omega)⟩;clear p1 c1;simp[ae,aw];((with_reducible repeat' first|refine ak ?_|refine aE (Lo _) ?_|refine aF (Lo _) ?_|simp[aw]|((first|apply bO|apply bS|apply bR)<;>intro h<;>try simp at h))<;>(try exact cq));all_goals first
    |(simp[bA,Ff,aV,aY,aU];intro cp;have J:=cp.2 i bu b ae;have U:=J.2.1 c;have al:=J.2.2;first|omega|(have:=U (by omega) aw;omega)|(rw[al]at h;cases h)|simp_all)
    |(simp only[CS];refine⟨l.length-(i+1),_,by omega,⟨by simp,by simp[gu],by simp[n4],by simp⟩,i+1,by omega,rfl,fun j af=>?_,rfl⟩
      by_cases e:j=i
      ·subst e;intro bY fL;rw[ae]at fL;cases fL;refine⟨by omega,fun ch bs hj=>?_,by assumption⟩;rw[aw]at hj;cases hj;omega
      ·exact kX j (by omega))
  ·simp at ti;simp[bA,Ff,aV,aY,aU];exact⟨by omega,fun j af=>kX j (by omega)⟩
def lH(p:Nat→Bool)(i j:Nat):Nat:=if i<j then(if p ((i+j)/2)then lH p i ((i+j)/2)else lH p ((i+j)/2+1) j)else i
termination_by j-i
def adE(s:cF)(n g:Nat)(dh:List ah)(p:Nat→Bool)(k:Nat)(st:bo):Prop:=∃i j:Nat,i≤j∧j≤n∧k=j-i∧lH p i j=lH p 0 n∧st=⟨[(1,.func g dh),(5,.int .i64 i),(6,.int .i64 j)],s.b,s.e,0,cO s⟩
theorem aaQ(s:cF)(ag:ee s)(n g:Nat)(aA:n≤1000000)(dh:List ah)(aw:aH (inObs s) dh)(c9:cU dh=dh)(p:Nat→Bool)(aI:∀i:Nat,i<n→bJ ao g (.int .i64 i::dh) s fun r ai=>r= .bool (p i)∧ai=s):
  bJ ao 195 [.int .i64 n,.func g dh] s fun r ai=>r= .int .i64 (lH p 0 n)∧ai=s:=by
 refine bJ.mk mixed gh ZL af8 (by simp) ag.obj fun aR c1=>?_;unfold ND;simp;refine s5 (adE s n g dh p) n _ (ig.ob ag (by simp[aw]) aQ aQ) ⟨0,n,by omega,by omega,rfl,rfl,rfl⟩ ?_;rintro k st ⟨i,j,ly,af,ab,IF,rfl⟩ p1 c1;clear p1 c1;simp;refine bO (fun bu=>?_) (fun ti=>?_)
 ·simp at bu;have hw:gW.wrap ((i:Int)+j)=i+j:=by simp[rA,nv,rz];omega
  obtain⟨m,hm⟩:∃m,m=(i+j)/2:=⟨_,rfl⟩;have aP:Int.fdiv ((i:Int)+j) 2=(m:Int):=by rw[Int.fdiv_eq_ediv_of_nonneg _ (by omega)];omega
  have nS:IntKind.i64.wrap (m:Int)=m:=by rw[oc];omega
  have H3:gW.bits=64:=rfl;simp[hw,c9,H3,aP,nS];refine⟨by unfold r8;omega,?_⟩;refine c2.ob (aI m (by omega)) ag aQ aQ (by simp[aw]) ?_;rintro r ai ⟨rfl,rfl⟩;refine⟨Same.refl _,?_⟩;simp[gH];(with_reducible repeat' first|((first|apply bO|apply bS|apply bR)<;>intro h<;>try simp at h)|refine ak ?_|simp)
  ·simp only[CS];refine⟨j-(m+1),_,by omega,ig.ob ag (by simp[aw]) aQ aQ,m+1,j,by omega,by omega,rfl,?_,rfl⟩;rw[←IF];conv=>rhs;unfold lH
   simp[bu,←hm,h]
  ·simp only[CS];refine⟨m-i,_,by omega,ig.ob ag (by simp[aw]) aQ aQ,i,m,by omega,by omega,rfl,?_,rfl⟩;rw[←IF];conv=>rhs;unfold lH
   simp[bu,←hm,h]
 ·simp at ti;have:lH p 0 n=i:=by rw[←IF];unfold lH;rw[if_neg (by omega)]
  rw[this];simp;refine cN.at s (.inl rfl) ag (Same.refl s) aQ aQ ?_;simp[cT,TL,aV,aY,aU]
def mq(l:List aq)(v:Int):Int:=
 let i:=lH (fun i=>match l[i]? with|some b=>decide (v≤b.v)|none=>false) 0 l.length
 match l[i]? with|some b=>if b.v=v then i else-1|none=> -1
theorem aaW(l:List aq)(v:Int)(i:Nat)(b:aq)(ae:l[i]? =some b):bJ ao 196 [.int .i64 i,.ptr (.obj 101) 0,.ptr (.obj 102) 0] ⟨[(.obj 101,[.slice 5 .no (l.map aq.e)]),(.obj 102,[.int .i64 v])],[]⟩ fun r ai=>r= .bool (decide (v≤b.v))∧ai=⟨[(.obj 101,[.slice 5 .no (l.map aq.e)]),(.obj 102,[.int .i64 v])],[]⟩:=by have ag:ee ⟨[(.obj 101,[.slice 5 .no (l.map aq.e)]),(.obj 102,[.int .i64 v])],[]⟩:=(ee.of ⟨by intro m;simp[Pv.look],by intro m;simp[Pv.look]⟩ (by simp[aH,aB,inObs,Pv.look]) (by simp[aH,aB,inObs,Pv.look]));have bu:i<l.length:=(fH.1 ae).1;refine bJ.mk mixed gh Za afx (by simp) ag.obj fun aR c1=>?_;unfold MZ;simp[ae];(with_reducible repeat' first|refine ak ?_|simp);refine cN.at _ (.inl rfl) ag (Same.refl _) aQ aQ ?_;simp[cT,TE,aV,aY,aU]
theorem sF(l:List aq)(v:Int)(au:l.length≤1000000):bI ao 139 [.slice 5 .no (l.map aq.e),.int .i64 v] (.int .i64 (mq l v)):=by
 refine br gh Y9 afw fun aR=>?_;unfold MY;simp;have ag:ee ⟨[(.obj 101,[.slice 5 .no (l.map aq.e)]),(.obj 102,[.int .i64 v])],[]⟩:=(ee.of ⟨by intro m;simp[Pv.look],by intro m;simp[Pv.look]⟩ (by simp[aH,aB,inObs,Pv.look]) (by simp[aH,aB,inObs,Pv.look]));refine c2.ob (aaQ ⟨[(.obj 101,[.slice 5 .no (l.map aq.e)]),(.obj 102,[.int .i64 v])],[]⟩ ag l.length 196 au [.ptr (.obj 101) 0,.ptr (.obj 102) 0] (by simp[inObs]) (by simp) (fun i=>match l[i]? with|some b=>decide (v≤b.v)|none=>false) fun i hi=>?_) ag aQ aQ (by simp[inObs]) ?_
 ·obtain⟨b,ae⟩:∃b,l[i]? =some b:=⟨_,ca hi⟩;simp only[ae];exact aaW l v i b ae
 rintro r ai ⟨rfl,rfl⟩;refine⟨Same.refl _,?_⟩;unfold mq;generalize lH _ 0 l.length=i;cases ae:l[i]? with
 |none=>
  have bu:¬i<l.length:=by simpa using ae
  simp[cu,bu];exact ct
 |some b=>
  have bu:i<l.length:=(fH.1 ae).1;simp[cu,ae,bu];((with_reducible repeat' first|refine ak ?_|simp[ae]|((first|apply bO|apply bS|apply bR)<;>intro h<;>try simp at h))<;>(try exact cq));all_goals simp[bA,TD,aV,aY,aU]
  all_goals simp_all
def re(l:List aq)(v:Int):aW T:=if mq l v<0 then none else(l[(mq l v).toNat]?).map (·.t)
theorem Pu(l:List aq)(v:Int):mq l v<l.length∧ -1≤mq l v:=by
 unfold mq;simp only;split
 ·rename_i b ae;have:=(fH.1 ae).1;split<;>omega
 ·omega
theorem PL(l:List aq)(v:Int)(au:l.length≤1000000)(o:aW T)(av:o=re l v):bJ ao 138 [.int .i64 v,.ptr (.obj 201) 0] ⟨[(.obj 201,[.slice 5 .no (l.map aq.e)])],[]⟩ fun r ai=>r= .tuple [(o.getD .nil).e,.bool o.isSome]∧ai=⟨[(.obj 201,[.slice 5 .no (l.map aq.e)])],[]⟩:=by
 have ag:ee ⟨[(.obj 201,[.slice 5 .no (l.map aq.e)])],[]⟩:=(ee.of ⟨by intro m;simp[Pv.look],by intro m;simp[Pv.look]⟩ (by simp[aH,aB,inObs,Pv.look]) (by simp[aH,aB,inObs,Pv.look]));have bu:=(Pu l v).1;unfold re at av;refine bJ.mk mixed gh Zi afF (by simp) ag.obj fun aR c1=>?_;unfold M7;simp;(with_reducible repeat' first|((first|apply bO|apply bS|apply bR)<;>intro h<;>try simp at h)|refine ak ?_|refine aE (sF l v au) ?_|refine aF (sF l v au) ?_|simp)
 ·obtain⟨b,ae⟩:∃b,l[(mq l v).toNat]? =some b:=⟨_,ca (by omega)⟩;have hB:o=some b.t:=by rw[av,if_neg (by omega),ae];rfl
  simp[ae];(with_reducible repeat' first|((first|apply bO|apply bS|apply bR)<;>intro h<;>try simp at h)|refine ak ?_|simp[ae]);refine cN.at _ (.inl rfl) ag (Same.refl _) aQ aQ ?_;simp[cT,Ki,aV,aY,aU];simp[hB]
 ·have hB:o=none:=by rw[av,if_pos h]
  refine cN.at _ (.inl rfl) ag (Same.refl _) aQ aQ ?_;simp[cT,Ki,aV,aY,aU];simp[hB]
theorem abc(s:cF)(ag:ee s)(g:Nat)(dh:List ah)(aw:aH (inObs s) dh)(c9:cU dh=dh)(f:Int→Int)(A3:∀v,-1≤f v)(t:T)(aI:∀v,t.occ v=true→bJ ao g (.int .i64 v::dh) s fun r ai=>r= .int .i64 (f v)∧ai=s):
  bJ ao 192 [t.e,.func g dh] s fun r ai=>r= .int .i64 (kL f t)∧ai=s:=by
 have aA:∀m,Pv.look (.loc m) s.b=none:=ag.obj.1;have hu:∀m cs,cw (.loc m) cs s.b=s.b++[(.loc m,cs)]:=fun m cs=>jE (aA m);have av:∀m,aD.loc m∉cO s:=jz ag.obj;induction t with
 |pair a b dO dP=>
  have amv:=FO f A3 a;have amy:=FO f A3 b;refine bJ.mk mixed gh wj xl (by simp) ag.obj fun aR c1=>?_;unfold uw;simp[hu,av,cE,aA,c9];(with_reducible repeat' first|refine ak ?_|simp[hu,av,cE,aA]);refine c2.ob (dO fun v aK=>aI v (by simp[T.occ,aK])) ag aQ aQ (by simp[aw]) ?_;rintro r ai ⟨rfl,rfl⟩;refine⟨Same.refl _,?_⟩;simp[gH,h8,cu,aA];(with_reducible repeat' first|((first|apply bO|apply bS|apply bR)<;>intro h<;>try simp at h)|refine ak ?_|simp[hu,av,cE,aA])
  ·refine cN.at ai (.inl rfl) ag (Same.refl _) aQ aQ ?_;simp[cT,tR,aV,aY,aU];simp[kL];omega
  ·rw[c9];refine c2.ob (dP fun v aK=>aI v (by simp[T.occ,aK])) ag aQ aQ (by simp[aw]) ?_;rintro r s2 ⟨rfl,rfl⟩;refine⟨Same.refl _,?_⟩;simp[gH,h8,cu,aA];(with_reducible repeat' first|((first|apply bO|apply bS|apply bR)<;>intro h<;>try simp at h)|refine ak ?_|simp[hu,av,cE,aA]);refine cN.at s2 (.inl rfl) ag (Same.refl _) aQ aQ ?_;simp[cT,tR,aV,aY,aU];simp[kL];omega
 |var n=>refine bJ.mk mixed gh wj xl (by simp) ag.obj fun aR c1=>?_;unfold uw;simp[hu,av,cE,aA,c9];(with_reducible repeat' first|refine ak ?_|simp[hu,av,cE,aA]);refine c2.ob (aI n (by simp[T.occ])) ag aQ aQ (by simp[aw]) ?_;rintro r ai ⟨rfl,rfl⟩;refine⟨Same.refl _,?_⟩;simp[gH,h8,cu,aA];refine cN.at ai (.inl rfl) ag (Same.refl _) aQ aQ ?_;simp[cT,tR,aV,aY,aU];simp[kL]
 |_=>refine bJ.mk mixed gh wj xl (by simp) ag.obj fun aR c1=>?_;unfold uw;simp[hu,av,cE,aA,c9];(with_reducible repeat' first|refine ak ?_|simp[hu,av,cE,aA]);refine cN.at s (.inl rfl) ag (Same.refl _) aQ aQ ?_;simp[cT,tR,aV,aY,aU];simp[kL]
theorem aaZ(s:cF)(ag:ee s)(g:Nat)(dh:List ah)(aw:aH (inObs s) dh)(c9:cU dh=dh)(f:Int→aW T)(t:T)(aI:∀v,t.occ v=true→bJ ao g (.int .i64 v::dh) s fun r ai=>r= .tuple [((f v).getD .nil).e,.bool (f v).isSome]∧ai=s):
  bJ ao 194 [t.e,.func g dh] s fun r ai=>r=(t.sub f).e∧ai=s:=by
 have aA:∀m,Pv.look (.loc m) s.b=none:=ag.obj.1;have cC:∀m,Pv.look (.loc m) s.e=none:=ag.obj.2;have hu:∀m cs,cw (.loc m) cs s.b=s.b++[(.loc m,cs)]:=fun m cs=>jE (aA m);have av:∀m,aD.loc m∉cO s:=jz ag.obj;have k6:∀m p r,cw (.loc m) p (s.b++r)=s.b++cw (.loc m) p r:=fun m p r=>zX (aA m);induction t with
 |pair a b dO dP=>refine bJ.mk mixed gh yi zn (by simp) ag.obj fun aR c1=>?_;unfold wc;simp[hu,av,cE,aA,cC,c9,k6];(with_reducible repeat' first|refine ak ?_|simp[hu,av,cE,aA,cC,k6]);refine hO.ob (dO fun v aK=>aI v (by simp[T.occ,aK])) ag ag (Same.refl _) aQ aQ (by simp[aw]) ?_;simp[gH,h8,cu,aA,c9];refine hO.ob (dP fun v aK=>aI v (by simp[T.occ,aK])) ag ag (Same.refl _) aQ aQ (by simp[aw]) ?_;simp[gH,h8,cu,aA,c9];(with_reducible repeat' first|refine ak ?_|refine aE (F9 _ _) ?_|refine aF (F9 _ _) ?_|simp);refine cN.at s (.inl rfl) ag (Same.refl _) aQ aQ ?_;simp[cT,xu,aV,aY,aU,cE,aA];simp[T.sub]
 |var n=>
  refine bJ.mk mixed gh yi zn (by simp) ag.obj fun aR c1=>?_;unfold wc;simp[hu,av,cE,aA,c9,k6];(with_reducible repeat' first|refine ak ?_|simp[hu,av,cE,aA,k6]);refine c2.ob (aI n (by simp[T.occ])) ag aQ aQ (by simp[aw]) ?_;rintro r ai ⟨rfl,rfl⟩;refine⟨Same.refl _,?_⟩;simp[gH,h8,cu,aA,hu,av,cE];(with_reducible repeat' first|((first|apply bO|apply bS|apply bR)<;>intro h<;>try simp at h)|refine ak ?_|refine aE (sD _) ?_|refine aF (sD _) ?_|simp[hu,av,cE,aA,k6]);all_goals refine cN.at ai (.inl rfl) ag (Same.refl _) aQ aQ ?_
  all_goals simp[cT,xu,aV,aY,aU,cE,aA]
  all_goals cases p3:f n<;>simp_all[T.sub]
 |_=>refine bJ.mk mixed gh yi zn (by simp) ag.obj fun aR c1=>?_;unfold wc;simp[hu,av,cE,aA,c9,k6];(with_reducible repeat' first|((first|apply bO|apply bS|apply bR)<;>intro h<;>try simp at h)|refine ak ?_|simp[hu,av,cE,aA,k6]);refine cN.at s (.inl rfl) ag (Same.refl _) aQ aQ ?_;simp[cT,xu,aV,aY,aU,cE,aA];simp[T.sub]
def nB(l:List aq):cF:=⟨[(.obj 201,[.slice 5 .no (l.map aq.e)])],[]⟩
def qs(l:List aq):cF:=⟨[(.obj 201,[.slice 5 .no (l.map aq.e)]),(.obj 202,[.func 138 [.ptr (.obj 201) 0]])],[]⟩
theorem Ae(l:List aq):ee (nB l):=by unfold nB;exact(ee.of ⟨by intro m;simp[Pv.look],by intro m;simp[Pv.look]⟩ (by simp[aH,aB,inObs,Pv.look]) (by simp[aH,aB,inObs,Pv.look]))
theorem Gj(l:List aq):ee (qs l):=by unfold qs;exact(ee.of ⟨by intro m;simp[Pv.look],by intro m;simp[Pv.look]⟩ (by simp[aH,aB,inObs,Pv.look]) (by simp[aH,aB,inObs,Pv.look]))
def s9(l:List aq)(v:Int):Int:=match re l v with|some x=>fk x.tm 5000|none=>1
theorem aaI(l:List aq)(v:Int): -1≤s9 l v:=by
 unfold s9;split
 ·rename_i x _;rcases BW x.tm 5000 with h|h<;>omega
 ·omega
theorem Vv(t:T):bI ao 131 [t.e,.int .i64 5000] (.int .i64 (fk t.tm 5000)):=by have:=Vu t.tm.sz t.tm (eQ _) 5000 (by omega);rwa[uB]at this
theorem aa9(l:List aq)(v:Int)(au:l.length≤1000000):bJ ao 193 [.int .i64 v,.ptr (.obj 202) 0] (qs l) fun r ai=>r= .int .i64 (s9 l v)∧ai=qs l:=by
 have ag:=Gj l;unfold qs at ag⊢;refine bJ.mk mixed gh Zk afH (by simp) ag.obj fun aR c1=>?_;unfold M9;simp;refine c2.ob (PL l v au _ rfl) (Ae l) aQ aQ (by simp[inObs]) ?_;rintro r ai ⟨rfl,rfl⟩;refine⟨Same.refl _,?_⟩;simp[cu];(with_reducible repeat' first|((first|apply bO|apply bS|apply bR)<;>intro h<;>try simp at h)|refine ak ?_|refine aE (Vv _) ?_|refine aF (Vv _) ?_|simp);all_goals refine cN.at _ (.inl rfl) ag (Same.refl _) aQ aQ ?_
 all_goals simp[cT,TJ,aV,aY,aU]
 all_goals unfold s9
 all_goals cases bF:re l v<;>simp_all
def Cd(l:List aq)(t:T):T:=t.sub (re l)
def sn(l:List aq)(t:T):Bool:=decide (kL (s9 l) t≤5000)
theorem aa8(l:List aq)(t:T)(au:l.length≤1000000):bJ ao 137 [t.e,.func 138 [.ptr (.obj 201) 0]] (nB l) fun r ai=>r= .tuple [(if sn l t then Cd l t else .nil).e,.bool (sn l t)]∧ai=nB l:=by
 have ag:=Ae l;unfold nB at ag⊢;refine bJ.mk mixed gh Zj afG (by simp) ag.obj fun aR c1=>?_;unfold M8;simp;refine c2.ob (abc (qs l) (Gj l) 193 [.ptr (.obj 202) 0] (by simp[inObs,qs]) (by simp) (s9 l) (aaI l) t fun v aK=>aa9 l v au) (Gj l) (by unfold qs;exact aQ) (by unfold qs;exact aQ) (by simp[inObs,qs]) ?_;rintro r ai ⟨rfl,rfl⟩;refine⟨Same.refl _,?_⟩;unfold qs;simp[cu];(with_reducible repeat' first|((first|apply bO|apply bS|apply bR)<;>intro h<;>try simp at h)|refine ak ?_|simp)
 ·refine cN.at _ (.inl rfl) ag (Same.refl _) aQ aQ ?_;simp[cT,Kj,aV,aY,aU];have:sn l t=false:=by simp[sn];omega
  simp[this]
 ·refine c2.ob (aaZ (nB l) (Ae l) 138 [.ptr (.obj 201) 0] (by simp[inObs,nB]) (by simp) (re l) t fun v aK=>PL l v au _ rfl) (Ae l) (by unfold nB;exact aQ) (by unfold nB;exact aQ) (by simp[inObs,nB]) ?_;rintro r ai ⟨rfl,rfl⟩;refine⟨Same.refl _,?_⟩;unfold nB;simp[cu];refine cN.at _ (.inl rfl) ag (Same.refl _) aQ aQ ?_;simp[cT,Kj,aV,aY,aU];have:sn l t=true:=by simp[sn];omega
  simp[this,Cd]
theorem aj9(l:List aq)(t:T)(au:l.length≤1000000):bI ao 69 [.slice 5 .no (l.map aq.e),t.e] (.tuple [(if sn l t then Cd l t else .nil).e,.bool (sn l t)]):=by refine br gh Zh afE fun aR=>?_;unfold M6;simp;refine c2.ob (aa8 l t au) (Ae l) (by unfold nB;exact aQ) (by unfold nB;exact aQ) (by simp[inObs,nB]) ?_;rintro r ai ⟨rfl,rfl⟩;refine⟨Same.refl _,?_⟩;unfold nB;simp[cu];simp[bA,TI,aV,aY,aU]
theorem K1(p:Nat→Bool)(n:Nat)(hm:∀k bH,k≤bH→bH<n→p k=true→p bH=true):∀(m i j:Nat),j-i≤m→i≤j→j≤n→(∀k,k<i→p k=false)→(∀k,j≤k→k<n→p k=true)→
  (i≤lH p i j∧lH p i j≤j)∧(∀k,k<lH p i j→p k=false)∧(∀k,lH p i j≤k→k<n→p k=true)
 |m,i,j,aP,ly,af,J,U=>by
  rw[lH];split
  ·rename_i bu;obtain⟨m,rfl⟩:∃hd,m=hd+1:=⟨m-1,by omega⟩;split
   ·rename_i bF;have:=K1 p n hm m i ((i+j)/2) (by omega) (by omega) (by omega) J (fun k ab D3=>hm _ k ab D3 bF);exact⟨⟨this.1.1,by omega⟩,this.2⟩
   ·rename_i bF;have:=K1 p n hm m ((i+j)/2+1) j (by omega) (by omega) af (fun k ab=>by
     by_cases nf:p k=true
     ·exact absurd (hm k ((i+j)/2) (by omega) (by omega) nf) bF
     ·simpa using nf) U
    exact⟨⟨by omega,this.1.2⟩,this.2⟩
  ·obtain rfl:i=j:=by omega
   exact⟨⟨eQ _,eQ _⟩,J,U⟩
theorem J8{l:List aq}(ag:h9 l)(v:Int):re l v=dd l v:=by
 have bu:∀(i j:Nat) (x y:aq),i<j→l[i]? =some x→l[j]? =some y→x.v<y.v:=by intro i j x y ly ad aL;obtain⟨J,rfl⟩:=fH.1 ad;obtain⟨U,rfl⟩:=fH.1 aL;exact oX.1 ag i j J U ly
 obtain⟨p,bF⟩:∃p:Nat→Bool,p=(fun i=>match l[i]? with|some b=>decide (v≤b.v)|none=>false):=⟨_,rfl⟩;have Ea:∀i b,l[i]? =some b→p i=decide (v≤b.v):=fun i b ae=>by rw[bF];simp[ae]
 have hm:∀k bH,k≤bH→bH<l.length→p k=true→p bH=true:=by
  intro k bH ab nf h;have aj:l[k]? =some l[k]:=ca (by omega);have aC:l[bH]? =some l[bH]:=ca nf;rw[Ea k _ aj]at h;rw[Ea bH _ aC];simp only[fx]at h⊢;rcases Nat.lt_or_eq_of_le ab with uT|rfl
  ·have:=bu k bH _ _ uT aj aC;omega
  ·exact h
 obtain⟨⟨_,hle⟩,hbef,haft⟩:=K1 p l.length hm l.length 0 l.length (by omega) (by omega) (eQ _) (fun k ab=>by omega) (fun k J U=>by omega);have Ie:mq l v=(match l[lH p 0 l.length]? with|some b=>if b.v=v then((lH p 0 l.length:Nat):Int)else-1|none=> -1):=by rw[bF];rfl
 generalize lH p 0 l.length=r at hle hbef haft Ie;by_cases hex:∃(k:Nat) (b:aq),l[k]? =some b∧b.v=v
 ·obtain⟨k,b,ae,Qa⟩:=hex;have h6:k<l.length:=(fH.1 ae).1;have gg:r≤k:=by
   rcases Nat.lt_or_ge k r with h|h
   ·have:=hbef k h;rw[Ea k b ae]at this;simp at this;omega
   ·exact h
  have aJ:l[r]? =some l[r]:=ca (by omega);have yP:=haft r (eQ _) (by omega);rw[Ea r _ aJ]at yP;simp only[fx]at yP;have acU:r=k:=by
   rcases Nat.lt_or_eq_of_le gg with h|h
   ·have:=bu r k _ _ h aJ ae;omega
   ·exact h
  subst acU;have Ih:mq l v=r:=by rw[Ie,ae];simp[Qa]
  have J:re l v=some b.t:=by unfold re;rw[Ih,if_neg (by omega)];simp[ae]
  have U:l.find? (fun b=>b.v==v)=some b:=by
   rw[List.find?_eq_some_iff_getElem];refine⟨by simp[Qa],r,h6,?_,fun j af=>?_⟩
   ·rw[ca h6]at ae;simpa using ae
   ·have:=bu j r l[j] b af (ca (by omega)) ae;simp;omega
  rw[J];simp[dd,U]
 ·have U:l.find? (fun b=>b.v==v)=none:=by rw[List.find?_eq_none];intro b ae;obtain⟨k,ab,rfl⟩:=List.mem_iff_getElem.1 ae;simp;intro e;exact hex ⟨k,l[k],ca ab,e⟩
  have Ih:mq l v= -1:=by
   rw[Ie];split
   ·rename_i b ae;rw[if_neg (fun e=>hex ⟨r,b,ae,e⟩)]
   ·rfl
  unfold re;rw[Ih];simp[dd,U]
theorem Pw{l:List aq}(ag:h9 l)(v:Int):mq l v<0↔dd l v=none:=by
 rw[←J8 ag v];unfold re;have J:=Pu l v;by_cases h:mq l v<0
 ·simp[h]
 ·simp only[h,if_false,false_iff];intro e;rw[Option.map_eq_none_iff,List.getElem?_eq_none_iff]at e;omega
def ym(s:List aq):Prop:= ∀b∈s,b.t.fit=true
theorem aaH{l:List aq}(ag:h9 l)(h:ym l)(v:Int):s9 l v=(cx l v).size:=by
 unfold s9 cx;rw[J8 ag];cases ae:dd l v with
 |none=>simp[T.size]
 |some x=>have:=h _ (jH ae);simp only[T.fit,cA,fx]at this;simp only[kR];rw[EZ,if_pos ⟨this.1,by omega⟩]
theorem aiD{l:List aq}(ag:h9 l)(h:ym l)(t:T):kL (s9 l) t=cut (t.ap (cx l)).size:=by
 induction t with
 |var n=>simp only[kL,aaH ag h,T.ap];rfl
 |pair a b dO dP=>have ae:=T.size_pos (b.ap (cx l));simp only[kL,dO,dP,T.ap,T.size];unfold cut;(repeat' split)<;>omega
 |_=>simp[kL,T.ap,T.size,cut]
theorem ag7{l:List aq}(ag:h9 l)(h:ym l)(t:T):sn l t=decide ((t.ap (cx l)).size≤5000):=by unfold sn;rw[aiD ag h];unfold cut;split<;>simp<;>omega
theorem ag8{l:List aq}(ag:h9 l)(t:T):Cd l t=t.ap (cx l):=by unfold Cd;rw[UI];exact sS fun v _=>by rw[J8 ag];rfl
theorem Ga(l:List aq)(t:T)(au:l.length≤1000000)(ag:h9 l)(h:ym l):bI ao 69 [.slice 5 .no (l.map aq.e),t.e] (.tuple [(if(t.ap (cx l)).size≤5000 then t.ap (cx l)else .nil).e,.bool (decide ((t.ap (cx l)).size≤5000))]):=by have:=aj9 l t au;rw[ag7 ag h,ag8 ag]at this;simpa using this
def BM(l:List (Int×T)):List ah:=jn (l.map fun x=>(x.1,x.2.e))
@[simp] theorem anC:BM []=jn []:=rfl
@[simp] theorem aoq(m:aD)(l:List (Int×T)):vw m (BM l)=some (cf l.length [] m):=by simp[BM]
@[simp] theorem an6(l:List (Int×T)):hF (BM l)=false:=rfl
@[simp] theorem anS(f:aD→aW (List ah))(m:aD)(l:List (Int×T))(hm:f m=some (BM l)):tJ f (.gmap m)=some (True,.int .i64 l.length):=by have:=aeQ f m _ hm;simpa using this
end Go.Proofs.YtahlgcidhnjlbaaGreat
namespace Go.Proofs
open Go.Shelf
def Tryz.lays191_ren:Go.Shelf.Ren:=⟨fun|191=>191|189=>220|125=>213|257=>250|128=>236|129=>237|294=>261|295=>262|296=>263|297=>264|298=>265|299=>266|216=>267|300=>268|301=>269|328=>272|329=>273|330=>274|331=>275|332=>276|215=>277|343=>278|n=>n,fun|28=>76|0=>0|3=>3|46=>192|51=>206|53=>208|4=>4|183=>230|182=>229|131=>214|5=>5|9=>9|218=>238|222=>226|228=>241|229=>236|n=>n,fun|n=>n⟩
theorem Tryz.lays191:Go.Proofs.Lays.n191 ao Tryz.lays191_ren:={
 mixed:=by kernel_rfl
 f125:=Tryz.func213.trans (e1 some (by kernel_rfl))
 f128:=Tryz.func236.trans (e1 some (by kernel_rfl))
 f129:=Tryz.func237.trans (e1 some (by kernel_rfl))
 f189:=Tryz.func220.trans (e1 some (by kernel_rfl))
 f191:=Tryz.func191.trans (e1 some (by kernel_rfl))
 f215:=Tryz.func277.trans (e1 some (by kernel_rfl))
 f216:=Tryz.func267.trans (e1 some (by kernel_rfl))
 f257:=Tryz.func250.trans (e1 some (by kernel_rfl))
 f294:=Tryz.func261.trans (e1 some (by kernel_rfl))
 f295:=Tryz.func262.trans (e1 some (by kernel_rfl))
 f296:=Tryz.func263.trans (e1 some (by kernel_rfl))
 f297:=Tryz.func264.trans (e1 some (by kernel_rfl))
 f298:=Tryz.func265.trans (e1 some (by kernel_rfl))
 f299:=Tryz.func266.trans (e1 some (by kernel_rfl))
 f300:=Tryz.func268.trans (e1 some (by kernel_rfl))
 f301:=Tryz.func269.trans (e1 some (by kernel_rfl))
 f328:=Tryz.func272.trans (e1 some (by kernel_rfl))
 f329:=Tryz.func273.trans (e1 some (by kernel_rfl))
 f330:=Tryz.func274.trans (e1 some (by kernel_rfl))
 f331:=Tryz.func275.trans (e1 some (by kernel_rfl))
 f332:=Tryz.func276.trans (e1 some (by kernel_rfl))
 f343:=Tryz.func278.trans (e1 some (by kernel_rfl))
 t0:=Tryz.underlying0
 a0:=Tryz.isAgg0
 z0:=Tryz.sizeOf0
 v0:=Tryz.zeroValue0
 t3:=Tryz.underlying3
 a3:=Tryz.isAgg3
 z3:=Tryz.sizeOf3
 v3:=Tryz.zeroValue3
 t4:=Tryz.underlying4
 a4:=Tryz.isAgg4
 z4:=Tryz.sizeOf4
 v4:=Tryz.zeroValue4
 t5:=Tryz.underlying5
 a5:=Tryz.isAgg5
 z5:=Tryz.sizeOf5
 v5:=Tryz.zeroValue5
 t9:=Tryz.underlying9
 a9:=Tryz.isAgg9
 z9:=Tryz.sizeOf9
 v9:=Tryz.zeroValue9
 t28:=Tryz.underlying76
 a28:=Tryz.isAgg76
 z28:=Tryz.sizeOf76
 v28:=Tryz.zeroValue76
 t46:=Tryz.underlying192
 a46:=Tryz.isAgg192
 z46:=Tryz.sizeOf192
 v46:=Tryz.zeroValue192
 t51:=Tryz.underlying206
 a51:=Tryz.isAgg206
 z51:=Tryz.sizeOf206
 v51:=Tryz.zeroValue206
 t53:=Tryz.underlying208
 a53:=Tryz.isAgg208
 z53:=Tryz.sizeOf208
 v53:=Tryz.zeroValue208
 t131:=Tryz.underlying214
 a131:=Tryz.isAgg214
 z131:=Tryz.sizeOf214
 v131:=Tryz.zeroValue214
 t182:=Tryz.underlying229
 a182:=Tryz.isAgg229
 z182:=Tryz.sizeOf229
 v182:=Tryz.zeroValue229
 t183:=Tryz.underlying230
 a183:=Tryz.isAgg230
 z183:=Tryz.sizeOf230
 v183:=Tryz.zeroValue230
 t218:=Tryz.underlying238
 a218:=Tryz.isAgg238
 z218:=Tryz.sizeOf238
 v218:=Tryz.zeroValue238
 t222:=Tryz.underlying226
 a222:=Tryz.isAgg226
 z222:=Tryz.sizeOf226
 v222:=Tryz.zeroValue226
 t228:=Tryz.underlying241
 a228:=Tryz.isAgg241
 z228:=Tryz.sizeOf241
 v228:=Tryz.zeroValue241
 t229:=Tryz.underlying236
 a229:=Tryz.isAgg236
 z229:=Tryz.sizeOf236
 v229:=Tryz.zeroValue236}
end Go.Proofs

namespace Go.Proofs.YtahlgcidhnjlbaaGreat
open Go Go.Pv
def ef(xs:List Int):List ah:=xs.map (ah.int .i64)
theorem Uc{w:World}{ν:bc}:∀{xs:List Int} {us:List Value},dt w ν 1 (ef xs) us→us=xs.map (Value.int .i64)
 |[],us,h=>by simpa[ef,dt]using h
 |x::xs,us,h=>by simp only[ef,gX,dt]at h;obtain⟨u,cb,rfl,⟨J,_,_⟩,U⟩:=h;simp only[a7]at J;subst J;rw[Uc U];rfl
theorem Rl(w:World)(ν:bc):∀xs:List Int,dt w ν 1 (ef xs) (xs.map (Value.int .i64))
 |[]=>by simp[ef,dt]
 |x::xs=>by simp only[ef,gX,dt];exact⟨.int .i64 x,_,rfl,⟨by simp[a7],rfl,by intro c aw;simp[oU]at aw;subst aw;rfl⟩,Rl w ν xs⟩
def mj(K:Nat)(xs:List Int):cF:=⟨[],[(.obj K,⟨xs.length,3,1,some (ef xs)⟩)]⟩
theorem sc(S:aD→Prop)(xs:List Int):aH S (ef xs):=by
 induction xs with
 |nil=>simp[ef,aH]
 |cons x r bM=>simp only[ef,gX,aH,aB];exact⟨trivial,bM⟩
theorem Gm(K:Nat)(xs:List Int):ee (mj K xs):=by unfold mj;refine ee.of ⟨by intro m;simp[Pv.look],by intro m;simp[Pv.look]⟩ (by simp) ?_;intro x ad ys aL;simp at ad;subst ad;simp at aL;subst aL;exact sc _ xs
def qh(xs:List Int):List Int:=xs.mergeSort fun x y=>decide (x≤y)
theorem Uy(xs:List Int):(qh xs).length=xs.length:=List.length_mergeSort xs
theorem abh(K:Nat)(xs:List Int)(au:xs.length≤1000000):bJ ao 191 [.row 1 (.obj K) xs.length] (mj K xs) fun r ai=>r= .tuple []∧ai=mj K (qh xs):=by
 refine bJ.sem (Gm K xs).obj fun w ν ba kp aJ=>?_;refine .inl ⟨⟨Tryz.f191,Tryz.func191,by kernel_rfl,by kernel_rfl⟩,?_⟩;have qU:=aJ.slot 0;simp only[jR,Pv.get,if_true]at qU;have kn:Pv.look (.obj K) (mj K xs).e=some ⟨xs.length,3,1,some (ef xs)⟩:=by simp[mj,Pv.look]
 obtain⟨v,us,aZ,bB,bQ,cS⟩:=aJ.good.own (.obj K) _ kn;obtain⟨c6,nl,tP⟩:=cS _ rfl;have p8:=Uc nl;subst p8;simp only[a7]at qU;obtain⟨⟨ak1,WQ,uK⟩,_,n',u,aj,aC,bg⟩:=qU;rw[aZ]at aj;simp only[dz,jb]at aj;obtain⟨rfl,rfl⟩:=aj;have aK:=bg rfl;have ac9:ba= #[v]:=by
  have J:ba.size=1:=by simpa using kp
  apply Array.ext (by simpa using J);intro i U al;simp at al;subst al;rw[←aK];simp[Array.getD,J]
 have cC:v≠ .slice none 0 0:=by rw[←aK,uK];simp
 obtain⟨g,cap,rfl,_,p4,qN,ab5,A5,AT⟩:=Lib.holds_of_ownsRow bB cC;have aw:=Any.sort_Ints Tryz.lays191 g 0 cap xs w AT p4 (by omega);subst ac9;refine aw.mono ?_;rintro e w' ⟨rfl,n,os,rfl⟩;have pb:=Uy xs;have k3:=Lib.ownsRow_putRow (q:=n) (k:=xs.length) (ys:=qh xs) bB pb (eQ _);rw[hq (by omega)]at k3;obtain⟨cL,dm,_⟩:=aJ.setRowM (w':=Sort.putRow (Value.int .i64) (Sort.ahead w n) g 0 (qh xs).toArray) kn rfl aZ (bl:=g) rfl (v':= .slice (some ⟨g,0,none⟩) xs.length cap) rfl (xs':=ef (qh xs)) (us:=(qh xs).map (Value.int .i64)) (.inl ⟨by simp[ef,pb],rfl⟩) rfl rfl rfl
  (fun j af=>by simp[Sort.putRow,Sort.mapBlock,Sort.ahead,Array.getElem?_modify,ky af]) (by simp[Sort.putRow,Sort.mapBlock,Sort.ahead]) (by simpa[ef,pb]using k3) (Rl _ _ _)
 have iy:=cL.grown (w':=Sort.grow (Sort.putRow (Value.int .i64) (Sort.ahead w n) g 0 (qh xs).toArray) os) ⟨rfl,rfl,rfl,by simp,fun k ab _=>Sort.heap_grow_old _ _ ab⟩;refine⟨_,_,_,_,.tuple [],mj K (qh xs),rfl,iy,by simp[a7,cH],by simp[mj,lE],?_,?_,?_,(Gm K _).obj,by simp[aB,aH],rfl,rfl⟩
 ·simp[mj,lE,inObs,Pv.look]
 ·intro k cs ab;simp[mj,Pv.look]at ab
 ·intro k o ab;have hm:=se ab;simp[mj]at hm;obtain⟨rfl,rfl⟩:=hm;refine⟨by simp[mj,Pv.look,cw,ef,pb],.inr (by simp[ab]),fun ys aL=>?_⟩;simp at aL;subst aL;exact sc _ _
def nE(l:List Int):List ah:=jn (l.map fun x=>(x,.bool true))
theorem l4(S:aD→Prop)(l:List Int):aH S (nE l):=by
 have:∀l:List Int,aH S (jY (l.map fun x=>(x,.bool true))):=by
  intro l;induction l with
  |nil=>simp[jY,aH]
  |cons x r bM=>simp[jY,aH,bM,aB]
 simp[nE,jn,aH,this,aB]
def Gz(v:Int)(l:List Int):List Int:=if v∈l then l else l++[v]
theorem Md(k:Int):∀l:List Int,ot k (.bool true) (l.map fun x=>(x,ah.bool true))=if k∈l then some (l.map fun x=>(x,ah.bool true))else none
 |[]=>rfl
 |i::r=>by
  by_cases h:k=i
  ·simp[ot,h]
  ·by_cases U:k∈r<;>simp[ot,h,U,Md k r]
@[simp] theorem anT(k:Int)(l:List Int):nX .i (.int .i64 k) (.bool true) (nE l)=some (nE (Gz k l)):=by
 simp only[nE,SF,C4,Md,Gz];split<;>rename_i h
 ·split at h
  ·simp at h;subst h;simp[*]
  ·cases h
 ·split at h
  ·cases h
  ·simp[*]
@[simp] theorem ak2:nE []=jn []:=rfl
@[simp] theorem an4(l:List Int):hF (nE l)=false:=rfl
@[simp] theorem aop(m:aD)(l:List Int):vw m (nE l)=some (cf l.length [] m):=by simp[nE]
theorem aes(f:aD→aW (List ah))(fb mk:aD)(n:Nat)(seen:List Nat)(b:Nat)(l:List Int)(x:Int)(hi:f fb=some (cf n (seen++[b]) mk))(hm:f mk=some (nE l))(aA:n=l.length)(ad:l[b]? =some x):oN f (.ptr fb 0)=some (True,.tuple [.int .i64 x,.bool true]):=by rw[Ss f fb mk n seen b _ hi hm (by simpa using aA)];simp[ad]
theorem XP{st:bo}{d:Nat}{K:bo→Prop}{fb mk:aD}{n:Nat}{seen:List Nat}{l:List Int}(hi:Pv.look fb st.b=some (cf n seen mk))(hm:Pv.look mk st.b=some (nE l))(aA:n=l.length)
  (J:(∀b,b<l.length→b∈seen)→K {st with t:=Pv.put d (.tuple [.bool false]) st.t}) (U:∀b x,l[b]? =some x→b∉seen→K {st with t:=Pv.put d (.tuple [.bool true,.int .i64 x,.bool true]) st.t,b:=cw fb (cf n (seen++[b]) mk) st.b}):
  rP st d (.ptr fb 0) K:=by
 refine O3 hi hm (by simpa using aA) (fun h=>J fun b ae=>h b (by omega)) (fun b k v ae ag=>?_);simp only[List.getElem?_map,gA]at ae;obtain⟨x,aj,aC⟩:=ae;simp only[jb]at aC;obtain⟨rfl,rfl⟩:=aC;exact U b x aj ag
def _root_.Go.Pv.T.fold{α:Type}(f:Int→α→α):T→α→α
 | .var n,a=>f n a
 | .pair x y,a=>y.fold f (x.fold f a)
 |_,a=>a
theorem PG{α:Type}(S:α→cF)(dv:∀a,ee (S a))(eY:∀a b,Same (S a) (S b))(g:Nat)(dh:List ah)(aw:∀a,aH (inObs (S a)) dh)(c9:cU dh=dh)(f:Int→α→α)(aI:∀v a,bJ ao g (.int .i64 v::dh) (S a) fun r ai=>r= .tuple []∧ai=S (f v a))(t:T):
  ∀a,bJ ao 134 [t.e,.func g dh] (S a) fun r ai=>r= .tuple []∧ai=S (t.fold f a):=by
 have aA:∀a m,Pv.look (.loc m) (S a).b=none:=fun a=>(dv a).obj.1;have hu:∀a m cs,cw (.loc m) cs (S a).b=(S a).b++[(.loc m,cs)]:=fun a m cs=>jE (aA a m);have av:∀a m,aD.loc m∉cO (S a):=fun a=>jz (dv a).obj;induction t with
 |pair x y oL q0=>intro a;have ag:=dv a;refine bJ.mk mixed gh yh zm (by simp) ag.obj fun aR c1=>?_;unfold wb;simp[hu,av,cE,aA,c9];(with_reducible repeat' first|refine ak ?_|simp[hu,av,cE,aA]);refine c2.ob (oL a) ag aQ aQ (by simp[aw]) ?_;rintro r ai ⟨rfl,rfl⟩;refine⟨eY _ _,?_⟩;simp[gH,h8,cu,aA];(with_reducible repeat' first|refine ak ?_|simp[hu,av,cE,aA]);rw[c9];refine c2.ob (q0 (x.fold f a)) (dv (x.fold f a)) aQ aQ (by simp[aw]) ?_;rintro r ai ⟨rfl,rfl⟩;refine⟨eY _ _,?_⟩;simp[gH,h8,cu,aA];refine cN.at (S (y.fold f (x.fold f a))) (.inr rfl) (dv _) (eY _ _) aQ aQ ?_;simp[cT,xt,aV,aY,aU];simp[T.fold]
 |var n=>intro a;have ag:=dv a;refine bJ.mk mixed gh yh zm (by simp) ag.obj fun aR c1=>?_;unfold wb;simp[hu,av,cE,aA,c9];(with_reducible repeat' first|refine ak ?_|simp[hu,av,cE,aA]);refine c2.ob (aI n a) ag aQ aQ (by simp[aw]) ?_;rintro r ai ⟨rfl,rfl⟩;refine⟨eY _ _,?_⟩;simp[gH,h8,cu,aA,cE];refine cN.at (S (f n a)) (.inr rfl) (dv _) (eY _ _) aQ aQ ?_;simp[cT,xt,aV,aY,aU];simp[T.fold]
 |_=>intro a;have ag:=dv a;refine bJ.mk mixed gh yh zm (by simp) ag.obj fun aR c1=>?_;unfold wb;simp[hu,av,cE,aA,c9];(with_reducible repeat' first|refine ak ?_|simp[hu,av,cE,aA]);refine cN.at (S a) (.inr rfl) ag (Same.refl _) aQ aQ ?_;simp[cT,xt,aV,aY,aU];simp[T.fold]
def sN(l:List Int):cF:=⟨[(.obj 304,nE l)],[]⟩
theorem LW(l:List Int):ee (sN l):=by unfold sN;exact ee.of ⟨by intro m;simp[Pv.look],by intro m;simp[Pv.look]⟩ (by simp[l4,aH,aB,inObs,Pv.look]) (by simp)
def GM:C:=(aa [cP 1 0,bm 2 false] (.seq (.seq (.fz false 1 (.region [ax 6 1 1,c7 7 158 6,cB 8 7])) (aT 8 (aa [bm 2 false] .ret) .skip)) (.seq (aa [ax 9 1 1,cn 10 9,bV 11 0] (fG 12 11 10 (.seq (.block 1 (aa [cv 13 5 9 11,be 14 5 13,dL 4 jO,b1 5 4 14] (aa [cX (.alloc 5 (some 731) (.bool false)),cX (.store 1 (.t 5) (.c (.bool true)))] (aa [hG 15 1 4 4,be 16 4 15,b0 17 (.mkf 159 [.t 1,.t 5]),cl 18 134 16 17] (aa [ax 19 1 5,cB 20 19,I 21 20,ar 21 false (hG 22 1 4 4),ar 21 false (aG 23 0 1 22),ar 21 false (ax 24 1 23),ar 21 false (aS 25 .eql 24 1),b3 21 false 26 25,ar 26 true (hG 27 1 4 4),ar 26 true (aG 28 1 1 27),ar 26 true (ax 29 1 28),ar 26 true (aG 30 0 1 4),ar 26 true (ax 31 1 30),ar 26 true (bk 32 .geq 29 31),ar 21 false (dH 33 26 32),df 34 21 33] (aT 34 (aa [bm 2 false] .ret) .skip)))))) (.region [aS 35 .add 11 1,I 11 35])))) (aa [bm 2 true] .ret))))
@[simp] def ahh:List bK:=[.tmp 2]
def GN:C:=(aa [ax 4 1 1,I 5 0,cl 6 139 4 5,aS 7 .geq 6 0] (aT 7 (.region [cX (.store 1 (.t 2) (.c (.bool false)))]) .skip))
@[simp] def Kf:List bK:=[]
def MA:C:=(aa [eO 4 5,bm 5 false] (.seq (aa [I 8 0,c7 9 86 8,cB 10 9,I 11 10,b3 11 false 12 1,ar 11 false (c7 13 86 12),ar 11 false (cB 14 13),df 15 11 14] (aT 15 (aa [eO 4 5,bm 5 false] .ret) .skip)) (aa [I 17 1,c7 18 205 17,I 16 18,cV 19 0 16,cV 20 1 16,I 6 19,I 7 20] (aa [I 21 0,I 22 6,I 23 7,dE 24 186 [.t 21,.t 22,.t 23],cV 25 0 24,cV 26 1 24,I 4 25,I 5 26] .ret))))
@[simp] def Tp:List bK:=[.tmp 4,.tmp 5]
def MF:C:=(aa [eO 4 5] (.seq (aa [I 8 0,c7 9 86 8,cB 10 9,I 11 10,b3 11 false 12 1,ar 11 false (c7 13 86 12),ar 11 false (cB 14 13),df 15 11 14] (aT 15 (aa [eO 4 5] .ret) .skip)) (aa [fC 16 5 113 [],I 5 16] (.seq (aa [I 17 1,cn 18 17,bV 19 0] (fG 20 19 18 (.seq (.block 1 (aa [cv 21 5 17 19,be 22 5 21,dL 7 jO,b1 5 7 22] (aa [I 23 0,aG 24 0 1 7,ax 25 1 24,cl 26 139 23 25,aS 27 .lss 26 0] (aT 27 (.drawn true 39 [I 28 5,aG 29 0 1 7,ax 30 1 29,hG 31 1 4 7,be 32 4 31,c7 33 143 32,kO 34 jO [(0,1,(.t 30)),(1,4,(.t 33))],fC 35 5 113 [.t 34],iP 36 5 113 28 35,I 5 36]) .skip)))) (.region [aS 37 .add 19 1,I 19 37])))) (aa [I 38 5,I 4 38] .ret)))))
@[simp] def ahf:List bK:=[.tmp 4]
def MV:C:=(aa [eO 2 5] (aa [fC 6 5 113 [],I 3 6] (.seq (aa [I 7 0,cn 8 7,bV 9 0] (fG 10 9 8 (.seq (.block 1 (aa [cv 11 5 7 9,be 12 5 11,dL 5 jO,b1 5 5 12] (.drawn true 24 [I 13 3,aG 14 0 1 5,ax 15 1 14,hG 16 1 4 5,be 17 4 16,c7 18 143 17,kO 19 jO [(0,1,(.t 15)),(1,4,(.t 18))],fC 20 5 113 [.t 19],iP 21 5 113 13 20,I 3 21]))) (.region [aS 22 .add 9 1,I 9 22])))) (aa [I 23 3,I 2 23] .ret))))
@[simp] def ahl:List bK:=[.tmp 2]
def GR:C:=(aa [bm 4 false] (.seq (aa [I 6 0,cn 7 6,I 8 1,cn 9 8,bk 10 .neq 7 9] (aT 10 (aa [bm 4 false] .ret) .skip)) (.seq (aa [I 11 0,cn 12 11,bV 13 0] (fG 14 13 12 (.seq (.block 1 (aa [I 15 13,I 5 15] (.seq (.drawn true 42 [I 16 0,I 17 5,cv 18 5 16 17,aG 19 0 1 18,ax 20 1 19,I 21 1,I 22 5,cv 23 5 21 22,aG 24 0 1 23,ax 25 1 24,bk 26 .neq 20 25,I 27 26,b3 27 false 28 0,b3 27 false 29 5,ar 27 false (cv 30 5 28 29),ar 27 false (hG 31 1 4 30),ar 27 false (be 32 4 31),b3 27 false 33 1,b3 27 false 34 5,ar 27 false (cv 35 5 33 34),ar 27 false (hG 36 1 4 35),ar 27 false (be 37 4 36),ar 27 false (cl 38 142 32 37),ar 27 false (cB 39 38),df 40 27 39]) (aT 40 (aa [bm 4 false] .ret) .skip)))) (.region [aS 41 .add 13 1,I 13 41])))) (aa [bm 4 true] .ret))))
@[simp] def TA:List bK:=[.tmp 4]
def MX:C:=(aa [eO 2 4,eO 3 4] (aa [fC 8 4 30 [],I 4 8] (aa [fC 9 4 30 [],I 5 9] (.seq (aa [I 10 0,cn 11 10,bV 12 0] (fG 13 12 11 (.seq (.block 1 (aa [cv 14 5 10 12,be 15 5 14,dL 7 jO,b1 5 7 15] (aa [I 16 4,aG 17 0 1 7,ax 18 1 17,c7 19 116 18,fC 20 4 30 [.t 19],iP 21 4 30 16 20,I 4 21] (.region [I 22 5,hG 23 1 4 7,be 24 4 23,fC 25 4 30 [.t 24],iP 26 4 30 22 25,I 5 26])))) (.region [aS 27 .add 12 1,I 12 27])))) (aa [I 28 4,I 29 5,I 2 28,I 3 29] .ret)))))
@[simp] def TC:List bK:=[.tmp 2,.tmp 3]
def M3:C:=(aa [bV 4 0] (.seq (aa [bV 5 0] (.block 0 (.loop (.seq (aa [I 8 5,I 9 0,cn 10 9,bk 11 .lss 8 10,I 12 11,b3 12 true 13 5,b3 12 true 14 1,ar 12 true (cn 15 14),ar 12 true (bk 16 .lss 13 15),dH 17 12 16] (aT 17 .skip (.exit 0))) (.seq (.block 1 (.seq (.seq (.drawn true 53 [I 20 0,I 21 5,cv 22 5 20 21,aG 23 0 1 22,ax 24 1 23,I 25 1,I 26 5,cv 27 5 25 26,aG 28 0 1 27,ax 29 1 28,cl 30 190 24 29,I 6 30]) (aa [I 31 6,aS 32 .neq 31 0] (aT 32 (aa [I 33 6,I 4 33] .ret) .skip))) (.seq (.drawn true 53 [I 34 0,I 35 5,cv 36 5 34 35,hG 37 1 4 36,be 38 4 37,I 39 1,I 40 5,cv 41 5 39 40,hG 42 1 4 41,be 43 4 42,cl 44 133 38 43,I 7 44]) (aa [I 45 7,aS 46 .neq 45 0] (aT 46 (aa [I 47 7,I 4 47] .ret) .skip))))) (.region [I 18 5,aS 19 .add 18 1,I 5 19])))))) (aa [I 48 0,cn 49 48,I 50 1,cn 51 50,cl 52 190 49 51,I 4 52] .ret)))
@[simp] def Ce:List bK:=[.tmp 4]
def M0:C:=(aa [bm 4 false] (.seq (aa [I 11 0,cn 12 11,bV 13 0] (fG 14 13 12 (.seq (.block 1 (aa [cv 15 5 11 13,be 16 5 15,dL 6 jO,b1 5 6 16] (aa [I 18 1,aG 19 0 1 6,ax 20 1 19,c7 21 116 20,cl 22 69 18 21,I 17 22,cV 23 0 17,cV 24 1 17,dL 7 dX,b1 4 7 23,I 8 24] (aa [I 26 1,hG 27 1 4 6,be 28 4 27,cl 29 69 26 28,I 25 29,cV 30 0 25,cV 31 1 25,dL 9 dX,b1 4 9 30,I 10 31] (aa [I 32 8,cB 33 32,I 34 33,b3 34 false 35 10,ar 34 false (cB 36 35),df 37 34 36,I 38 37,ar 38 false (be 39 4 7),ar 38 false (be 40 4 9),ar 38 false (cl 41 142 39 40),ar 38 false (cB 42 41),df 43 38 42] (aT 43 (aa [bm 4 false] .ret) .skip)))))) (.region [aS 44 .add 13 1,I 13 44])))) (aa [bm 4 true] .ret)))
@[simp] def Kh:List bK:=[.tmp 4]
def sA:List (Nat×dB):=[
 (3,⟨1,8,.int .i64,.int .i64 0⟩),
 (4,⟨1,1,.bool,.bool false⟩),
 (27,⟨1,24,.slice 30,.slice 4 .nil []⟩),
 (30,⟨4,56,.struct [(0,3),(1,3),(2,9),(3,27)],.agg [.int .i64 0,.int .i64 0,.str [],.slice 4 .nil []]⟩),
 (46,⟨1,24,.slice 113,.slice 5 .nil []⟩),
 (113,⟨5,64,.struct [(0,3),(1,30)],.agg [.int .i64 0,.int .i64 0,.int .i64 0,.str [],.slice 4 .nil []]⟩)]
theorem qm:fN ao sA=true:=by kernel_rfl
theorem SN:b5 sA GM ahh 1 Tryz.f86=true:=by kernel_rfl
theorem O8:ao.funcs[(86:Nat)]? =some Tryz.f86:=Tryz.func86
theorem SO:b5 sA GN Kf 3 Tryz.f159=true:=by kernel_rfl
theorem O9:ao.funcs[(159:Nat)]? =some Tryz.f159:=Tryz.func159
theorem ae8:b5 sA MA Tp 2 Tryz.f165=true:=by kernel_rfl
theorem YL:ao.funcs[(165:Nat)]? =some Tryz.f165:=Tryz.func165
theorem afd:b5 sA MF ahf 2 Tryz.f166=true:=by kernel_rfl
theorem YQ:ao.funcs[(166:Nat)]? =some Tryz.f166:=Tryz.func166
theorem aft:b5 sA MV ahl 1 Tryz.f168=true:=by kernel_rfl
theorem Y6:ao.funcs[(168:Nat)]? =some Tryz.f168:=Tryz.func168
theorem SU:b5 sA GR TA 2 Tryz.f169=true:=by kernel_rfl
theorem Pd:ao.funcs[(169:Nat)]? =some Tryz.f169:=Tryz.func169
theorem afv:b5 sA MX TC 1 Tryz.f205=true:=by kernel_rfl
theorem Y8:ao.funcs[(205:Nat)]? =some Tryz.f205:=Tryz.func205
theorem afB:b5 sA M3 Ce 2 Tryz.f207=true:=by kernel_rfl
theorem Ze:ao.funcs[(207:Nat)]? =some Tryz.f207:=Tryz.func207
theorem afy:b5 sA M0 Kh 2 Tryz.f208=true:=by kernel_rfl
theorem Zb:ao.funcs[(208:Nat)]? =some Tryz.f208:=Tryz.func208
def Nd:C:=(aa [dL 2 dX] (aa [I 3 0,kO 4 dX [(0,1,(gi 1)),(1,1,(.t 3))],b1 4 2 4] .ret))
@[simp] def aho:List bK:=[.cell 2 true 4]
def M1:C:=(aa [b0 0 (.mov (.c (.nilp)))] (aa [cX (.mkmap 1 (some 702)),cX (.mkmap 2 (some 703)),cX (.mkmap 3 (some 704)),cX (.mkmap 4 (some 705)),cX (.mkmap 5 (some 706)),cX (.mkmap 6 (some 707)),b0 7 (.build [.junk,.junk,.junk,.junk,.junk,.junk] [(0,1,(.t 1)),(1,1,(.t 2)),(2,1,(.t 3)),(3,1,(.t 4)),(4,1,(.t 5)),(5,1,(.t 6))]),cP 8 7,I 0 8] (.fz true 0 .ret)))
@[simp] def TF:List bK:=[.tmp 0]
def MR:C:=(aa [bV 4 0] (.seq (aa [I 8 0,fo 9 8,aG 10 0 1 9,ax 11 1 10,I 12 1,b0 13 (.mget .i (.int .i64 0) true (.t 11) (.t 12)),I 7 13,cV 14 0 7,cV 15 1 7,I 5 14,I 6 15] (aa [I 16 6,cB 17 16] (aT 17 (.region [I 18 0,fo 19 18,aG 20 0 1 19,ax 21 1 20,I 22 1,I 23 1,cX (.mput .i (.t 21) (.t 22) (.t 23))]) .skip))) (.seq (.block 0 (.loop (.seq (aa [I 24 0,fo 25 24,aG 26 0 1 25,ax 27 1 26,I 28 1,b0 29 (.mget .i (.int .i64 0) false (.t 27) (.t 28)),I 30 1,bk 31 .neq 29 30] (aT 31 .skip (.exit 0))) (.block 1 (.seq (.drawn true 55 [I 32 0,fo 33 32,aG 34 0 1 33,ax 35 1 34,I 36 1,I 37 0,fo 38 37,aG 39 0 1 38,ax 40 1 39,I 41 0,fo 42 41,aG 43 0 1 42,ax 44 1 43,I 45 1,b0 46 (.mget .i (.int .i64 0) false (.t 44) (.t 45)),b0 47 (.mget .i (.int .i64 0) false (.t 40) (.t 46)),cX (.mput .i (.t 35) (.t 36) (.t 47))]) (.region [I 48 0,fo 49 48,aG 50 0 1 49,ax 51 1 50,I 52 1,b0 53 (.mget .i (.int .i64 0) false (.t 51) (.t 52)),I 1 53])))))) (aa [I 54 1,I 4 54] .ret))))
@[simp] def Tx:List bK:=[.tmp 4]
def MN:C:=(aa [cP 2 0,cP 3 1] (.fz false 2 (.region [be 4 4 3,b0 5 (.mkf 245 [.t 2]),cl 6 134 4 5])))
@[simp] def Tu:List bK:=[]
def uv:C:=(aa [cP 4 1,cP 5 2,bm 6 false] (.seq (.block 0 (aa [aG 12 0 1 4,ax 13 1 12,aS 14 .eql 13 1,I 15 14,ar 15 true (aG 16 0 1 5),ar 15 true (ax 17 1 16),ar 15 true (aS 18 .eql 17 1),dH 19 15 18,I 11 19] (aT 11 (aa [I 20 0,aG 21 1 1 4,ax 22 1 21,cl 23 216 20 22,I 7 23] (aa [I 24 0,aG 25 1 1 5,ax 26 1 25,cl 27 216 24 26,I 8 27] (.seq (aa [I 28 7,I 29 8,bk 30 .eql 28 29] (aT 30 (aa [bm 6 true] .ret) .skip)) (.seq (aa [I 31 8,I 32 7,bk 33 .lss 31 32] (aT 33 (.region [I 34 8,I 35 7,I 7 34,I 8 35]) .skip)) (aa [I 36 0,fo 37 36,aG 38 0 1 37,ax 39 1 38,I 40 8,I 41 7,cX (.mput .i (.t 39) (.t 40) (.t 41))] (.seq (aa [I 42 0,fo 43 42,aG 44 2 1 43,ax 45 1 44,I 46 8,b0 47 (.mget .i (.bool false) false (.t 45) (.t 46)),cB 48 47] (aT 48 (aa [I 49 0,fo 50 49,aG 51 2 1 50,ax 52 1 51,I 53 7,b0 54 (.mget .i (.bool false) false (.t 52) (.t 53)),cB 55 54,I 56 55,b3 56 false 57 0,b3 56 false 58 0,ar 56 false (fo 59 58),ar 56 false (aG 60 1 1 59),ar 56 false (ax 61 1 60),b3 56 false 62 7,vO 56 false 63 (.mget .i (.agg dX) false (.t 61) (.t 62)),b3 56 false 64 7,ys 56 false (.mkmap 65 (some 715)),ar 56 false (dE 66 246 [.t 57,.t 63,.t 64,.t 65]),ar 56 false (cB 67 66),df 68 56 67,I 6 68] .ret) .skip)) (aa [I 69 0,fo 70 69,aG 71 1 1 70,ax 72 1 71,I 73 8,b0 74 (.mget .i (.agg dX) false (.t 72) (.t 73)),dL 9 dX,b1 4 9 74] (.seq (aa [I 75 0,fo 76 75,aG 77 2 1 76,ax 78 1 77,I 79 7,b0 80 (.mget .i (.bool false) false (.t 78) (.t 79)),cB 81 80] (aT 81 (aa [I 82 0,I 83 7,be 84 4 9,dE 85 247 [.t 82,.t 83,.t 84],I 6 85] .ret) .skip)) (.seq (.drawnW [715,716] 198 [I 86 0,be 87 4 9,I 88 7,cX (.mkmap 89 (some 715)),dE 90 246 [.t 86,.t 87,.t 88,.t 89],cB 91 90,I 92 91,b3 92 true 93 0,b3 92 true 94 0,ar 92 true (fo 95 94),ar 92 true (aG 96 1 1 95),ar 92 true (ax 97 1 96),b3 92 true 98 7,vO 92 true 99 (.mgetB .i (.agg dX) false (.t 97) (.t 98)),b3 92 true 100 7,ys 92 true (.mkmap 101 (some 716)),ar 92 true (dE 102 246 [.t 93,.t 99,.t 100,.t 101]),ar 92 true (cB 103 102),dH 104 92 103,I 105 104,b3 105 true 106 0,b3 105 true 107 0,ar 105 true (fo 108 107),ar 105 true (aG 109 1 1 108),ar 105 true (ax 110 1 109),b3 105 true 111 7,vO 105 true 112 (.mgetB .i (.agg dX) false (.t 110) (.t 111)),ar 105 true (be 113 4 9),ar 105 true (dE 114 218 [.t 106,.t 112,.t 113]),dH 115 105 114,I 6 115]) .ret))))))))) (aa [aG 117 0 1 4,ax 118 1 117,aS 119 .eql 118 1,I 116 119] (aT 116 (aa [I 120 0,aG 121 1 1 4,ax 122 1 121,cl 123 216 120 122,I 10 123] (.seq (aa [I 124 0,fo 125 124,aG 126 2 1 125,ax 127 1 126,I 128 10,b0 129 (.mget .i (.bool false) false (.t 127) (.t 128)),cB 130 129] (aT 130 (aa [I 131 0,I 132 10,be 133 4 5,dE 134 247 [.t 131,.t 132,.t 133],I 6 134] .ret) .skip)) (.seq (.drawn false 198 [I 135 0,I 136 0,fo 137 136,aG 138 1 1 137,ax 139 1 138,I 140 10,b0 141 (.mgetB .i (.agg dX) false (.t 139) (.t 140)),be 142 4 5,dE 143 218 [.t 135,.t 141,.t 142],I 6 143]) .ret))) (aa [aG 145 0 1 5,ax 146 1 145,aS 147 .eql 146 1,I 144 147] (aT 144 (aa [I 148 0,be 149 4 5,be 150 4 4,dE 151 218 [.t 148,.t 149,.t 150],I 6 151] .ret) (aa [aG 153 0 1 4,ax 154 1 153,aG 155 0 1 5,ax 156 1 155,bk 157 .neq 154 156,I 158 157,ar 158 false (aG 159 1 1 4),ar 158 false (ax 160 1 159),ar 158 false (aG 161 1 1 5),ar 158 false (ax 162 1 161),ar 158 false (bk 163 .neq 160 162),df 164 158 163,I 165 164,ar 165 false (aG 166 2 1 4),ar 165 false (ax 167 1 166),ar 165 false (aG 168 2 1 5),ar 165 false (ax 169 1 168),ar 165 false (bk 170 .neq 167 169),df 171 165 170,I 152 171] (aT 152 (aa [bm 6 false] .ret) (aa [aG 173 0 1 4,ax 174 1 173,aS 175 .eql 174 4,I 172 175] (aT 172 (.seq (.drawn false 198 [I 176 0,aG 177 3 1 4,ax 178 1 177,js 179 4 178 0,be 180 4 179,aG 181 3 1 5,ax 182 1 181,js 183 4 182 0,be 184 4 183,dE 185 218 [.t 176,.t 180,.t 184],I 186 185,b3 186 true 187 0,ar 186 true (aG 188 3 1 4),ar 186 true (ax 189 1 188),ar 186 true (js 190 4 189 1),ar 186 true (be 191 4 190),ar 186 true (aG 192 3 1 5),ar 186 true (ax 193 1 192),ar 186 true (js 194 4 193 1),ar 186 true (be 195 4 194),ar 186 true (dE 196 218 [.t 187,.t 191,.t 195]),dH 197 186 196,I 6 197]) .ret) .skip))))))))))) (aa [bm 6 true] .ret)))
@[simp] def nm:List bK:=[.tmp 6]
def MO:C:=(.region [ax 3 1 1,I 4 0,cl 5 216 3 4])
@[simp] def Tv:List bK:=[]
def MP:C:=(aa [cP 4 0,cP 5 1,cP 6 2,cP 7 3,bm 8 false] (aa [cX (.alloc 9 (some 712) (.bool false)),cX (.store 1 (.t 9) (.c (.bool false)))] (.seq (.fz false 7 (.fz false 6 (.fz false 4 (.region [be 10 4 5,b0 11 (.mkf 257 [.t 4,.t 9,.t 6,.t 7]),cl 12 134 10 11])))) (aa [ax 13 1 9,I 8 13] .ret))))
@[simp] def Tw:List bK:=[.tmp 8]
def MM:C:=(aa [cP 5 2,bm 6 false] (.seq (.drawn true 24 [I 7 0,fo 8 7,aG 9 1 1 8,ax 10 1 9,I 11 1,be 12 4 5,cX (.mput .i (.t 10) (.t 11) (.t 12))]) (aa [I 13 0,fo 14 13,aG 15 2 1 14,ax 16 1 15,I 17 1,cX (.mput .i (.t 16) (.t 17) (.c (.bool true)))] (aa [I 18 0,be 19 4 5,I 20 1,cX (.mkmap 21 (some 715)),dE 22 246 [.t 18,.t 19,.t 20,.t 21],cB 23 22,I 6 23] .ret))))
@[simp] def Tt:List bK:=[.tmp 6]
def x7:C:=(aa [cP 2 0,bm 4 false] (.seq (.seq (.fz false 2 (.region [ax 6 1 2,fo 7 6,aG 8 3 1 7,ax 9 1 8,I 10 1,b0 11 (.mget .i (.int .i64 0) false (.t 9) (.t 10)),aS 12 .eql 11 2])) (aT 12 (aa [bm 4 true] .ret) .skip)) (.seq (aa [ax 13 1 2,fo 14 13,aG 15 3 1 14,ax 16 1 15,I 17 1,b0 18 (.mget .i (.int .i64 0) false (.t 16) (.t 17)),aS 19 .eql 18 1] (aT 19 (aa [bm 4 false] .ret) .skip)) (aa [ax 20 1 2,fo 21 20,aG 22 3 1 21,ax 23 1 22,I 24 1,cX (.mput .i (.t 23) (.t 24) (gi 1))] (aa [ax 25 1 2,fo 26 25,aG 27 4 1 26,ax 28 1 27,I 29 1,cX (.mput .i (.t 28) (.t 29) (gi 1))] (.seq (aa [ax 30 1 2,fo 31 30,aG 32 2 1 31,ax 33 1 32,I 34 1,b0 35 (.mget .i (.bool false) false (.t 33) (.t 34))] (aT 35 (aa [cX (.alloc 5 (some 712) (.bool false)),cX (.store 1 (.t 5) (.c (.bool true)))] (aa [ax 36 1 2,fo 37 36,aG 38 1 1 37,ax 39 1 38,I 40 1,b0 41 (.mget .i (.agg dX) false (.t 39) (.t 40)),b0 42 (.mkf 258 [.t 5,.t 2]),cl 43 134 41 42] (.seq (aa [ax 44 1 5,cB 45 44] (aT 45 (aa [bm 4 false] .ret) .skip)) (.drawn false 64 [ax 46 1 2,fo 47 46,aG 48 4 1 47,ax 49 1 48,I 50 1,ax 51 1 2,fo 52 51,aG 53 1 1 52,ax 54 1 53,I 55 1,b0 56 (.mgetB .i (.agg dX) false (.t 54) (.t 55)),b0 57 (.mkf 259 [.t 2]),cl 58 192 56 57,cX (.mput .i (.t 49) (.t 50) (.t 58))])))) .skip)) (aa [ax 59 1 2,fo 60 59,aG 61 3 1 60,ax 62 1 61,I 63 1,cX (.mput .i (.t 62) (.t 63) (gi 2))] (aa [bm 4 true] .ret))))))))
@[simp] def zx:List bK:=[.tmp 4]
def Db:C:=(aa [cP 2 0,dL 4 dX] (.seq (.seq (.fz false 2 (.region [ax 9 1 2,fo 10 9,aG 11 5 1 10,ax 12 1 11,I 13 1,b0 14 (.mget .i (.agg dX) true (.t 12) (.t 13)),I 8 14,cV 15 0 8,cV 16 1 8,dL 5 dX,b1 4 5 15,I 6 16])) (aa [I 17 6] (aT 17 (aa [be 18 4 5,b1 4 4 18] .ret) .skip))) (aa [I 19 1,c7 20 116 19,dL 7 dX,b1 4 7 20] (.seq (aa [ax 21 1 2,fo 22 21,aG 23 2 1 22,ax 24 1 23,I 25 1,b0 26 (.mget .i (.bool false) false (.t 24) (.t 25))] (aT 26 (.region [ax 27 1 2,fo 28 27,aG 29 1 1 28,ax 30 1 29,I 31 1,b0 32 (.mget .i (.agg dX) false (.t 30) (.t 31)),b0 33 (.mkf 260 [.t 2]),cl 34 194 32 33,b1 4 7 34]) .skip)) (.seq (.drawn true 42 [ax 35 1 2,fo 36 35,aG 37 5 1 36,ax 38 1 37,I 39 1,be 40 4 7,cX (.mput .i (.t 38) (.t 39) (.t 40))]) (aa [be 41 4 7,b1 4 4 41] .ret))))))
@[simp] def Fh:List bK:=[.cell 4 true 4]
def MQ:C:=(aa [ax 7 1 1,I 8 0,cl 9 216 7 8,I 6 9] (.seq (aa [ax 10 1 2,I 11 10,b3 11 false 12 6,ar 11 false (ax 13 1 3),ar 11 false (bk 14 .eql 12 13),df 15 11 14] (aT 15 (aa [cX (.store 1 (.t 2) (.c (.bool true)))] .ret) .skip)) (aa [ax 16 1 4,I 17 6,b0 18 (.mget .i (.bool false) false (.t 16) (.t 17)),cB 19 18,I 20 19,ar 20 true (ax 21 1 1),ar 20 true (fo 22 21),ar 20 true (aG 23 2 1 22),ar 20 true (ax 24 1 23),b3 20 true 25 6,ar 20 true (b0 26 (.mget .i (.bool false) false (.t 24) (.t 25))),dH 27 20 26] (aT 27 (aa [ax 28 1 4,I 29 6,cX (.mput .i (.t 28) (.t 29) (.c (.bool true)))] (.drawn false 40 [ax 30 1 1,ax 31 1 1,fo 32 31,aG 33 1 1 32,ax 34 1 33,I 35 6,b0 36 (.mgetB .i (.agg dX) false (.t 34) (.t 35)),ax 37 1 3,ax 38 1 4,dE 39 246 [.t 30,.t 36,.t 37,.t 38],b1 1 2 39])) .skip))))
@[simp] def zw:List bK:=[]
def GP:C:=(.seq (.drawn false 13 [b0 4 (.loadB false 1 (.t 1)),I 5 4,ar 5 true (ax 6 1 2),ar 5 true (ax 7 1 2),b3 5 true 8 0,ar 5 true (cl 9 216 7 8),ar 5 true (cl 10 248 6 9),ar 5 true (cB 11 10),dH 12 5 11]) (aT 12 (.region [cX (.store 1 (.t 1) (.c (.bool false)))]) .skip))
@[simp] def Fi:List bK:=[]
def MU:C:=(aa [bV 3 0] (.seq (.drawn false 12 [ax 4 1 1,fo 5 4,aG 6 4 1 5,ax 7 1 6,ax 8 1 1,I 9 0,cl 10 216 8 9,b0 11 (.mgetB .i (.int .i64 0) false (.t 7) (.t 10)),I 3 11]) .ret))
@[simp] def Tz:List bK:=[.tmp 3]
def MT:C:=(aa [dL 3 dX,bm 4 false] (.seq (.drawn false 10 [ax 5 1 1,ax 6 1 1,I 7 0,cl 8 216 6 7,cl 9 249 5 8,b1 4 3 9,bm 4 true]) .ret))
@[simp] def Ty:List bK:=[.cell 3 true 4,.tmp 4]
def n7:List (Nat×dB):=[
 (3,⟨1,8,.int .i64,.int .i64 0⟩),
 (4,⟨1,1,.bool,.bool false⟩),
 (9,⟨1,16,.str,.str []⟩),
 (27,⟨1,24,.slice 30,.slice 4 .nil []⟩),
 (30,⟨4,56,.struct [(0,3),(1,3),(2,9),(3,27)],.agg [.int .i64 0,.int .i64 0,.str [],.slice 4 .nil []]⟩),
 (136,⟨1,8,.map 3 4,.junk⟩),
 (194,⟨1,8,.other,.nilp⟩),
 (216,⟨1,8,.map 3 3,.junk⟩),
 (217,⟨1,8,.map 3 30,.junk⟩),
 (219,⟨6,48,.struct [(0,216),(1,217),(2,136),(3,216),(4,216),(5,217)],.agg [.junk,.junk,.junk,.junk,.junk,.junk]⟩)]
theorem iX:fN ao n7=true:=by kernel_rfl
theorem afL:b5 n7 Nd aho 1 Tryz.f116=true:=by kernel_rfl
theorem Zo:ao.funcs[(116:Nat)]? =some Tryz.f116:=Tryz.func116
theorem afz:b5 n7 M1 TF 0 Tryz.f215=true:=by kernel_rfl
theorem Zc:ao.funcs[(215:Nat)]? =some Tryz.f215:=Tryz.func215
theorem afp:b5 n7 MR Tx 2 Tryz.f216=true:=by kernel_rfl
theorem Y2:ao.funcs[(216:Nat)]? =some Tryz.f216:=Tryz.func216
theorem afl:b5 n7 MN Tu 2 Tryz.f217=true:=by kernel_rfl
theorem YY:ao.funcs[(217:Nat)]? =some Tryz.f217:=Tryz.func217
theorem xk:b5 n7 uv nm 3 Tryz.f218=true:=by kernel_rfl
theorem wi:ao.funcs[(218:Nat)]? =some Tryz.f218:=Tryz.func218
theorem afm:b5 n7 MO Tv 2 Tryz.f245=true:=by kernel_rfl
theorem YZ:ao.funcs[(245:Nat)]? =some Tryz.f245:=Tryz.func245
theorem afn:b5 n7 MP Tw 4 Tryz.f246=true:=by kernel_rfl
theorem Y0:ao.funcs[(246:Nat)]? =some Tryz.f246:=Tryz.func246
theorem afk:b5 n7 MM Tt 3 Tryz.f247=true:=by kernel_rfl
theorem YX:ao.funcs[(247:Nat)]? =some Tryz.f247:=Tryz.func247
theorem B0:b5 n7 x7 zx 2 Tryz.f248=true:=by kernel_rfl
theorem AB:ao.funcs[(248:Nat)]? =some Tryz.f248:=Tryz.func248
theorem JS:b5 n7 Db Fh 2 Tryz.f249=true:=by kernel_rfl
theorem Hu:ao.funcs[(249:Nat)]? =some Tryz.f249:=Tryz.func249
theorem afo:b5 n7 MQ zw 5 Tryz.f257=true:=by kernel_rfl
theorem Y1:ao.funcs[(257:Nat)]? =some Tryz.f257:=Tryz.func257
theorem SQ:b5 n7 GP Fi 3 Tryz.f258=true:=by kernel_rfl
theorem Pb:ao.funcs[(258:Nat)]? =some Tryz.f258:=Tryz.func258
theorem afs:b5 n7 MU Tz 2 Tryz.f259=true:=by kernel_rfl
theorem Y5:ao.funcs[(259:Nat)]? =some Tryz.f259:=Tryz.func259
theorem afr:b5 n7 MT Ty 2 Tryz.f260=true:=by kernel_rfl
theorem Y4:ao.funcs[(260:Nat)]? =some Tryz.f260:=Tryz.func260
end Go.Proofs.YtahlgcidhnjlbaaGreat
namespace Go.Proofs.YtahlgcidhnjlbaaGreat
open Go Go.Pv
section
variable {α:Type} (S:α→cF) (dv:∀a,ee (S a)) (eY:∀a b,Same (S a) (S b)) (g:Nat) (dh:List ah) (aw:∀a,aH (inObs (S a)) dh) (c9:cU dh=dh)
include dv eY aw c9 in
theorem PH(gK:α→Prop)(f:Int→α→aW α)(aI:∀v a bj,gK a→f v a=some bj→gK bj∧bJ ao g (.int .i64 v::dh) (S a) fun r ai=>r= .tuple []∧ai=S bj)(t:T):
  ∀a bj,gK a→t.foldO f a=some bj→gK bj∧bJ ao 134 [t.e,.func g dh] (S a) fun r ai=>r= .tuple []∧ai=S bj:=by
 have aA:∀a m,Pv.look (.loc m) (S a).b=none:=fun a=>(dv a).obj.1;have hu:∀a m cs,cw (.loc m) cs (S a).b=(S a).b++[(.loc m,cs)]:=fun a m cs=>jE (aA a m);have av:∀a m,aD.loc m∉cO (S a):=fun a=>jz (dv a).obj;induction t with
 |pair x y oL q0=>intro a bj hi he;have ag:=dv a;simp only[T.foldO,mh]at he;obtain⟨bz,J,U⟩:=he;obtain⟨i1,g1⟩:=oL a bz hi J;obtain⟨i2,g2⟩:=q0 bz bj i1 U;refine⟨i2,?_⟩;refine bJ.mk mixed gh yh zm (by simp) ag.obj fun aR c1=>?_;unfold wb;simp[hu,av,cE,aA,c9];(with_reducible repeat' first|refine ak ?_|simp[hu,av,cE,aA]);refine c2.ob g1 ag aQ aQ (by simp[aw]) ?_;rintro r ai ⟨rfl,rfl⟩;refine⟨eY _ _,?_⟩;simp[gH,h8,cu,aA];(with_reducible repeat' first|refine ak ?_|simp[hu,av,cE,aA]);rw[c9];refine c2.ob g2 (dv bz) aQ aQ (by simp[aw]) ?_;rintro r ai ⟨rfl,rfl⟩;refine⟨eY _ _,?_⟩;simp[gH,h8,cu,aA];refine cN.at (S bj) (.inr rfl) (dv _) (eY _ _) aQ aQ ?_;simp[cT,xt,aV,aY,aU]
 |var n=>intro a bj hi he;have ag:=dv a;simp only[T.foldO]at he;obtain⟨i1,g1⟩:=aI n a bj hi he;refine⟨i1,?_⟩;refine bJ.mk mixed gh yh zm (by simp) ag.obj fun aR c1=>?_;unfold wb;simp[hu,av,cE,aA,c9];(with_reducible repeat' first|refine ak ?_|simp[hu,av,cE,aA]);refine c2.ob g1 ag aQ aQ (by simp[aw]) ?_;rintro r ai ⟨rfl,rfl⟩;refine⟨eY _ _,?_⟩;simp[gH,h8,cu,aA,cE];refine cN.at (S bj) (.inr rfl) (dv _) (eY _ _) aQ aQ ?_;simp[cT,xt,aV,aY,aU]
 |_=>intro a bj hi he;have ag:=dv a;simp only[T.foldO,dz]at he;subst he;refine⟨hi,?_⟩;refine bJ.mk mixed gh yh zm (by simp) ag.obj fun aR c1=>?_;unfold wb;simp[hu,av,cE,aA,c9];(with_reducible repeat' first|refine ak ?_|simp[hu,av,cE,aA]);refine cN.at (S a) (.inr rfl) ag (Same.refl _) aQ aQ ?_;simp[cT,xt,aV,aY,aU]
include dv eY aw c9 in
theorem HM(f:Int→α→aW α)(aI:∀v a bj,f v a=some bj→bJ ao g (.int .i64 v::dh) (S a) fun r ai=>r= .tuple []∧ai=S bj)(t:T)(a bj:α)(h:t.foldO f a=some bj):bJ ao 134 [t.e,.func g dh] (S a) fun r ai=>r= .tuple []∧ai=S bj:=(PH S dv eY g dh aw c9 (fun _=>True) f (fun v a bj _ h=>⟨trivial,aI v a bj h⟩) t a bj trivial h).2
include dv eY aw c9 in
theorem aa0(f:Int→α→aW (T×α))(aI:∀v a p,f v a=some p→bJ ao g (.int .i64 v::dh) (S a) fun r ai=>r= .tuple [p.1.e,.bool true]∧ai=S p.2)(t:T):
  ∀a p,t.mapO f a=some p→bJ ao 194 [t.e,.func g dh] (S a) fun r ai=>r=p.1.e∧ai=S p.2:=by
 have aA:∀a m,Pv.look (.loc m) (S a).b=none:=fun a=>(dv a).obj.1;have cC:∀a m,Pv.look (.loc m) (S a).e=none:=fun a=>(dv a).obj.2;have hu:∀a m cs,cw (.loc m) cs (S a).b=(S a).b++[(.loc m,cs)]:=fun a m cs=>jE (aA a m);have av:∀a m,aD.loc m∉cO (S a):=fun a=>jz (dv a).obj;have k6:∀a m p r,cw (.loc m) p ((S a).b++r)=(S a).b++cw (.loc m) p r:=fun a m p r=>zX (aA a m);induction t with
 |pair x y oL q0=>intro a p he;have ag:=dv a;simp only[T.mapO,mh,gA]at he;obtain⟨cL,J,dm,U,rfl⟩:=he;refine bJ.mk mixed gh yi zn (by simp) ag.obj fun aR c1=>?_;unfold wc;simp[hu,av,cE,aA,cC,c9,k6];(with_reducible repeat' first|refine ak ?_|simp[hu,av,cE,aA,cC,k6]);refine hO.ob (oL a cL J) ag (dv cL.2) (eY _ _) aQ aQ (by simp[aw]) ?_;simp[gH,h8,cu,aA,c9];(with_reducible repeat' first|refine ak ?_|simp[hu,av,cE,aA,cC,k6]);refine hO.ob (q0 cL.2 dm U) (dv cL.2) (dv dm.2) (eY _ _) aQ aQ (by simp[aw,c9]) ?_;simp[gH,h8,cu,aA,c9];(with_reducible repeat' first|refine ak ?_|refine aE (F9 _ _) ?_|refine aF (F9 _ _) ?_|simp[cE,aA,k6]);refine cN.at (S dm.2) (.inl rfl) (dv _) (eY _ _) aQ aQ ?_;simp[cT,xu,aV,aY,aU,cE,aA]
 |var n=>
  intro a p he;have ag:=dv a;simp only[T.mapO]at he;refine bJ.mk mixed gh yi zn (by simp) ag.obj fun aR c1=>?_;unfold wc;simp[hu,av,cE,aA,c9,k6];(with_reducible repeat' first|refine ak ?_|simp[hu,av,cE,aA,k6]);refine c2.ob (aI n a p he) ag aQ aQ (by simp[aw]) ?_;rintro r ai ⟨rfl,rfl⟩;refine⟨eY _ _,?_⟩;simp[gH,h8,cu,aA,hu,av,cE];(with_reducible repeat' first|refine ak ?_|refine aE (sD _) ?_|refine aF (sD _) ?_|simp[hu,av,cE,aA,k6]);all_goals refine cN.at (S p.2) (.inl rfl) (dv _) (eY _ _) aQ aQ ?_
  all_goals simp[cT,xu,aV,aY,aU,cE,aA]
 |_=>intro a p he;have ag:=dv a;simp only[T.mapO,dz]at he;subst he;refine bJ.mk mixed gh yi zn (by simp) ag.obj fun aR c1=>?_;unfold wc;simp[hu,av,cE,aA,c9,k6];(with_reducible repeat' first|refine ak ?_|simp[hu,av,cE,aA,k6]);refine cN.at (S a) (.inl rfl) ag (Same.refl _) aQ aQ ?_;simp[cT,xu,aV,aY,aU,cE,aA]
include dv eY aw c9 in
theorem abd(gK:α→Prop)(f:Int→α→aW (Int×α))(A3:∀v a p,gK a→f v a=some p→gK p.2∧0≤p.1∧p.1≤1000000)(aI:∀v a p,gK a→f v a=some p→bJ ao g (.int .i64 v::dh) (S a) fun r ai=>r= .int .i64 p.1∧ai=S p.2)(t:T):
  ∀a p,gK a→t.sizeO f a=some p→gK p.2∧(0≤p.1∧p.1≤5001)∧bJ ao 192 [t.e,.func g dh] (S a) fun r ai=>r= .int .i64 p.1∧ai=S p.2:=by
 have aA:∀a m,Pv.look (.loc m) (S a).b=none:=fun a=>(dv a).obj.1;have hu:∀a m cs,cw (.loc m) cs (S a).b=(S a).b++[(.loc m,cs)]:=fun a m cs=>jE (aA a m);have av:∀a m,aD.loc m∉cO (S a):=fun a=>jz (dv a).obj;induction t with
 |pair x y oL q0=>
  intro a p hi he;have ag:=dv a;simp only[T.sizeO,mh]at he;obtain⟨cL,J,U⟩:=he;obtain⟨i1,b9,g1⟩:=oL a cL hi J;by_cases DT:5000<cL.1
  ·rw[if_pos DT]at U;cases U;refine⟨i1,b9,?_⟩;refine bJ.mk mixed gh wj xl (by simp) ag.obj fun aR c1=>?_;unfold uw;simp[hu,av,cE,aA,c9];(with_reducible repeat' first|refine ak ?_|simp[hu,av,cE,aA]);refine c2.ob g1 ag aQ aQ (by simp[aw]) ?_;rintro r ai ⟨rfl,rfl⟩;refine⟨eY _ _,?_⟩;simp[gH,h8,cu,aA];((with_reducible repeat' first|((first|apply bO|apply bS|apply bR)<;>intro h<;>try simp at h)|refine ak ?_|simp[hu,av,cE,aA])<;>(try contradiction));all_goals first|omega|(refine cN.at (S p.2) (.inl rfl) (dv _) (eY _ _) aQ aQ ?_;simp[cT,tR,aV,aY,aU])
  ·rw[if_neg DT,gA]at U;obtain⟨dm,U,rfl⟩:=U;obtain⟨i2,bZ,g2⟩:=q0 cL.2 dm i1 U;refine⟨i2,by simp only;split<;>omega,?_⟩;refine bJ.mk mixed gh wj xl (by simp) ag.obj fun aR c1=>?_;unfold uw;simp[hu,av,cE,aA,c9];(with_reducible repeat' first|((first|apply bO|apply bS|apply bR)<;>intro h<;>try simp at h)|refine ak ?_|simp[hu,av,cE,aA]);refine c2.ob g1 ag aQ aQ (by simp[aw]) ?_;rintro r ai ⟨rfl,rfl⟩;refine⟨eY _ _,?_⟩;simp[gH,h8,cu,aA];((with_reducible repeat' first|refine ak ?_|simp[hu,av,cE,aA]|((first|apply bO|apply bS|apply bR)<;>intro h<;>try simp at h))<;>(try exact cq));all_goals first|omega|skip
   rw[c9];refine c2.ob g2 (dv cL.2) aQ aQ (by simp[aw]) ?_;rintro r s2 ⟨rfl,rfl⟩;refine⟨eY _ _,?_⟩;simp[gH,h8,cu,aA];(with_reducible repeat' first|refine ak ?_|simp[hu,av,cE,aA]);refine cN.at (S dm.2) (.inl rfl) (dv _) (eY _ _) aQ aQ ?_;simp[cT,tR,aV,aY,aU]
 |var n=>intro a p hi he;have ag:=dv a;simp only[T.sizeO,gA]at he;obtain⟨cL,J,rfl⟩:=he;have ae:=A3 n a cL hi J;refine⟨ae.1,by simp only;split<;>omega,?_⟩;refine bJ.mk mixed gh wj xl (by simp) ag.obj fun aR c1=>?_;unfold uw;simp[hu,av,cE,aA,c9];(with_reducible repeat' first|refine ak ?_|simp[hu,av,cE,aA]);refine c2.ob (aI n a cL hi J) ag aQ aQ (by simp[aw]) ?_;rintro r ai ⟨rfl,rfl⟩;refine⟨eY _ _,?_⟩;simp[gH,h8,cu,aA];refine cN.at (S cL.2) (.inl rfl) (dv _) (eY _ _) aQ aQ ?_;simp[cT,tR,aV,aY,aU]
 |_=>intro a p hi he;have ag:=dv a;simp only[T.sizeO,dz]at he;subst he;refine⟨hi,by simp,?_⟩;refine bJ.mk mixed gh wj xl (by simp) ag.obj fun aR c1=>?_;unfold uw;simp[hu,av,cE,aA,c9];(with_reducible repeat' first|refine ak ?_|simp[hu,av,cE,aA]);refine cN.at (S a) (.inl rfl) ag (Same.refl _) aQ aQ ?_;simp[cT,tR,aV,aY,aU]
end
end Go.Proofs.YtahlgcidhnjlbaaGreat
namespace Go.Pv
open Go Go.RowKit
section
variable {P:cy} {ob:List aD} {st:bo} {Q:Exit→bo→Prop} {c:C} {α:Type}
theorem dU(b7:List Nat)(cs:Nat→α→List (Nat×ah))(n:Nat)(gB:Nat→α→Prop)(a0:α)(hw:ig ob st (oO st b7 (cs 0 a0)))(bs:gB 0 a0)(uN:∀a,gB n a→(∀i,ej (get i (oO st b7 (cs n a)).t))→cR P ob c (bL ob (xW (fun i a=>oO st b7 (cs i a)) n gB) 0 Q) (oO st b7 (cs n a)))
  (jk:∀i a,i<n→gB i a→(∀j,ej (get j (oO st b7 (cs i a)).t))→cR P ob c (bL ob (xW (fun i a=>oO st b7 (cs i a)) n gB) (n-i) Q) (oO st b7 (cs i a))):cR P ob (.loop c) Q st:=
 ik (fun i a=>oO st b7 (cs i a)) n gB a0 hw bs uN jk
theorem uC(b7:List Nat)(cs:α→List (Nat×ah))(me:α→Nat)(gB:α→Prop)(a0:α)(hw:ig ob st (oO st b7 (cs a0)))(bs:gB a0)
  (jk:∀a,gB a→(∀j,ej (get j (oO st b7 (cs a)).t))→cR P ob c (bL ob (Aa (fun a=>oO st b7 (cs a)) me gB) (me a) Q) (oO st b7 (cs a))):cR P ob (.loop c) Q st:=
 nH (fun a=>oO st b7 (cs a)) me gB a0 hw bs jk
end
attribute [simp] aeN
end Go.Pv
namespace Go.Proofs.YtahlgcidhnjlbaaGreat
open Go Go.Pv
theorem Jo{α β:Type}(k:aD):∀{l:List (aD×α)} {aX:List (aD×β)},l.map (·.1)=aX.map (·.1)→(Pv.look k l).isSome=(Pv.look k aX).isSome
 |[],[],_=>rfl
 |[],_::_,h=>by simp at h
 |_::_,[],h=>by simp at h
 |(i,x)::r,(j,y)::ev,h=>by
  simp only[gX,pI]at h;simp only[Pv.look];obtain⟨rfl,h⟩:=h;split
  ·rfl
  ·exact Jo k h
theorem _root_.Go.Pv.Same.keys{s ai:cF}(ae:s.b.map (·.1)=ai.b.map (·.1))(he:s.e.map (·.1)=ai.e.map (·.1)):Same s ai:=⟨fun k=>Jo k ae,fun k=>Jo k he⟩
section
variable {α:Type} (e:α→ah)
def q5(l:List (Int×α)):List ah:=jn (l.map fun x=>(x.1,e x.2))
theorem L8(k:Int):∀l:List (Int×α),vZ k (l.map fun x=>(x.1,e x.2))=(cW k l).map e
 |[]=>rfl
 |(i,v)::r=>by
  simp only[gX,vZ,cW];split
  ·rfl
  ·exact L8 k r
theorem Mf(k:Int)(v:α):∀l:List (Int×α),ot k (e v) (l.map fun x=>(x.1,e x.2))=if(cW k l).isSome then some ((eH k v l).map fun x=>(x.1,e x.2))else none
 |[]=>rfl
 |(i,w)::r=>by
  simp only[gX,ot,cW,eH];by_cases h:k=i
  ·subst h;simp
  ·simp only[h,if_false,Mf k v r];cases (cW k r).isSome<;>simp
theorem U3{k:Int}{v:α}:∀{l:List (Int×α)},cW k l=none→eH k v l=l++[(k,v)]
 |[],_=>rfl
 |(i,w)::r,h=>by
  simp only[cW]at h;split at h
  ·cases h
  ·rename_i cC;simp[eH,cC,U3 h]
theorem JI(k:Int)(v:α)(l:List (Int×α)):nX .i (.int .i64 k) (e v) (q5 e l)=some (q5 e (eH k v l)):=by
 simp only[q5,SF,C4,Mf];cases h:cW k l with
 |some w=>simp
 |none=>simp[U3 h]
theorem JD(f:aD→aW (List ah))(m:aD)(l:List (Int×α))(z:ah)(ok:Bool)(k:Int)(hm:f m=some (q5 e l)):nk f .i z ok (.gmap m) (.int .i64 k)=some (True,if ok then .tuple [((cW k l).map e).getD z,.bool (cW k l).isSome]else((cW k l).map e).getD z):=by rw[aey f m _ z ok k hm,L8];cases cW k l<;>rfl
@[simp] theorem aoa(l:List (Int×α)):hF (q5 e l)=false:=rfl
theorem Jc(S:aD→Prop)(he:∀x,aB S (e x))(l:List (Int×α)):aH S (q5 e l):=by
 have:∀l:List (Int×α),aH S (jY (l.map fun x=>(x.1,e x.2))):=by
  intro l;induction l with
  |nil=>simp[jY,aH]
  |cons x r bM=>simp[jY,aH,bM,he]
 simp[q5,jn,aH,this,aB]
end
def mH:List (Int×Int)→List ah:=q5 (ah.int .i64)
def po:List (Int×Bool)→List ah:=q5 ah.bool
def sg:List (Int×T)→List ah:=q5 T.e
@[simp] theorem an7(l):hF (mH l)=false:=rfl
@[simp] theorem an5(l):hF (po l)=false:=rfl
@[simp] theorem an9(l):hF (sg l)=false:=rfl
@[simp] theorem amR(S:aD→Prop)(l):aH S (mH l)=True:=eq_true (Jc _ S (fun _=>by simp) l)
@[simp] theorem amQ(S:aD→Prop)(l):aH S (po l)=True:=eq_true (Jc _ S (fun _=>by simp) l)
@[simp] theorem amS(S:aD→Prop)(l):aH S (sg l)=True:=eq_true (Jc _ S (fun _=>by simp) l)
@[simp] theorem anV(k v:Int)(l):nX .i (.int .i64 k) (.int .i64 v) (mH l)=some (mH (eH k v l)):=JI _ k v l
@[simp] theorem anU(k:Int)(v:Bool)(l):nX .i (.int .i64 k) (.bool v) (po l)=some (po (eH k v l)):=JI _ k v l
@[simp] theorem anX(k:Int)(v:T)(l):nX .i (.int .i64 k) v.e (sg l)=some (sg (eH k v l)):=JI _ k v l
def BR(b7:jd)(z:ah)(ok:Bool)(o:aW (List ah))(k:ah):aW (Prop×ah):=nk (fun _=>o) b7 z ok (.gmap (.loc 0)) k
@[simp] theorem anR(f:aD→aW (List ah))(b7:jd)(z:ah)(ok:Bool)(m:aD)(k:ah):nk f b7 z ok (.gmap m) k=BR b7 z ok (f m) k:=by simp only[BR,Sw]
theorem aeA(f:aD→aW (List ah))(m:aD)(l:List (Int×Int))(ok:Bool)(k:Int)(hm:f m=some (mH l)):nk f .i (.int .i64 0) ok (.gmap m) (.int .i64 k)=some (True,if ok then .tuple [.int .i64 (iB l k),.bool (cW k l).isSome]else .int .i64 (iB l k)):=by rw[JD _ f m l _ ok k hm];unfold iB;cases cW k l<;>rfl
theorem aez(f:aD→aW (List ah))(m:aD)(l:List (Int×Bool))(ok:Bool)(k:Int)(hm:f m=some (po l)):nk f .i (.bool false) ok (.gmap m) (.int .i64 k)=some (True,if ok then .tuple [.bool ((cW k l).getD false),.bool (cW k l).isSome]else .bool ((cW k l).getD false)):=by rw[JD _ f m l _ ok k hm];cases cW k l<;>rfl
def Le:ah:= .agg [.int .i64 0,.int .i64 0,.str [],.slice 4 .nil []]
def sw(o:aW T):ah:=(o.map T.e).getD Le
theorem aeB(f:aD→aW (List ah))(m:aD)(l:List (Int×T))(ok:Bool)(k:Int)(hm:f m=some (sg l)):nk f .i (.agg [.int .i64 0,.int .i64 0,.str [],.slice 4 .nil []]) ok (.gmap m) (.int .i64 k)=some (True,if ok then .tuple [sw (cW k l),.bool (cW k l).isSome]else sw (cW k l)):=by rw[JD _ f m l _ ok k hm];rfl
@[simp] theorem anP(l:List (Int×Int))(ok:Bool)(k:Int):BR .i (.int .i64 0) ok (some (mH l)) (.int .i64 k)=some (True,if ok then .tuple [.int .i64 (iB l k),.bool (cW k l).isSome]else .int .i64 (iB l k)):=aeA _ _ l ok k rfl
@[simp] theorem anO(l:List (Int×Bool))(ok:Bool)(k:Int):BR .i (.bool false) ok (some (po l)) (.int .i64 k)=some (True,if ok then .tuple [.bool ((cW k l).getD false),.bool (cW k l).isSome]else .bool ((cW k l).getD false)):=aez _ _ l ok k rfl
@[simp] theorem anQ(l:List (Int×T))(ok:Bool)(k:Int):BR .i (.agg [.int .i64 0,.int .i64 0,.str [],.slice 4 .nil []]) ok (some (sg l)) (.int .i64 k)=some (True,if ok then .tuple [sw (cW k l),.bool (cW k l).isSome]else sw (cW k l)):=aeB _ _ l ok k rfl
@[simp] theorem apn(o:aW T):dn (sw o)=(o.getD .nil).e:=by cases o<;>simp[sw,Le,dn,cU]
@[simp] theorem ans(S:aD→Prop)(o:aW T):aB S (sw o)=True:=by cases o<;>simp[sw,Le,aB,aH]
@[simp] theorem anD:[ah.hdm 0 []]=jn []:=rfl
def az:ah:= .eptr (.agg [.gmap (.obj 702),.gmap (.obj 703),.gmap (.obj 704),.gmap (.obj 705),.gmap (.obj 706),.gmap (.obj 707)])
def ay(c:bq):List (aD×List ah):=[(.obj 702,mH c.up),(.obj 703,sg c.shape),(.obj 704,po c.shaped),(.obj 705,mH c.color),(.obj 706,mH c.size),(.obj 707,sg c.full)]
def aM(c:bq):cF:=⟨ay c,[]⟩
theorem b8(c:bq):ee (aM c):=by unfold aM ay;exact ee.of ⟨by intro m;simp[Pv.look],by intro m;simp[Pv.look]⟩ (by simp) (by simp)
theorem CX(c ch:bq):Same (aM c) (aM ch):=by
 refine⟨fun k=>?_,fun k=>rfl⟩;simp only[aM,ay,Pv.look];repeat' split
 all_goals rfl
theorem qD(c:bq)(v r:Int)(ch:bq)(he:rt c v=some (r,ch)):bJ ao 216 [az,.int .i64 v] (aM c) fun ev ai=>ev= .int .i64 r∧ai=aM ch:=by
 have ag:=b8 c;have fX:=b8 ch;have eY:=CX c ch;simp only[rt,gA,jb]at he;obtain⟨⟨dC,m1⟩,he,rfl,rfl⟩:=he;unfold aM ay at ag fX eY⊢;simp only at fX eY⊢;unfold az;refine bJ.mk mixed iX Y2 afp (by simp) ag.obj fun aR c1=>?_;unfold MR;simp;(with_reducible repeat' first|((first|apply bO|apply bS|apply bR)<;>intro h<;>try simp at h)|refine ak ?_|simp);all_goals
  refine nH (α:=Nat×Int×List (Int×Int)) (fun a=>⟨[(0,az),(1,.int .i64 a.2.1)],[(.obj 702,mH a.2.2),(.obj 703,sg c.shape),(.obj 704,po c.shaped),(.obj 705,mH c.color),(.obj 706,mH c.size),(.obj 707,sg c.full)],[],0,[.obj 702,.obj 703,.obj 704,.obj 705,.obj 706,.obj 707]⟩) (fun a=>a.1) (fun a=>vz a.1 a.2.2 a.2.1=some (dC,m1)) (v.toNat+1,v,x1 v c.up) (by simp[x1,h,az];exact⟨by simp[fresh,aH,aB,cf,inObs,Pv.look,az],eh (by simp[fresh,aH,aB,cf,inObs,Pv.look,az]),ei (by simp[fresh,aH,aB,dN,inObs,Pv.look,az]),by simp⟩) he ?_
  rintro⟨n,u,m⟩ af ae
  simp only at af ae⊢
  cases n with
  |zero=>simp[vz]at af
  |succ n=>
   simp only[vz]at af
   simp[az]
   (with_reducible repeat' first|((first|apply bO|apply bS|apply bR)<;>intro h<;>try simp at h)|refine ak ?_|simp)
   ·rw[if_neg h]at af
    refine bL.whl (n,iB (eH u (iB m (iB m u)) m) u,eH u (iB m (iB m u)) m) (Nat.lt_succ_self n) af ?_
    simp[az]
    exact⟨by simp[fresh,aH,aB,cf,inObs,Pv.look,az],eh (by simp[fresh,aH,aB,cf,inObs,Pv.look,az]),ei (by simp[fresh,aH,aB,dN,inObs,Pv.look,az]),by simp⟩
   ·rw[if_pos h]at af
    cases af
    refine cN.at _ (.inl rfl) fX eY aQ aQ ?_
    simp[cT,Tx,aV,aY,aU]
end Go.Proofs.YtahlgcidhnjlbaaGreat
namespace Go.Proofs.YtahlgcidhnjlbaaGreat
open Go Go.Pv
theorem aa1(c:bq)(v r:Int)(ch:bq)(he:rt c v=some (r,ch)):bJ ao 245 [.int .i64 v,.eptr az] (aM c) fun ev ai=>ev= .tuple []∧ai=aM ch:=by have ag:=b8 c;simp only[aM,ay]at ag⊢;refine bJ.mk mixed iX YZ afm (by simp) ag.obj fun aR c1=>?_;unfold MO;simp[az];(refine c2.ob (qD c v r ch he) (by first|exact b8 _|exact b8 ‹_› _) (by simp only[aM,ay,az,bN,bT];exact aQ) (by simp only[aM,ay,az,bN,bT];exact aQ) (by simp[inObs,Pv.look,aM,ay,az]) ?_;rintro r ai ⟨rfl,rfl⟩;refine⟨(Same.keys (by simp[aM,ay,az]) (by simp[aM,ay,az])),?_⟩;simp[cu,aM,ay,az]);(refine cN.at (aM ch) (by simp) (by first|exact b8 _|exact b8 ‹_› _) (Same.keys (by simp[aM,ay,az]) (by simp[aM,ay,az])) (by simp only[aM,ay,az,bN,bT];exact aQ) (by simp only[aM,ay,az,bN,bT];exact aQ) ?_;simp[cT,Tv,aV,aY,aU,inObs,Pv.look,aM,ay,az])
theorem HP(c:bq)(t:T)(ch:bq)(he:zb t c=some ch):bJ ao 217 [az,t.e] (aM c) fun ev ai=>ev= .tuple []∧ai=aM ch:=by
 have ag:=b8 c;have key:=HM aM b8 CX 245 [.eptr az] (fun a=>by simp[aM,ay,az,inObs,Pv.look]) rfl (fun(v:Int) (c:bq)=>(rt c v).map Prod.snd) (fun v a bj h=>by rw[gA]at h;obtain⟨⟨r,bE⟩,J,rfl⟩:=h;exact aa1 a v r bE J) t c ch he
 simp only[aM,ay]at ag⊢;refine bJ.mk mixed iX YY afl (by simp) ag.obj fun aR c1=>?_;unfold MN;simp[az];(refine c2.ob (key) (by first|exact b8 _|exact b8 ‹_› _) (by simp only[aM,ay,az,bN,bT];exact aQ) (by simp only[aM,ay,az,bN,bT];exact aQ) (by simp[inObs,Pv.look,aM,ay,az]) ?_;rintro r ai ⟨rfl,rfl⟩;refine⟨(Same.keys (by simp[aM,ay,az]) (by simp[aM,ay,az])),?_⟩;simp[cu,aM,ay,az]);(refine cN.at (aM ch) (by simp) (by first|exact b8 _|exact b8 ‹_› _) (Same.keys (by simp[aM,ay,az]) (by simp[aM,ay,az])) (by simp only[aM,ay,az,bN,bT];exact aQ) (by simp only[aM,ay,az,bN,bT];exact aQ) ?_;simp[cT,Tu,aV,aY,aU,inObs,Pv.look,aM,ay,az])
def eo(K:Nat)(a:bq×List (Int×Bool)):cF:=⟨ay a.1++[(.obj K,po a.2)],[]⟩
def fO(K:Nat)(a:sM):cF:=⟨ay a.c++[(.obj K,po a.seen),(.obj 712,[.bool a.found])],[]⟩
def xi(K:Nat):Prop:=K=715∨K=716
theorem hQ{K:Nat}(c4:xi K)(a):ee (eo K a):=by unfold eo ay;rcases c4 with rfl|rfl;all_goals exact ee.of ⟨by intro m;simp[Pv.look],by intro m;simp[Pv.look]⟩ (by simp) (by simp)
theorem o0{K:Nat}(c4:xi K)(a):ee (fO K a):=by unfold fO ay;rcases c4 with rfl|rfl;all_goals exact ee.of ⟨by intro m;simp[Pv.look],by intro m;simp[Pv.look]⟩ (by simp) (by simp)
theorem Gl{K:Nat}(a b):Same (fO K a) (fO K b):=by
 refine⟨fun k=>?_,fun k=>rfl⟩;simp only[fO,ay,bN,bT,Pv.look];repeat' split
 all_goals rfl
theorem aa7{K:Nat}(c4:xi K)(n:Nat)(x:Int)(uW:∀t c seen a,oQ n x t c seen=some a→bJ ao 246 [az,t.e,.int .i64 x,.gmap (.obj K)] (eo K (c,seen)) fun r ai=>r= .bool a.found∧ai=eo K (a.c,a.seen))
  (v:Int) (a bj:sM) (he:vx (oQ n x) x v a=some bj):bJ ao 257 [.int .i64 v,.eptr az,.ptr (.obj 712) 0,.eptr (.int .i64 x),.eptr (.gmap (.obj K))] (fO K a) fun r ai=>r= .tuple []∧ai=fO K bj:=by
 have ag:=o0 c4 a;simp only[vx,mh]at he;obtain⟨⟨r,bE⟩,J,U⟩:=he;simp only at U;have ab:=c4;rcases ab with rfl|rfl;all_goals
  simp only[fO,ay,bN,bT]at ag⊢
  refine bJ.mk mixed iX Y1 afo (by simp) ag.obj fun aR c1=>?_;unfold MQ
  simp[az]
  (refine c2.ob (qD a.c v r bE J) (by first|exact b8 _|exact b8 ‹_› _) (by simp only[aM,ay,az,bN,bT];exact aQ) (by simp only[aM,ay,az,bN,bT];exact aQ) (by simp[inObs,Pv.look,aM,ay,az]) ?_;rintro r ai ⟨rfl,rfl⟩;refine⟨(Same.keys (by simp[aM,ay,az]) (by simp[aM,ay,az])),?_⟩;simp[cu,aM,ay,az])
  obtain⟨ac,zO,GA⟩:=a
  cases GA with
  |true=>
   simp at U;subst U
   (with_reducible repeat' first|refine ak ?_|simp)
   (refine cN.at (fO _ ⟨bE,zO,true⟩) (by simp) (by first|exact o0 _|exact o0 ‹_› _) (Same.keys (by simp[fO,ay,az]) (by simp[fO,ay,az])) (by simp only[fO,ay,az,bN,bT];exact aQ) (by simp only[fO,ay,az,bN,bT];exact aQ) ?_;simp[cT,zw,aV,aY,aU,inObs,Pv.look,fO,ay,az])
  |false=>
   by_cases ad:r=x
   ·simp[ad]at U;subst U
    (with_reducible repeat' first|refine ak ?_|simp[ad])
    (refine cN.at (fO _ ⟨bE,zO,true⟩) (by simp) (by first|exact o0 _|exact o0 ‹_› _) (Same.keys (by simp[fO,ay,az]) (by simp[fO,ay,az])) (by simp only[fO,ay,az,bN,bT];exact aQ) (by simp only[fO,ay,az,bN,bT];exact aQ) ?_;simp[cT,zw,aV,aY,aU,inObs,Pv.look,fO,ay,az])
   ·have hU:(r==x)=false:=by simp[ad]
    simp only[ad,gI,or_self,if_false]at U
    cases yQ:(cW r zO).getD false with
    |true=>
     simp[yQ]at U;subst U
     (with_reducible repeat' first|refine ak ?_|simp[hU,yQ])
     (refine cN.at (fO _ ⟨bE,zO,false⟩) (by simp) (by first|exact o0 _|exact o0 ‹_› _) (Same.keys (by simp[fO,ay,az]) (by simp[fO,ay,az])) (by simp only[fO,ay,az,bN,bT];exact aQ) (by simp only[fO,ay,az,bN,bT];exact aQ) ?_;simp[cT,zw,aV,aY,aU,inObs,Pv.look,fO,ay,az])
    |false=>
     cases gq:bE.shd r with
     |false=>
      have ID:(cW r bE.shaped).getD false=false:=gq
      simp[yQ,gq]at U;subst U
      (with_reducible repeat' first|refine ak ?_|simp[hU,yQ,ID])
      (refine cN.at (fO _ ⟨bE,zO,false⟩) (by simp) (by first|exact o0 _|exact o0 ‹_› _) (Same.keys (by simp[fO,ay,az]) (by simp[fO,ay,az])) (by simp only[fO,ay,az,bN,bT];exact aQ) (by simp only[fO,ay,az,bN,bT];exact aQ) ?_;simp[cT,zw,aV,aY,aU,inObs,Pv.look,fO,ay,az])
     |true=>
      have ID:(cW r bE.shaped).getD false=true:=gq
      simp[yQ,gq]at U
      have aJ:=uW _ _ _ _ U
      (with_reducible repeat' first|refine ak ?_|simp[hU,yQ,ID])
      (refine hO.ob (aJ) (by first|exact hQ _|exact hQ ‹_› _) (by first|exact hQ _|exact hQ ‹_› _) (Same.keys (by simp[eo,ay,az]) (by simp[eo,ay,az])) (by simp only[eo,ay,az,bN,bT];exact aQ) (by simp only[eo,ay,az,bN,bT];exact aQ) (by simp[inObs,Pv.look,eo,ay,az]) ?_;simp[cu,eo,ay,az])
      (with_reducible repeat' first|refine ak ?_|simp)
      (refine cN.at (fO _ bj) (by simp) (by first|exact o0 _|exact o0 ‹_› _) (Same.keys (by simp[fO,ay,az]) (by simp[fO,ay,az])) (by simp only[fO,ay,az,bN,bT];exact aQ) (by simp only[fO,ay,az,bN,bT];exact aQ) ?_;simp[cT,zw,aV,aY,aU,inObs,Pv.look,fO,ay,az])
theorem DJ{K:Nat}(c4:xi K)(x:Int)(n:Nat):∀(t:T) (c:bq) (seen:List (Int×Bool)) (a:sM),oQ n x t c seen=some a→bJ ao 246 [az,t.e,.int .i64 x,.gmap (.obj K)] (eo K (c,seen)) fun r ai=>r= .bool a.found∧ai=eo K (a.c,a.seen):=by
 induction n with
 |zero=>intro t c seen a h;simp[oQ]at h
 |succ n bM=>
  intro t c seen a h;simp only[oQ]at h;have ag:=hQ c4 (c,seen);have key:=HM (fO K) (o0 c4) Gl 257 [.eptr az,.ptr (.obj 712) 0,.eptr (.int .i64 x),.eptr (.gmap (.obj K))] (fun a=>by rcases c4 with rfl|rfl<;>simp[fO,ay,az,inObs,Pv.look]) rfl (vx (oQ n x) x) (fun v a bj h=>aa7 c4 n x bM v a bj h) t ⟨c,seen,false⟩ a h;have ab:=c4;rcases ab with rfl|rfl;all_goals
   simp only[eo,ay,bN,bT]at ag⊢
   refine bJ.mk mixed iX Y0 afn (by simp) ag.obj fun aR c1=>?_;unfold MP
   simp[az]
   refine c2.new key (o0 c4 _) (by simp only[fO,ay,az,bN,bT];exact aQ) (by simp only[fO,ay,az,bN,bT];exact aQ) (by simp[inObs,Pv.look,fO,ay,az]) ?_
   rintro r ai ⟨rfl,rfl⟩
   refine⟨fun m hm=>.inl ⟨?_,Gl _ _⟩,?_⟩
   ·exact((Gl _ _).inObs _).2 hm
   simp[cu,fO,ay]
   (with_reducible repeat' first|refine ak ?_|simp)
   (refine cN.at (eo _ (a.c,a.seen)) (by simp) (by first|exact hQ _|exact hQ ‹_› _) (Same.keys (by simp[eo,ay,az]) (by simp[eo,ay,az])) (by simp only[eo,ay,az,bN,bT];exact aQ) (by simp only[eo,ay,az,bN,bT];exact aQ) ?_;simp[cT,Tw,aV,aY,aU,inObs,Pv.look,eo,ay,az])
@[simp] theorem Jq:po []=jn []:=rfl
@[simp] theorem apr(t:T):sw (some t)=t.e:=rfl
@[simp] theorem apq:sw none= .agg [.int .i64 0,.int .i64 0,.str [],.slice 4 .nil []]:=rfl
theorem PK(n:Nat)(x:Int)(t:T)(c:bq)(p:Bool×bq)(he:tC n x t c=some p):bJ ao 247 [az,.int .i64 x,t.e] (aM c) fun r ai=>r= .bool p.1∧ai=aM p.2:=by have ag:=b8 c;simp only[tC,gA]at he;obtain⟨a,J,rfl⟩:=he;have c4:xi 715:= .inl rfl;have key:=DJ c4 x n t (c.know x t) [] a J;simp only[aM,ay]at ag⊢;refine bJ.mk mixed iX YX afk (by simp) ag.obj fun aR c1=>?_;unfold MM;simp[az];(refine c2.ob (key) (by first|exact hQ _|exact hQ ‹_› _) (by simp only[eo,ay,az,bq.know,bN,bT];exact aQ) (by simp only[eo,ay,az,bq.know,bN,bT];exact aQ) (by simp[inObs,Pv.look,eo,ay,az,bq.know]) ?_;rintro r ai ⟨rfl,rfl⟩;refine⟨(Same.keys (by simp[eo,ay,az,bq.know]) (by simp[eo,ay,az,bq.know])),?_⟩;simp[cu,eo,ay,az,bq.know]);(refine cN.at (aM a.c) (by simp) (by first|exact b8 _|exact b8 ‹_› _) (Same.keys (by simp[aM,ay,az]) (by simp[aM,ay,az])) (by simp only[aM,ay,az,bN,bT];exact aQ) (by simp only[aM,ay,az,bN,bT];exact aQ) ?_;simp[cT,Tt,aV,aY,aU,inObs,Pv.look,aM,ay,az])
set_option maxRecDepth 4000 in
theorem PI(n:Nat):∀(a b:T) (c:bq) (p:Bool×bq),gk n a b c=some p→bJ ao 218 [az,a.e,b.e] (aM c) fun r ai=>r= .bool p.1∧ai=aM p.2:=by
 induction n with
 |zero=>intro a b c p h;simp[gk]at h
 |succ n bM=>
  intro a b c p he;have ag:=b8 c;have Bw:∀i j,a= .var i→b= .var j→bJ ao 218 [az,a.e,b.e] (aM c) fun r ai=>r= .bool p.1∧ai=aM p.2:=by
   rintro i j rfl rfl;simp only[gk,mh]at he;obtain⟨⟨x,bE⟩,J,⟨y,cc⟩,U,al⟩:=he;simp only at U al;simp only[aM,ay]at ag⊢;refine bJ.mk mixed iX wi xk (by simp) ag.obj fun aR c1=>?_;unfold uv;simp[az];(refine c2.ob (qD c i x bE J) (by first|exact b8 _|exact b8 ‹_› _) (by simp only[aM,ay,az,bN,bT];exact aQ) (by simp only[aM,ay,az,bN,bT];exact aQ) (by simp[inObs,Pv.look,aM,ay,az]) ?_;rintro r ai ⟨rfl,rfl⟩;refine⟨(Same.keys (by simp[aM,ay,az]) (by simp[aM,ay,az])),?_⟩;simp[cu,aM,ay,az]);(with_reducible repeat' first|refine ak ?_|simp);(refine c2.ob (qD bE j y cc U) (by first|exact b8 _|exact b8 ‹_› _) (by simp only[aM,ay,az,bN,bT];exact aQ) (by simp only[aM,ay,az,bN,bT];exact aQ) (by simp[inObs,Pv.look,aM,ay,az]) ?_;rintro r ai ⟨rfl,rfl⟩;refine⟨(Same.keys (by simp[aM,ay,az]) (by simp[aM,ay,az])),?_⟩;simp[cu,aM,ay,az]);by_cases hC:x=y
   ·rw[if_pos hC]at al;cases al;(with_reducible repeat' first|refine ak ?_|simp[hC]);(refine cN.at (aM cc) (by simp) (by first|exact b8 _|exact b8 ‹_› _) (Same.keys (by simp[aM,ay,az]) (by simp[aM,ay,az])) (by simp only[aM,ay,az,bN,bT];exact aQ) (by simp only[aM,ay,az,bN,bT];exact aQ) ?_;simp[cT,nm,aV,aY,aU,inObs,Pv.look,aM,ay,az])
   ·rw[if_neg hC]at al;have yX:(x==y)=false:=by simp[hC]
    have P2:xi 715:= .inl rfl;have abF:xi 716:= .inr rfl;obtain⟨u,v,yU,a6⟩:∃u v,((u=y∧v=x∧y<x)∨(u=x∧v=y∧¬y<x))∧qy (gk n) n u v (cc.join u v)=some p:=by
     by_cases bu:y<x
     ·rw[if_pos bu]at al;exact⟨y,x,.inl ⟨rfl,rfl,bu⟩,al⟩
     ·rw[if_neg bu]at al;exact⟨x,y,.inr ⟨rfl,rfl,bu⟩,al⟩
    clear al;obtain⟨d,aP⟩:∃d,d=cc.join u v:=⟨_,rfl⟩;have fh:d.up=eH v u cc.up:=by rw[aP];rfl
    have ez:d.shape=cc.shape:=by rw[aP];rfl
    have gm:d.shaped=cc.shaped:=by rw[aP];rfl
    have hk:d.color=cc.color:=by rw[aP];rfl
    have hl:d.size=cc.size:=by rw[aP];rfl
    have hn:d.full=cc.full:=by rw[aP];rfl
    rw[←aP]at a6;simp only[qy]at a6;cases aK:d.shd v with
    |false=>
     have lC:(cW v cc.shaped).getD false=false:=by rw[←gm];exact aK
     rw[if_pos aK]at a6;cases hu:d.shd u with
     |false=>
      have ts:(cW u cc.shaped).getD false=false:=by rw[←gm];exact hu
      rw[if_pos hu]at a6;cases a6;rcases yU with⟨rfl,rfl,bu⟩|⟨rfl,rfl,bu⟩;all_goals
       (with_reducible repeat' first|refine ak ?_|simp[yX,bu,lC,ts])
       (refine cN.at (aM d) (by simp) (by first|exact b8 _|exact b8 ‹_› _) (Same.keys (by simp[aM,ay,az,fh,ez,gm,hk,hl,hn]) (by simp[aM,ay,az,fh,ez,gm,hk,hl,hn])) (by simp only[aM,ay,az,fh,ez,gm,hk,hl,hn,bN,bT];exact aQ) (by simp only[aM,ay,az,fh,ez,gm,hk,hl,hn,bN,bT];exact aQ) ?_;simp[cT,nm,aV,aY,aU,inObs,Pv.look,aM,ay,az,fh,ez,gm,hk,hl,hn])
     |true=>
      have ts:(cW u cc.shaped).getD false=true:=by rw[←gm];exact hu
      rw[if_neg (by simp[hu]),gA]at a6;obtain⟨a,bW,rfl⟩:=a6;have key:=DJ P2 u n _ _ _ _ bW;rw[show d.shp u=(cW u cc.shape).getD .nil from by rw[←ez];rfl]at key;rcases yU with⟨rfl,rfl,bu⟩|⟨rfl,rfl,bu⟩;all_goals
       (with_reducible repeat' first|refine ak ?_|simp[yX,bu,lC,ts])
       (refine c2.ob (key) (by first|exact hQ _|exact hQ ‹_› _) (by simp only[eo,ay,az,fh,ez,gm,hk,hl,hn,bN,bT];exact aQ) (by simp only[eo,ay,az,fh,ez,gm,hk,hl,hn,bN,bT];exact aQ) (by simp[inObs,Pv.look,eo,ay,az,fh,ez,gm,hk,hl,hn]) ?_;rintro r ai ⟨rfl,rfl⟩;refine⟨(Same.keys (by simp[eo,ay,az,fh,ez,gm,hk,hl,hn]) (by simp[eo,ay,az,fh,ez,gm,hk,hl,hn])),?_⟩;simp[cu,eo,ay,az,fh,ez,gm,hk,hl,hn])
       (with_reducible repeat' first|refine ak ?_|simp)
       (refine cN.at (aM a.c) (by simp) (by first|exact b8 _|exact b8 ‹_› _) (Same.keys (by simp[aM,ay,az]) (by simp[aM,ay,az])) (by simp only[aM,ay,az,bN,bT];exact aQ) (by simp only[aM,ay,az,bN,bT];exact aQ) ?_;simp[cT,nm,aV,aY,aU,inObs,Pv.look,aM,ay,az])
    |true=>
     have lC:(cW v cc.shaped).getD false=true:=by rw[←gm];exact aK
     rw[if_neg (by simp[aK])]at a6;rw[show d.shp v=(cW v cc.shape).getD .nil from by rw[←ez];rfl]at a6;cases hu:d.shd u with
     |false=>
      have ts:(cW u cc.shaped).getD false=false:=by rw[←gm];exact hu
      rw[if_pos hu]at a6;have key:=PK n u _ d p a6;cases aO:cW v cc.shape;all_goals
       rw[aO]at key
       simp only[kR,mU]at key
       rcases yU with⟨rfl,rfl,bu⟩|⟨rfl,rfl,bu⟩
       all_goals
        (with_reducible repeat' first|refine ak ?_|simp[yX,bu,lC,ts,aO])
        (refine c2.ob (key) (by first|exact b8 _|exact b8 ‹_› _) (by simp only[aM,ay,az,fh,ez,gm,hk,hl,hn,bN,bT];exact aQ) (by simp only[aM,ay,az,fh,ez,gm,hk,hl,hn,bN,bT];exact aQ) (by simp[inObs,Pv.look,aM,ay,az,fh,ez,gm,hk,hl,hn]) ?_;rintro r ai ⟨rfl,rfl⟩;refine⟨(Same.keys (by simp[aM,ay,az,fh,ez,gm,hk,hl,hn]) (by simp[aM,ay,az,fh,ez,gm,hk,hl,hn])),?_⟩;simp[cu,aM,ay,az,fh,ez,gm,hk,hl,hn])
        (with_reducible repeat' first|refine ak ?_|simp)
        (refine cN.at (aM p.2) (by simp) (by first|exact b8 _|exact b8 ‹_› _) (Same.keys (by simp[aM,ay,az]) (by simp[aM,ay,az])) (by simp only[aM,ay,az,bN,bT];exact aQ) (by simp only[aM,ay,az,bN,bT];exact aQ) ?_;simp[cT,nm,aV,aY,aU,inObs,Pv.look,aM,ay,az])
     |true=>
      have ts:(cW u cc.shaped).getD false=true:=by rw[←gm];exact hu
      rw[if_neg (by simp[hu]),mh]at a6;obtain⟨a,bW,c3⟩:=a6;have key:=DJ P2 u n _ _ _ _ bW;obtain⟨o,aO⟩:∃o,cW v cc.shape=o:=⟨_,rfl⟩;rw[aO]at key c3;obtain⟨ac,zO,GA⟩:=a;cases GA with
      |true=>
       simp at c3;subst c3;cases o;all_goals
        simp only[kR,mU]at key
        rcases yU with⟨rfl,rfl,bu⟩|⟨rfl,rfl,bu⟩
        all_goals
         (with_reducible repeat' first|refine ak ?_|simp[yX,bu,lC,ts,aO])
         (refine hO.ob (key) (by first|exact hQ _|exact hQ ‹_› _) (by first|exact hQ _|exact hQ ‹_› _) (Same.keys (by simp[eo,ay,az,fh,ez,gm,hk,hl,hn]) (by simp[eo,ay,az,fh,ez,gm,hk,hl,hn])) (by simp only[eo,ay,az,fh,ez,gm,hk,hl,hn,bN,bT];exact aQ) (by simp only[eo,ay,az,fh,ez,gm,hk,hl,hn,bN,bT];exact aQ) (by simp[inObs,Pv.look,eo,ay,az,fh,ez,gm,hk,hl,hn]) ?_;simp[cu,eo,ay,az,fh,ez,gm,hk,hl,hn])
         (with_reducible repeat' first|refine ak ?_|simp)
         (refine cN.at (aM ac) (by simp) (by first|exact b8 _|exact b8 ‹_› _) (Same.keys (by simp[aM,ay,az]) (by simp[aM,ay,az])) (by simp only[aM,ay,az,bN,bT];exact aQ) (by simp only[aM,ay,az,bN,bT];exact aQ) ?_;simp[cT,nm,aV,aY,aU,inObs,Pv.look,aM,ay,az])
      |false=>
       simp only[gI,if_false,mh]at c3;obtain⟨b,dV,nc⟩:=c3;have va:=DJ abF u n _ _ _ _ dV;rw[show ac.shp u=(cW u ac.shape).getD .nil from rfl]at va;obtain⟨GF,ak6,WA⟩:=b;cases WA with
       |true=>
        simp at nc;subst nc;cases o;all_goals
         simp only[kR,mU]at key
         rcases yU with⟨rfl,rfl,bu⟩|⟨rfl,rfl,bu⟩
         all_goals
          (with_reducible repeat' first|refine ak ?_|simp[yX,bu,lC,ts,aO])
          (refine hO.ob (key) (by first|exact hQ _|exact hQ ‹_› _) (by first|exact hQ _|exact hQ ‹_› _) (Same.keys (by simp[eo,ay,az,fh,ez,gm,hk,hl,hn]) (by simp[eo,ay,az,fh,ez,gm,hk,hl,hn])) (by simp only[eo,ay,az,fh,ez,gm,hk,hl,hn,bN,bT];exact aQ) (by simp only[eo,ay,az,fh,ez,gm,hk,hl,hn,bN,bT];exact aQ) (by simp[inObs,Pv.look,eo,ay,az,fh,ez,gm,hk,hl,hn]) ?_;simp[cu,eo,ay,az,fh,ez,gm,hk,hl,hn])
          (with_reducible repeat' first|refine ak ?_|simp)
          (refine hO.ob (va) (by first|exact hQ _|exact hQ ‹_› _) (by first|exact hQ _|exact hQ ‹_› _) (Same.keys (by simp[eo,ay,az]) (by simp[eo,ay,az])) (by simp only[eo,ay,az,bN,bT];exact aQ) (by simp only[eo,ay,az,bN,bT];exact aQ) (by simp[inObs,Pv.look,eo,ay,az]) ?_;simp[cu,eo,ay,az])
          (with_reducible repeat' first|refine ak ?_|simp)
          (refine cN.at (aM GF) (by simp) (by first|exact b8 _|exact b8 ‹_› _) (Same.keys (by simp[aM,ay,az]) (by simp[aM,ay,az])) (by simp only[aM,ay,az,bN,bT];exact aQ) (by simp only[aM,ay,az,bN,bT];exact aQ) ?_;simp[cT,nm,aV,aY,aU,inObs,Pv.look,aM,ay,az])
       |false=>
        simp only[gI,if_false]at nc;have I9:=bM _ _ _ _ nc;rw[show GF.shp u=(cW u GF.shape).getD .nil from rfl]at I9;cases o;all_goals
         simp only[kR,mU]at key I9
         rcases yU with⟨rfl,rfl,bu⟩|⟨rfl,rfl,bu⟩
         all_goals
          (with_reducible repeat' first|refine ak ?_|simp[yX,bu,lC,ts,aO])
          (refine hO.ob (key) (by first|exact hQ _|exact hQ ‹_› _) (by first|exact hQ _|exact hQ ‹_› _) (Same.keys (by simp[eo,ay,az,fh,ez,gm,hk,hl,hn]) (by simp[eo,ay,az,fh,ez,gm,hk,hl,hn])) (by simp only[eo,ay,az,fh,ez,gm,hk,hl,hn,bN,bT];exact aQ) (by simp only[eo,ay,az,fh,ez,gm,hk,hl,hn,bN,bT];exact aQ) (by simp[inObs,Pv.look,eo,ay,az,fh,ez,gm,hk,hl,hn]) ?_;simp[cu,eo,ay,az,fh,ez,gm,hk,hl,hn])
          (with_reducible repeat' first|refine ak ?_|simp)
          (refine hO.ob (va) (by first|exact hQ _|exact hQ ‹_› _) (by first|exact hQ _|exact hQ ‹_› _) (Same.keys (by simp[eo,ay,az]) (by simp[eo,ay,az])) (by simp only[eo,ay,az,bN,bT];exact aQ) (by simp only[eo,ay,az,bN,bT];exact aQ) (by simp[inObs,Pv.look,eo,ay,az]) ?_;simp[cu,eo,ay,az])
          (with_reducible repeat' first|refine ak ?_|simp)
          (refine hO.ob (I9) (by first|exact b8 _|exact b8 ‹_› _) (by first|exact b8 _|exact b8 ‹_› _) (Same.keys (by simp[aM,ay,az]) (by simp[aM,ay,az])) (by simp only[aM,ay,az,bN,bT];exact aQ) (by simp only[aM,ay,az,bN,bT];exact aQ) (by simp[inObs,Pv.look,aM,ay,az]) ?_;simp[cu,aM,ay,az])
          (with_reducible repeat' first|refine ak ?_|simp)
          (refine cN.at (aM p.2) (by simp) (by first|exact b8 _|exact b8 ‹_› _) (Same.keys (by simp[aM,ay,az]) (by simp[aM,ay,az])) (by simp only[aM,ay,az,bN,bT];exact aQ) (by simp only[aM,ay,az,bN,bT];exact aQ) ?_;simp[cT,nm,aV,aY,aU,inObs,Pv.look,aM,ay,az])
  have aK:∀i,a= .var i→b.kind≠1→bJ ao 218 [az,a.e,b.e] (aM c) fun r ai=>r= .bool p.1∧ai=aM p.2:=by
   rintro i rfl ae;have uM:((rt c i).bind fun p=>if p.2.shd p.1=false then tC n p.1 b p.2 else gk n (p.2.shp p.1) b p.2)=some p:=by cases b<;>first|exact he|simp at ae
   simp only[mh]at uM;obtain⟨⟨x,bE⟩,J,U⟩:=uM;simp only at U;have fL:(b.kind==1)=false:=by simp[ae]
   simp only[aM,ay]at ag⊢;refine bJ.mk mixed iX wi xk (by simp) ag.obj fun aR c1=>?_;unfold uv;simp[az];(with_reducible repeat' first|refine ak ?_|simp[fL,ae]);(refine c2.ob (qD c i x bE J) (by first|exact b8 _|exact b8 ‹_› _) (by simp only[aM,ay,az,bN,bT];exact aQ) (by simp only[aM,ay,az,bN,bT];exact aQ) (by simp[inObs,Pv.look,aM,ay,az]) ?_;rintro r ai ⟨rfl,rfl⟩;refine⟨(Same.keys (by simp[aM,ay,az]) (by simp[aM,ay,az])),?_⟩;simp[cu,aM,ay,az]);cases ad:bE.shd x with
   |false=>have hU:(cW x bE.shaped).getD false=false:=ad;rw[if_pos ad]at U;(with_reducible repeat' first|refine ak ?_|simp[hU]);(refine c2.ob (PK n x b bE p U) (by first|exact b8 _|exact b8 ‹_› _) (by simp only[aM,ay,az,bN,bT];exact aQ) (by simp only[aM,ay,az,bN,bT];exact aQ) (by simp[inObs,Pv.look,aM,ay,az]) ?_;rintro r ai ⟨rfl,rfl⟩;refine⟨(Same.keys (by simp[aM,ay,az]) (by simp[aM,ay,az])),?_⟩;simp[cu,aM,ay,az]);(refine cN.at (aM p.2) (by simp) (by first|exact b8 _|exact b8 ‹_› _) (Same.keys (by simp[aM,ay,az]) (by simp[aM,ay,az])) (by simp only[aM,ay,az,bN,bT];exact aQ) (by simp only[aM,ay,az,bN,bT];exact aQ) ?_;simp[cT,nm,aV,aY,aU,inObs,Pv.look,aM,ay,az])
   |true=>have hU:(cW x bE.shaped).getD false=true:=ad;rw[if_neg (by simp[ad])]at U;have key:=bM _ _ _ _ U;(with_reducible repeat' first|refine ak ?_|simp[hU]);(refine hO.ob (key) (by first|exact b8 _|exact b8 ‹_› _) (by first|exact b8 _|exact b8 ‹_› _) (Same.keys (by simp[aM,ay,az]) (by simp[aM,ay,az])) (by simp only[aM,ay,az,bN,bT];exact aQ) (by simp only[aM,ay,az,bN,bT];exact aQ) (by simp[inObs,Pv.look,aM,ay,az]) ?_;simp[cu,aM,ay,az]);(with_reducible repeat' first|refine ak ?_|simp);(refine cN.at (aM p.2) (by simp) (by first|exact b8 _|exact b8 ‹_› _) (Same.keys (by simp[aM,ay,az]) (by simp[aM,ay,az])) (by simp only[aM,ay,az,bN,bT];exact aQ) (by simp only[aM,ay,az,bN,bT];exact aQ) ?_;simp[cT,nm,aV,aY,aU,inObs,Pv.look,aM,ay,az])
  cases a with
  |var i=>
   cases b with
   |var j=>exact Bw i j rfl rfl
   |_=>exact aK i rfl (by simp)
  |pair bz a2=>
   cases b with
   |var j=>simp only[gk]at he;have key:=bM _ _ _ _ he;simp only[aM,ay]at ag⊢;refine bJ.mk mixed iX wi xk (by simp) ag.obj fun aR c1=>?_;unfold uv;simp[az];(refine c2.ob (key) (by first|exact b8 _|exact b8 ‹_› _) (by simp only[aM,ay,az,bN,bT];exact aQ) (by simp only[aM,ay,az,bN,bT];exact aQ) (by simp[inObs,Pv.look,aM,ay,az]) ?_;rintro r ai ⟨rfl,rfl⟩;refine⟨(Same.keys (by simp[aM,ay,az]) (by simp[aM,ay,az])),?_⟩;simp[cu,aM,ay,az]);(refine cN.at (aM p.2) (by simp) (by first|exact b8 _|exact b8 ‹_› _) (Same.keys (by simp[aM,ay,az]) (by simp[aM,ay,az])) (by simp only[aM,ay,az,bN,bT];exact aQ) (by simp only[aM,ay,az,bN,bT];exact aQ) ?_;simp[cT,nm,aV,aY,aU,inObs,Pv.look,aM,ay,az])
   |pair b9 bZ=>
    simp only[gk,mh]at he;obtain⟨⟨f1,bE⟩,J,U⟩:=he;have key:=bM _ _ _ _ J;simp only[aM,ay]at ag⊢;refine bJ.mk mixed iX wi xk (by simp) ag.obj fun aR c1=>?_;unfold uv;simp[az];(with_reducible repeat' first|refine ak ?_|simp);(refine hO.ob (key) (by first|exact b8 _|exact b8 ‹_› _) (by first|exact b8 _|exact b8 ‹_› _) (Same.keys (by simp[aM,ay,az]) (by simp[aM,ay,az])) (by simp only[aM,ay,az,bN,bT];exact aQ) (by simp only[aM,ay,az,bN,bT];exact aQ) (by simp[inObs,Pv.look,aM,ay,az]) ?_;simp[cu,aM,ay,az]);cases f1 with
    |false=>simp at U;subst U;(with_reducible repeat' first|refine ak ?_|simp);(refine cN.at (aM bE) (by simp) (by first|exact b8 _|exact b8 ‹_› _) (Same.keys (by simp[aM,ay,az]) (by simp[aM,ay,az])) (by simp only[aM,ay,az,bN,bT];exact aQ) (by simp only[aM,ay,az,bN,bT];exact aQ) ?_;simp[cT,nm,aV,aY,aU,inObs,Pv.look,aM,ay,az])
    |true=>simp at U;have va:=bM _ _ _ _ U;(with_reducible repeat' first|refine ak ?_|simp);(refine hO.ob (va) (by first|exact b8 _|exact b8 ‹_› _) (by first|exact b8 _|exact b8 ‹_› _) (Same.keys (by simp[aM,ay,az]) (by simp[aM,ay,az])) (by simp only[aM,ay,az,bN,bT];exact aQ) (by simp only[aM,ay,az,bN,bT];exact aQ) (by simp[inObs,Pv.look,aM,ay,az]) ?_;simp[cu,aM,ay,az]);(with_reducible repeat' first|refine ak ?_|simp);(refine cN.at (aM p.2) (by simp) (by first|exact b8 _|exact b8 ‹_› _) (Same.keys (by simp[aM,ay,az]) (by simp[aM,ay,az])) (by simp only[aM,ay,az,bN,bT];exact aQ) (by simp only[aM,ay,az,bN,bT];exact aQ) ?_;simp[cT,nm,aV,aY,aU,inObs,Pv.look,aM,ay,az])
   |_=>simp[gk]at he;subst he;simp only[aM,ay]at ag⊢;refine bJ.mk mixed iX wi xk (by simp) ag.obj fun aR c1=>?_;unfold uv;simp[az];(refine cN.at (aM c) (by simp) (by first|exact b8 _|exact b8 ‹_› _) (Same.keys (by simp[aM,ay,az]) (by simp[aM,ay,az])) (by simp only[aM,ay,az,bN,bT];exact aQ) (by simp only[aM,ay,az,bN,bT];exact aQ) ?_;simp[cT,nm,aV,aY,aU,inObs,Pv.look,aM,ay,az])
  |_=>
   cases b with
   |var j=>simp only[gk]at he;have key:=bM _ _ _ _ he;simp only[aM,ay]at ag⊢;refine bJ.mk mixed iX wi xk (by simp) ag.obj fun aR c1=>?_;unfold uv;simp[az];(refine c2.ob (key) (by first|exact b8 _|exact b8 ‹_› _) (by simp only[aM,ay,az,bN,bT];exact aQ) (by simp only[aM,ay,az,bN,bT];exact aQ) (by simp[inObs,Pv.look,aM,ay,az]) ?_;rintro r ai ⟨rfl,rfl⟩;refine⟨(Same.keys (by simp[aM,ay,az]) (by simp[aM,ay,az])),?_⟩;simp[cu,aM,ay,az]);(refine cN.at (aM p.2) (by simp) (by first|exact b8 _|exact b8 ‹_› _) (Same.keys (by simp[aM,ay,az]) (by simp[aM,ay,az])) (by simp only[aM,ay,az,bN,bT];exact aQ) (by simp only[aM,ay,az,bN,bT];exact aQ) ?_;simp[cT,nm,aV,aY,aU,inObs,Pv.look,aM,ay,az])
   |_=>
    simp[gk]at he;subst he;simp only[aM,ay]at ag⊢;refine bJ.mk mixed iX wi xk (by simp) ag.obj fun aR c1=>?_;unfold uv;simp[az];((with_reducible repeat' first|refine ak ?_|simp|((first|apply bO|apply bS|apply bR)<;>intro h<;>try simp at h))<;>(try exact cq));all_goals(refine cN.at (aM c) (by simp) (by first|exact b8 _|exact b8 ‹_› _) (Same.keys (by simp[aM,ay,az]) (by simp[aM,ay,az])) (by simp only[aM,ay,az,bN,bT];exact aQ) (by simp only[aM,ay,az,bN,bT];exact aQ) ?_;simp[cT,nm,aV,aY,aU,inObs,Pv.look,aM,ay,az])
    all_goals simp_all
def lL(c:bq):Prop:= ∀x,0≤c.sz x∧c.sz x≤5001
theorem lL.rt{c:bq}(h:lL c){v r:Int}{ch:bq}(he:rt c v=some (r,ch)):lL ch:=by simp only[Pv.rt,gA,jb]at he;obtain⟨p,_,_,rfl⟩:=he;exact h
theorem lL.put{c:bq}(h:lL c){x k:Int}(ab:0≤k∧k≤5001)(m:List (Int×Int)):lL {c with size:=eH x k c.size,color:=m}:=fun z=>by
 show 0≤(cW z (eH x k c.size)).getD 0∧(cW z (eH x k c.size)).getD 0≤5001;rw[mO];split
 ·exact ab
 ·exact h z
theorem abo(c:bq)(v:Int)(p:Int×bq)(he:xE v c=some p):bJ ao 259 [.int .i64 v,.eptr az] (aM c) fun r ai=>r= .int .i64 p.1∧ai=aM p.2:=by have ag:=b8 c;simp only[xE,gA]at he;obtain⟨⟨r,bE⟩,J,rfl⟩:=he;simp only[aM,ay]at ag⊢;refine bJ.mk mixed iX Y5 afs (by simp) ag.obj fun aR c1=>?_;unfold MU;simp[az];(refine hO.ob (qD c v r bE J) (by first|exact b8 _|exact b8 ‹_› _) (by first|exact b8 _|exact b8 ‹_› _) (Same.keys (by simp[aM,ay,az]) (by simp[aM,ay,az])) (by simp only[aM,ay,az,bN,bT];exact aQ) (by simp only[aM,ay,az,bN,bT];exact aQ) (by simp[inObs,Pv.look,aM,ay,az]) ?_;simp[cu,aM,ay,az]);(with_reducible repeat' first|refine ak ?_|simp);(refine cN.at (aM bE) (by simp) (by first|exact b8 _|exact b8 ‹_› _) (Same.keys (by simp[aM,ay,az]) (by simp[aM,ay,az])) (by simp only[aM,ay,az,bN,bT];exact aQ) (by simp only[aM,ay,az,bN,bT];exact aQ) ?_;simp[cT,Tz,aV,aY,aU,inObs,Pv.look,aM,ay,az]);all_goals rfl
def gb(a:bq×Bool):cF:=⟨ay a.1++[(.obj 712,[.bool a.2])],[]⟩
theorem pP(a):ee (gb a):=by unfold gb ay;exact ee.of ⟨by intro m;simp[Pv.look],by intro m;simp[Pv.look]⟩ (by simp) (by simp)
theorem V8(a b):Same (gb a) (gb b):=Same.keys (by simp[gb,ay]) (by simp[gb,ay])
theorem abn(n:Nat)(uW:∀x c p,pF n x c=some p→lL c→lL p.2∧bJ ao 248 [az,.int .i64 x] (aM c) fun r ai=>r= .bool p.1∧ai=aM p.2)
  (v:Int) (a bj:bq×Bool) (bC:lL a.1) (he:xQ (pF n) v a=some bj):lL bj.1∧bJ ao 258 [.int .i64 v,.ptr (.obj 712) 0,.eptr az] (gb a) fun r ai=>r= .tuple []∧ai=gb bj:=by
 have ag:=pP a;obtain⟨c,f⟩:=a;cases f with
 |false=>simp[xQ]at he;subst he;refine⟨bC,?_⟩;simp only[gb,ay,bN,bT]at ag⊢;refine bJ.mk mixed iX Pb SQ (by simp) ag.obj fun aR c1=>?_;unfold GP;simp[az];(with_reducible repeat' first|refine ak ?_|simp);(refine cN.at (gb (c,false)) (by simp) (by first|exact pP _|exact pP ‹_› _) (Same.keys (by simp[gb,ay,az]) (by simp[gb,ay,az])) (by simp only[gb,ay,az,bN,bT];exact aQ) (by simp only[gb,ay,az,bN,bT];exact aQ) ?_;simp[cT,Fi,aV,aY,aU,inObs,Pv.look,gb,ay,az])
 |true=>
  simp only[xQ,if_true,mh,gA]at he;obtain⟨⟨r,bE⟩,J,⟨f2,cc⟩,U,rfl⟩:=he;obtain⟨z2,key⟩:=uW _ _ _ U (bC.rt J);refine⟨z2,?_⟩;simp only[gb,ay,bN,bT]at ag⊢;refine bJ.mk mixed iX Pb SQ (by simp) ag.obj fun aR c1=>?_;unfold GP;simp[az];(with_reducible repeat' first|refine ak ?_|simp);(refine hO.ob (qD c v r bE J) (by first|exact b8 _|exact b8 ‹_› _) (by first|exact b8 _|exact b8 ‹_› _) (Same.keys (by simp[aM,ay,az]) (by simp[aM,ay,az])) (by simp only[aM,ay,az,bN,bT];exact aQ) (by simp only[aM,ay,az,bN,bT];exact aQ) (by simp[inObs,Pv.look,aM,ay,az]) ?_;simp[cu,aM,ay,az]);(with_reducible repeat' first|refine ak ?_|simp);(refine hO.ob (key) (by first|exact b8 _|exact b8 ‹_› _) (by first|exact b8 _|exact b8 ‹_› _) (Same.keys (by simp[aM,ay,az]) (by simp[aM,ay,az])) (by simp only[aM,ay,az,bN,bT];exact aQ) (by simp only[aM,ay,az,bN,bT];exact aQ) (by simp[inObs,Pv.look,aM,ay,az]) ?_;simp[cu,aM,ay,az]);cases f2 with
  |true=>(with_reducible repeat' first|refine ak ?_|simp);(refine cN.at (gb (cc,true)) (by simp) (by first|exact pP _|exact pP ‹_› _) (Same.keys (by simp[gb,ay,az]) (by simp[gb,ay,az])) (by simp only[gb,ay,az,bN,bT];exact aQ) (by simp only[gb,ay,az,bN,bT];exact aQ) ?_;simp[cT,Fi,aV,aY,aU,inObs,Pv.look,gb,ay,az])
  |false=>(with_reducible repeat' first|refine ak ?_|simp);(refine cN.at (gb (cc,false)) (by simp) (by first|exact pP _|exact pP ‹_› _) (Same.keys (by simp[gb,ay,az]) (by simp[gb,ay,az])) (by simp only[gb,ay,az,bN,bT];exact aQ) (by simp only[gb,ay,az,bN,bT];exact aQ) ?_;simp[cT,Fi,aV,aY,aU,inObs,Pv.look,gb,ay,az])
theorem abm(n:Nat):∀(x:Int) (c:bq) (p:Bool×bq),pF n x c=some p→lL c→lL p.2∧bJ ao 248 [az,.int .i64 x] (aM c) fun r ai=>r= .bool p.1∧ai=aM p.2:=by
 induction n with
 |zero=>intro x c p h;simp[pF]at h
 |succ n bM=>
  intro x c p he bC;have ag:=b8 c;simp only[pF]at he;by_cases U:c.col x=2
  ·rw[if_pos U]at he;cases he;have AQ:iB c.color x=2:=U;refine⟨bC,?_⟩;simp only[aM,ay]at ag⊢;refine bJ.mk mixed iX AB B0 (by simp) ag.obj fun aR c1=>?_;unfold x7;simp[az];(with_reducible repeat' first|refine ak ?_|simp[AQ]);(refine cN.at (aM c) (by simp) (by first|exact b8 _|exact b8 ‹_› _) (Same.keys (by simp[aM,ay,az]) (by simp[aM,ay,az])) (by simp only[aM,ay,az,bN,bT];exact aQ) (by simp only[aM,ay,az,bN,bT];exact aQ) ?_;simp[cT,zx,aV,aY,aU,inObs,Pv.look,aM,ay,az])
  rw[if_neg U]at he;have AQ:(iB c.color x==2)=false:=by simp;exact U
  by_cases J:c.col x=1
  ·rw[if_pos J]at he;cases he;have nb:iB c.color x=1:=J;refine⟨bC,?_⟩;simp only[aM,ay]at ag⊢;refine bJ.mk mixed iX AB B0 (by simp) ag.obj fun aR c1=>?_;unfold x7;simp[az];(with_reducible repeat' first|refine ak ?_|simp[nb]);(refine cN.at (aM c) (by simp) (by first|exact b8 _|exact b8 ‹_› _) (Same.keys (by simp[aM,ay,az]) (by simp[aM,ay,az])) (by simp only[aM,ay,az,bN,bT];exact aQ) (by simp only[aM,ay,az,bN,bT];exact aQ) ?_;simp[cT,zx,aV,aY,aU,inObs,Pv.look,aM,ay,az])
  rw[if_neg J]at he;have nb:(iB c.color x==1)=false:=by simp;exact J
  have Q7:lL (c.grey x):=bC.put (by omega) _;cases lB:(c.grey x).shd x with
  |false=>rw[if_pos lB]at he;cases he;have r6:(cW x c.shaped).getD false=false:=lB;refine⟨Q7,?_⟩;simp only[aM,ay]at ag⊢;refine bJ.mk mixed iX AB B0 (by simp) ag.obj fun aR c1=>?_;unfold x7;simp[az];(with_reducible repeat' first|refine ak ?_|simp[AQ,nb,r6]);(refine cN.at (aM ((c.grey x).black x)) (by simp) (by first|exact b8 _|exact b8 ‹_› _) (Same.keys (by simp[aM,ay,az,bq.grey,bq.black]) (by simp[aM,ay,az,bq.grey,bq.black])) (by simp only[aM,ay,az,bq.grey,bq.black,bN,bT];exact aQ) (by simp only[aM,ay,az,bq.grey,bq.black,bN,bT];exact aQ) ?_;simp[cT,zx,aV,aY,aU,inObs,Pv.look,aM,ay,az,bq.grey,bq.black])
  |true=>
   rw[if_neg (by simp[lB]),mh]at he;have r6:(cW x c.shaped).getD false=true:=lB;obtain⟨⟨e,f⟩,al,a6⟩:=he;simp only at a6;obtain⟨VO,key⟩:=PH gb pP V8 258 [.ptr (.obj 712) 0,.eptr az] (fun a=>by simp[gb,ay,az,inObs,Pv.look]) rfl (fun a=>lL a.1) (xQ (pF n)) (fun v a bj bC h=>abn n bM v a bj bC h) _ _ _ Q7 al;rw[show(c.grey x).shp x=(cW x c.shape).getD .nil from rfl]at key;cases f with
   |false=>simp at a6;subst a6;refine⟨VO,?_⟩;simp only[aM,ay]at ag⊢;refine bJ.mk mixed iX AB B0 (by simp) ag.obj fun aR c1=>?_;unfold x7;simp[az];(with_reducible repeat' first|refine ak ?_|simp[AQ,nb,r6]);(refine c2.ob (key) (by first|exact pP _|exact pP ‹_› _) (by simp only[gb,ay,az,bq.grey,bN,bT];exact aQ) (by simp only[gb,ay,az,bq.grey,bN,bT];exact aQ) (by simp[inObs,Pv.look,gb,ay,az,bq.grey]) ?_;rintro r ai ⟨rfl,rfl⟩;refine⟨(Same.keys (by simp[gb,ay,az,bq.grey]) (by simp[gb,ay,az,bq.grey])),?_⟩;simp[cu,gb,ay,az,bq.grey]);(with_reducible repeat' first|refine ak ?_|simp);(refine cN.at (aM e) (by simp) (by first|exact b8 _|exact b8 ‹_› _) (Same.keys (by simp[aM,ay,az]) (by simp[aM,ay,az])) (by simp only[aM,ay,az,bN,bT];exact aQ) (by simp only[aM,ay,az,bN,bT];exact aQ) ?_;simp[cT,zx,aV,aY,aU,inObs,Pv.look,aM,ay,az])
   |true=>
    rw[if_neg (by simp),gA]at a6;obtain⟨⟨k,aC⟩,bW,rfl⟩:=a6;obtain⟨z2,bZ,va⟩:=abd aM b8 CX 259 [.eptr az] (fun a=>by simp[aM,ay,az,inObs,Pv.look]) rfl lL xE (fun v a p bC h=>by simp only[xE,gA]at h;obtain⟨⟨r,bE⟩,J,rfl⟩:=h;exact⟨bC.rt J,(bC.rt J r).1,Int.le_trans (bC.rt J r).2 (by omega)⟩) (fun v a p _ h=>abo a v p h) _ _ _ VO bW
    rw[show bq.shp e x=(cW x e.shape).getD .nil from rfl]at va;refine⟨z2.put bZ _,?_⟩;simp only[aM,ay]at ag⊢;refine bJ.mk mixed iX AB B0 (by simp) ag.obj fun aR c1=>?_;unfold x7;simp[az];(with_reducible repeat' first|refine ak ?_|simp[AQ,nb,r6]);(refine c2.ob (key) (by first|exact pP _|exact pP ‹_› _) (by simp only[gb,ay,az,bq.grey,bN,bT];exact aQ) (by simp only[gb,ay,az,bq.grey,bN,bT];exact aQ) (by simp[inObs,Pv.look,gb,ay,az,bq.grey]) ?_;rintro r ai ⟨rfl,rfl⟩;refine⟨(Same.keys (by simp[gb,ay,az,bq.grey]) (by simp[gb,ay,az,bq.grey])),?_⟩;simp[cu,gb,ay,az,bq.grey]);(with_reducible repeat' first|refine ak ?_|simp);(refine hO.ob (va) (by first|exact b8 _|exact b8 ‹_› _) (by first|exact b8 _|exact b8 ‹_› _) (Same.keys (by simp[aM,ay,az]) (by simp[aM,ay,az])) (by simp only[aM,ay,az,bN,bT];exact aQ) (by simp only[aM,ay,az,bN,bT];exact aQ) (by simp[inObs,Pv.look,aM,ay,az]) ?_;simp[cu,aM,ay,az]);(with_reducible repeat' first|refine ak ?_|simp);(refine cN.at (aM (({aC with size:=eH x k aC.size}:bq).black x)) (by simp) (by first|exact b8 _|exact b8 ‹_› _) (Same.keys (by simp[aM,ay,az,bq.black]) (by simp[aM,ay,az,bq.black])) (by simp only[aM,ay,az,bq.black,bN,bT];exact aQ) (by simp only[aM,ay,az,bq.black,bN,bT];exact aQ) ?_;simp[cT,zx,aV,aY,aU,inObs,Pv.look,aM,ay,az,bq.black])
theorem abl(n:Nat)(uW:∀x c p,pE n x c=some p→bJ ao 249 [az,.int .i64 x] (aM c) fun r ai=>r=p.1.e∧ai=aM p.2)
  (v:Int) (c:bq) (p:T×bq) (he:z6 (pE n) v c=some p):bJ ao 260 [.int .i64 v,.eptr az] (aM c) fun r ai=>r= .tuple [p.1.e,.bool true]∧ai=aM p.2:=by
 have ag:=b8 c;simp only[z6,mh]at he;obtain⟨⟨r,bE⟩,J,U⟩:=he;have key:=uW _ _ _ U;simp only[aM,ay]at ag⊢;refine bJ.mk mixed iX Y4 afr (by simp) ag.obj fun aR c1=>?_;unfold MT;simp[az];(with_reducible repeat' first|refine ak ?_|simp);(refine hO.ob (qD c v r bE J) (by first|exact b8 _|exact b8 ‹_› _) (by first|exact b8 _|exact b8 ‹_› _) (Same.keys (by simp[aM,ay,az]) (by simp[aM,ay,az])) (by simp only[aM,ay,az,bN,bT];exact aQ) (by simp only[aM,ay,az,bN,bT];exact aQ) (by simp[inObs,Pv.look,aM,ay,az]) ?_;simp[cu,aM,ay,az]);(with_reducible repeat' first|refine ak ?_|simp);(refine hO.ob (key) (by first|exact b8 _|exact b8 ‹_› _) (by first|exact b8 _|exact b8 ‹_› _) (Same.keys (by simp[aM,ay,az]) (by simp[aM,ay,az])) (by simp only[aM,ay,az,bN,bT];exact aQ) (by simp only[aM,ay,az,bN,bT];exact aQ) (by simp[inObs,Pv.look,aM,ay,az]) ?_;simp[cu,aM,ay,az]);(with_reducible repeat' first|refine ak ?_|simp);(refine cN.at (aM p.2) (by simp) (by first|exact b8 _|exact b8 ‹_› _) (Same.keys (by simp[aM,ay,az]) (by simp[aM,ay,az])) (by simp only[aM,ay,az,bN,bT];exact aQ) (by simp only[aM,ay,az,bN,bT];exact aQ) ?_;simp[cT,Ty,aV,aY,aU,inObs,Pv.look,aM,ay,az])
theorem ku(n:Int):bI ao 116 [.int .i64 n] (T.var n).e:=by refine br iX Zo afL fun aR=>?_;unfold Nd;exact ct
theorem abk(n:Nat):∀(x:Int) (c:bq) (p:T×bq),pE n x c=some p→bJ ao 249 [az,.int .i64 x] (aM c) fun r ai=>r=p.1.e∧ai=aM p.2:=by
 induction n with
 |zero=>intro x c p h;simp[pE]at h
 |succ n bM=>
  intro x c p he;have ag:=b8 c;simp only[pE]at he;cases aI:cW x c.full with
  |some t=>rw[aI]at he;cases he;simp only[aM,ay]at ag⊢;refine bJ.mk mixed iX Hu JS (by simp) ag.obj fun aR c1=>?_;unfold Db;simp[az];(with_reducible repeat' first|refine ak ?_|simp[aI]);(refine cN.at (aM c) (by simp) (by first|exact b8 _|exact b8 ‹_› _) (Same.keys (by simp[aM,ay,az]) (by simp[aM,ay,az])) (by simp only[aM,ay,az,bN,bT];exact aQ) (by simp only[aM,ay,az,bN,bT];exact aQ) ?_;simp[cT,Fh,aV,aY,aU,inObs,Pv.look,aM,ay,az])
  |none=>
   rw[aI]at he;simp only at he;cases lB:c.shd x with
   |false=>have r6:(cW x c.shaped).getD false=false:=lB;rw[if_pos lB]at he;cases he;simp only[aM,ay]at ag⊢;refine bJ.mk mixed iX Hu JS (by simp) ag.obj fun aR c1=>?_;unfold Db;simp[az];(with_reducible repeat' first|refine ak ?_|refine aE (ku _) ?_|refine aF (ku _) ?_|simp[aI,r6]);(refine cN.at (aM {c with full:=eH x (.var x) c.full}) (by simp) (by first|exact b8 _|exact b8 ‹_› _) (Same.keys (by simp[aM,ay,az]) (by simp[aM,ay,az])) (by simp only[aM,ay,az,bN,bT];exact aQ) (by simp only[aM,ay,az,bN,bT];exact aQ) ?_;simp[cT,Fh,aV,aY,aU,inObs,Pv.look,aM,ay,az])
   |true=>have r6:(cW x c.shaped).getD false=true:=lB;rw[if_neg (by simp[lB]),gA]at he;obtain⟨⟨t,bE⟩,J,rfl⟩:=he;have key:=aa0 aM b8 CX 260 [.eptr az] (fun a=>by simp[aM,ay,az,inObs,Pv.look]) rfl (z6 (pE n)) (fun v a p h=>abl n bM v a p h) _ _ _ J;rw[show c.shp x=(cW x c.shape).getD .nil from rfl]at key;simp only[aM,ay]at ag⊢;refine bJ.mk mixed iX Hu JS (by simp) ag.obj fun aR c1=>?_;unfold Db;simp[az];(with_reducible repeat' first|refine ak ?_|refine aE (ku _) ?_|refine aF (ku _) ?_|simp[aI,r6]);(refine c2.ob (key) (by first|exact b8 _|exact b8 ‹_› _) (by simp only[aM,ay,az,bN,bT];exact aQ) (by simp only[aM,ay,az,bN,bT];exact aQ) (by simp[inObs,Pv.look,aM,ay,az]) ?_;rintro r ai ⟨rfl,rfl⟩;refine⟨(Same.keys (by simp[aM,ay,az]) (by simp[aM,ay,az])),?_⟩;simp[cu,aM,ay,az]);(with_reducible repeat' first|refine ak ?_|simp);(refine cN.at (aM {bE with full:=eH x t bE.full}) (by simp) (by first|exact b8 _|exact b8 ‹_› _) (Same.keys (by simp[aM,ay,az]) (by simp[aM,ay,az])) (by simp only[aM,ay,az,bN,bT];exact aQ) (by simp only[aM,ay,az,bN,bT];exact aQ) ?_;simp[cT,Fh,aV,aY,aU,inObs,Pv.look,aM,ay,az])
theorem aa2:bJ ao 215 [] ⟨[],[]⟩ fun r ai=>r=az∧ai=aM bq.new:=by have ag:ee ⟨[],[]⟩:=ee.of xh (by simp) (by simp);refine bJ.mk mixed iX Zc afz (by simp) ag.obj fun aR c1=>?_;unfold M1;simp;refine cN.new (aM bq.new) (.inl rfl) (b8 _) ⟨trivial,trivial⟩ (by simp only[aM,ay,bq.new];exact aQ) (by simp only[aM,ay,bq.new];exact aQ) ?_;simp[cT,TF,aV,aY,aU,inObs,Pv.look,aM,ay,az]
theorem Uz{a b:List Int}(h:a.Perm b):qh a=qh b:=by
 have aO:∀a b c:Int,(decide (a≤b))=true→(decide (b≤c))=true→(decide (a≤c))=true:=by intro a b c;simp;omega
 have yT:∀a b:Int,(decide (a≤b)||decide (b≤a))=true:=by intro a b;simp;omega
 have J:=List.pairwise_mergeSort aO yT a;have U:=List.pairwise_mergeSort aO yT b;refine LN (le:=fun x y:Int=>(decide (x≤y))=true) (fun x y _ _ J U=>by simp at J U;omega) J U ?_;exact(List.mergeSort_perm a _).trans (h.trans (List.mergeSort_perm b _).symm)
def adD(l:List Int)(k:Nat)(st:bo):Prop:=∃(seen:List Nat) (xs:List Int),seen.Nodup∧(∀b∈seen,b<l.length)∧k=l.length-seen.length∧xs=seen.filterMap (fun b=>l[b]?)∧xs.length=seen.length∧st=⟨[(3,.row 1 (.obj 306) xs.length),(7,.ptr (.loc 0) 0)],[(.obj 304,nE l),(.loc 0,cf l.length seen (.obj 304))],[(.obj 306,⟨xs.length,3,1,some (ef xs)⟩)],1,[.obj 306,.obj 304]⟩
@[simp] theorem amz(xs:List Int):(ef xs).length=xs.length:=by simp[ef]
@[simp] theorem aph(xs:List Int):cU (ef xs)=ef xs:=by
 induction xs with
 |nil=>rfl
 |cons x r bM=>simp only[ef,gX,cU,dn]at bM⊢;rw[bM]
@[simp] theorem amA:ef []=[]:=rfl
theorem ady(xs:List Int)(x:Int):ef xs++[ah.int .i64 x]=ef (xs++[x]):=by simp[ef]
theorem abj(l:List Int)(au:l.length≤1000000):bJ ao 136 [.gmap (.obj 304)] (sN l) fun r ai=>r= .slice 1 .no (ef (qh l))∧ai=sN l:=by
 have ag:=LW l;unfold sN at ag⊢;refine bJ.mk mixed gh Zm afJ (by simp) ag.obj fun aR c1=>?_;unfold Nb;simp;refine s5 (adD l) l.length _ ⟨by simp[fresh,aH,aB,cf,inObs,Pv.look,l4,sc],eh (by simp[fresh,aH,aB,cf,inObs,Pv.look,l4,sc]),ei (by simp[fresh,aH,aB,dN,inObs,Pv.look,l4,sc]),by simp⟩ ⟨[],[],by simp,by simp,by simp,by simp,by simp,rfl⟩ ?_;rintro k st ⟨seen,xs,aP,bu,ab,hV,jM,rfl⟩ p1 c1;clear p1 c1;have hle:=FK aP bu;simp;refine XP (mk:= .obj 304) (seen:=seen) (l:=l) (by simp) (by simp) rfl (fun kX=>?_) (fun b x ad ae=>?_)
 ·simp;have uV:=KV aP bu kX;rw[←hV]at uV;refine c2.ob (abh 306 xs (by omega)) (Gm 306 xs) (by unfold mj;exact aQ) (by unfold mj;exact aQ) (by simp[mj,inObs,Pv.look]) ?_;rintro r ai ⟨rfl,rfl⟩;refine⟨⟨fun _=>rfl,fun k=>by simp only[mj,Pv.look];split<;>rfl⟩,?_⟩;unfold mj;simp[cu,Uy];refine cN.at _ (.inl rfl) ag (Same.refl _) aQ aQ ?_;simp[cT,TK,aV,aY,aU];rw[Uz uV];simp[aB,sc]
 ·have yK:∀f:aD→aW (List ah),f (.loc 0)=some (cf l.length (seen++[b]) (.obj 304))→f (.obj 304)=some (nE l)→oN f (.ptr (.loc 0) 0)=some (True,.tuple [.int .i64 x,.bool true]):=fun f J U=>aes f (.loc 0) (.obj 304) l.length seen b l x J U rfl ad;have fs:b<l.length:=(fH.1 ad).1;have pb:=KW aP bu fs ae;simp[yK,ady];refine⟨by unfold lim;omega,?_⟩;refine bL.next (l.length-(seen.length+1)) (by omega) ⟨seen++[b],xs++[x],JO aP ae,(by simp;intro c aw;rcases aw with aw|rfl;exact bu c aw;exact fs),by simp,by rw[List.filterMap_append,←hV];simp[ad],by simp[jM],rfl⟩ ⟨by simp[fresh,aH,aB,cf,inObs,Pv.look,l4,sc],eh (by simp[fresh,aH,aB,cf,inObs,Pv.look,l4,sc]),ei (by simp[fresh,aH,aB,dN,inObs,Pv.look,l4,sc]),by simp⟩
@[simp] theorem amP(S:aD→Prop)(xs:List Int):aH S (ef xs)=True:=eq_true (sc S xs)
@[simp] theorem alq:cells .junk=[.junk]:=rfl
def Na:C:=(aa [eO 6 5,bm 7 false] (aa [dE 12 215 [],I 8 12] (.seq (aa [I 13 0,cn 14 13,bV 15 0] (fG 16 15 14 (.seq (.block 1 (aa [cv 17 5 13 15,be 18 5 17,dL 10 jO,b1 5 10 18] (aa [I 19 8,aG 20 0 1 10,ax 21 1 20,cl 22 216 19 21] (aa [I 23 8,hG 24 1 4 10,be 25 4 24,cl 26 217 23 25] (.seq (.drawn false 69 [I 27 8,aG 28 0 1 10,ax 29 1 28,c7 30 116 29,hG 31 1 4 10,be 32 4 31,dE 33 218 [.t 27,.t 30,.t 32],cB 34 33]) (aT 34 (aa [eO 6 5,bm 7 false] .ret) .skip)))))) (.region [aS 35 .add 15 1,I 15 35])))) (.seq (aa [I 36 1,cn 37 36,bV 38 0] (.block 2 (.loop (aa [bk 39 .lss 38 37] (.seq (aT 39 .skip (.exit 2)) (.seq (.block 3 (aa [I 40 38,I 11 40] (aa [I 41 8,I 42 1,I 43 11,cv 44 4 42 43,be 45 4 44,cl 46 217 41 45] (aa [I 47 8,I 48 2,I 49 11,cv 50 4 48 49,be 51 4 50,cl 52 217 47 51] (.seq (.drawn false 69 [I 53 8,I 54 1,I 55 11,cv 56 4 54 55,be 57 4 56,I 58 2,I 59 11,cv 60 4 58 59,be 61 4 60,dE 62 218 [.t 53,.t 57,.t 61],cB 63 62]) (aT 63 (aa [eO 6 5,bm 7 false] .ret) .skip)))))) (.region [aS 64 .add 38 1,I 38 64]))))))) (aa [I 65 8,c7 66 219 65,cV 67 0 66,cV 68 1 66,I 6 67,I 7 68] .ret)))))
@[simp] def Kk:List bK:=[.tmp 6,.tmp 7]
def MS:C:=(aa [eO 2 5,bm 3 false] (aa [cX (.mkmap 12 (some 304)),I 4 12] (.seq (aa [I 13 0,fo 14 13,aG 15 0 1 14,ax 16 1 15,cX (.range 17 none (.t 16))] (.block 0 (.loop (aa [⟨none,.next 18 (.t 17)⟩,cV 19 0 18] (.seq (aT 19 .skip (.exit 0)) (.block 1 (aa [b0 20 (.ment (.t 17)),cV 21 0 20,I 5 21] (.region [I 22 4,I 23 5,cX (.mput .i (.t 22) (.t 23) (.c (.bool true)))])))))))) (aa [I 24 4,c7 25 136 24,I 6 25] (aa [cX (.bslm 26 none 5 113 []),I 7 26] (.seq (aa [I 27 6,cn 28 27,bV 29 0] (.block 2 (.loop (aa [bk 30 .lss 29 28] (.seq (aT 30 .skip (.exit 2)) (.seq (.block 3 (aa [cv 31 1 27 29,ax 32 1 31,I 9 32] (aa [I 33 0,I 34 9,cl 35 216 33 34,I 10 35] (.seq (aa [I 36 0,I 37 10,cl 38 248 36 37,cB 39 38] (aT 39 (aa [eO 2 5,bm 3 false] .ret) .skip)) (.seq (aa [I 40 10,I 41 9,bk 42 .eql 40 41,I 43 42,b3 43 true 44 0,ar 43 true (fo 45 44),ar 43 true (aG 46 2 1 45),ar 43 true (ax 47 1 46),b3 43 true 48 10,ar 43 true (b0 49 (.mget .i (.bool false) false (.t 47) (.t 48))),ar 43 true (cB 50 49),dH 51 43 50] (aT 51 (.exit 3) .skip)) (aa [I 52 7,I 53 9,kO 54 jO [(0,1,(.t 53))],fC 55 5 113 [.t 54],cX (.appm 56 none 5 113 (.t 52) (.t 55)),I 7 56] (aa [I 57 0,fo 58 57,aG 59 4 1 58,ax 60 1 59,I 61 10,b0 62 (.mget .i (.int .i64 0) false (.t 60) (.t 61)),aS 63 .gtr 62 5000,I 64 63,b3 64 false 65 7,ar 64 false (cn 66 65),ar 64 false (aS 67 .gtr 66 400),df 68 64 67] (aT 68 (aa [eO 2 5,bm 3 false] .ret) .skip)))))))) (.region [aS 69 .add 29 1,I 29 69]))))))) (.seq (aa [I 70 7,cn 71 70,bV 72 0] (.block 4 (.loop (aa [bk 73 .lss 72 71] (.seq (aT 73 .skip (.exit 4)) (.seq (.block 5 (aa [I 74 72,I 11 74] (.region [I 75 7,I 76 11,I 77 0,I 78 0,I 79 7,I 80 11,cv 81 5 79 80,aG 82 0 1 81,ax 83 1 82,cl 84 216 78 83,cl 85 249 77 84,c7 86 143 85,cv 87 5 75 76,hG 88 1 4 87,b1 4 88 86]))) (.region [aS 89 .add 72 1,I 72 89]))))))) (.seq (.pub 7 (.region [I 90 7,I 2 90,bm 3 true])) .ret))))))))
@[simp] def Fg:List bK:=[.tmp 2,.tmp 3]
def Lj:List (Nat×dB):=[
 (3,⟨1,8,.int .i64,.int .i64 0⟩),
 (4,⟨1,1,.bool,.bool false⟩),
 (27,⟨1,24,.slice 30,.slice 4 .nil []⟩),
 (30,⟨4,56,.struct [(0,3),(1,3),(2,9),(3,27)],.agg [.int .i64 0,.int .i64 0,.str [],.slice 4 .nil []]⟩),
 (46,⟨1,24,.slice 113,.slice 5 .nil []⟩),
 (76,⟨1,24,.slice 3,.slice 1 .nil []⟩),
 (113,⟨5,64,.struct [(0,3),(1,30)],.agg [.int .i64 0,.int .i64 0,.int .i64 0,.str [],.slice 4 .nil []]⟩),
 (136,⟨1,8,.map 3 4,.junk⟩),
 (216,⟨1,8,.map 3 3,.junk⟩),
 (219,⟨6,48,.struct [(0,216),(1,217),(2,136),(3,216),(4,216),(5,217)],.agg [.junk,.junk,.junk,.junk,.junk,.junk]⟩)]
theorem U4:fN ao Lj=true:=by kernel_rfl
theorem afI:b5 Lj Na Kk 3 Tryz.f186=true:=by kernel_rfl
theorem Zl:ao.funcs[(186:Nat)]? =some Tryz.f186:=Tryz.func186
theorem afq:b5 Lj MS Fg 1 Tryz.f219=true:=by kernel_rfl
theorem Y3:ao.funcs[(219:Nat)]? =some Tryz.f219:=Tryz.func219
def ga(o:aW (List aq)):ah:= .tuple [.slice 5 .no ((o.getD []).map aq.e),.bool o.isSome]
theorem aeu(f:aD→aW (List ah))(fb mk:aD)(n:Nat)(seen:List Nat)(b:Nat)(l:List (Int×Int))(x:Int×Int)(hi:f fb=some (cf n (seen++[b]) mk))(hm:f mk=some (mH l))(aA:n=l.length)(ad:l[b]? =some x):oN f (.ptr fb 0)=some (True,.tuple [.int .i64 x.1,.int .i64 x.2]):=by rw[Ss f fb mk n seen b _ hi hm (by simpa using aA)];simp[ad]
theorem XQ{st:bo}{d:Nat}{K:bo→Prop}{fb mk:aD}{n:Nat}{seen:List Nat}{l:List (Int×Int)}(hi:Pv.look fb st.b=some (cf n seen mk))(hm:Pv.look mk st.b=some (mH l))(aA:n=l.length)
  (J:(∀b,b<l.length→b∈seen)→K {st with t:=Pv.put d (.tuple [.bool false]) st.t}) (U:∀b x,l[b]? =some x→b∉seen→K {st with t:=Pv.put d (.tuple [.bool true,.int .i64 x.1,.int .i64 x.2]) st.t,b:=cw fb (cf n (seen++[b]) mk) st.b}):
  rP st d (.ptr fb 0) K:=by
 refine O3 hi hm (by simpa using aA) (fun h=>J fun b ae=>h b (by omega)) (fun b k v ae ag=>?_);simp only[List.getElem?_map,gA]at ae;obtain⟨x,aj,aC⟩:=ae;simp only[jb]at aC;obtain⟨rfl,rfl⟩:=aC;exact U b x aj ag
@[simp] theorem aor(m:aD)(l:List (Int×Int)):vw m (mH l)=some (cf l.length [] m):=by simp[mH,q5]
def mX(v:Int):ah:= .agg [.int .i64 v,.int .i64 0,.int .i64 0,.str [],.slice 4 .nil []]
@[simp] theorem adW(S:aD→Prop)(l:List Int):aH S (l.map mX)=True:=by
 apply eq_true;induction l with
 |nil=>simp[aH]
 |cons x r bM=>simp only[gX,aH];exact⟨by simp[mX,aB,aH],bM⟩
@[simp] theorem am3(S:aD→Prop)(v:Int):aB S (mX v)=True:=by simp[mX,aB,aH]
@[simp] theorem aoB(v:Int):dS (mX v)=true:=rfl
@[simp] theorem ak9(v:Int):cells (mX v)=[.int .i64 v,.int .i64 0,.int .i64 0,.str [],.slice 4 .nil []]:=rfl
theorem aif(v:Int)(f:Nat)(cs:List ah):l9 (mX v) f cs= .agg (nn [.int .i64 v,.int .i64 0,.int .i64 0,.str [],.slice 4 .nil []] f cs):=rfl
theorem jv{S:aD→Prop}:∀{a b:List ah},aH S (a++b)↔(aH S a∧aH S b)
 |[],b=>by simp[aH]
 |x::a,b=>by simp[aH,jv (a:=a),and_assoc]
@[simp] theorem amO(S:aD→Prop)(k:Nat)(l:List Int):aH S (mR k (l.map mX))=True:=by rw[←List.map_drop];exact adW S _
@[simp] theorem ank(S:aD→Prop)(o:aW (List aq)):aB S (ga o)=True:=by simp[ga]
theorem GD(l:List Int)(v:Int):l.map mX++[.agg [.int .i64 v,.int .i64 0,.int .i64 0,.str [],.slice 4 .nil []]]=(l++[v]).map mX:=by simp[mX]
def adz(c:bq)(k:Nat)(st:bo):Prop:=∃(seen:List Nat) (xs:List Int),seen.Nodup∧(∀b∈seen,b<c.up.length)∧k=c.up.length-seen.length∧xs=seen.filterMap (fun b=>(c.up[b]?).map (·.1))∧xs.length=seen.length∧st=⟨[(0,az),(4,.gmap (.obj 304)),(17,.ptr (.loc 0) 0)],ay c++[(.obj 304,nE xs),(.loc 0,cf c.up.length seen (.obj 702))],[],1,[.obj 304,.obj 702,.obj 703,.obj 704,.obj 705,.obj 706,.obj 707]⟩
theorem air{c:bq}{seen:List Nat}(aP:seen.Nodup)(bu:∀b∈seen,b<c.up.length)(kX:∀b,b<c.up.length→b∈seen):(seen.filterMap fun b=>(c.up[b]?).map (·.1)).Perm (ck c.up):=by have:=KV (l:=ck c.up) aP (by simpa[ck]using bu) (by simpa[ck]using kX);simpa[ck]using this
theorem ais{c:bq}(aA:(ck c.up).Nodup){seen:List Nat}{b:Nat}(ae:b∉seen){x:Int×Int}(ad:c.up[b]? =some x):x.1∉seen.filterMap fun b=>(c.up[b]?).map (·.1):=by
 intro hm;rw[List.mem_filterMap]at hm;obtain⟨bY,J,U⟩:=hm;obtain⟨y,al,a6⟩:=gA.1 U;have aj:(ck c.up)[b]? =some x.1:=by simp[ck,ad]
 have aC:(ck c.up)[bY]? =some x.1:=by simp[ck,al,a6]
 have bu:=(fH.1 aj).1;have uT:=(fH.1 aC).1;have f1:=(fH.1 aj).2;have f2:=(fH.1 aC).2;rcases Nat.lt_trichotomy b bY with h|h|h
 ·exact oX.1 aA b bY bu uT h (f1.trans f2.symm)
 ·subst h;exact ae J
 ·exact oX.1 aA bY b uT bu h (f2.trans f1.symm)
set_option maxRecDepth 4000 in
theorem abf(n:Nat)(c:bq)(o:aW (List aq))(he:Cy n (qi (ck c.up)) c=some o)(Be:(ck c.up).Nodup)(hlen:c.up.length≤1000000)(bC:lL c):bJ ao 219 [az] (aM c) fun r ai=>r=ga o∧∃ch,ai=aM ch:=by
 have ag:=b8 c;simp only[aM,ay]at ag⊢;refine bJ.mk mixed U4 Y3 afq (by simp) ag.obj fun aR c1=>?_;unfold MS;simp[az];have Ba:∀S:aD→Prop,aH S (jn []):=fun S=>l4 S [];refine s5 (adz c) c.up.length _ ⟨by simp[fresh,aH,aB,cf,inObs,Pv.look,l4,az,ay,Ba],eh (by simp[fresh,aH,aB,cf,inObs,Pv.look,l4,az,ay,Ba]),ei (by simp[fresh,aH,aB,dN,inObs,Pv.look,l4,az,ay,Ba]),by simp⟩ ⟨[],[],by simp,by simp,by simp,by simp,by simp,rfl⟩ ?_;rintro k st ⟨seen,xs,aP,bu,ab,hV,jM,rfl⟩ p1 c1;clear p1 c1;have hle:=FK aP bu;simp[ay,az];refine XQ (mk:= .obj 702) (seen:=seen) (l:=c.up) (by simp) (by simp) rfl (fun kX=>?_) (fun b x ad ae=>?_);rotate_left
 ·have yK:∀f:aD→aW (List ah),f (.loc 0)=some (cf c.up.length (seen++[b]) (.obj 702))→f (.obj 702)=some (mH c.up)→oN f (.ptr (.loc 0) 0)=some (True,.tuple [.int .i64 x.1,.int .i64 x.2]):=fun f J U=>aeu f (.loc 0) (.obj 702) c.up.length seen b c.up x J U rfl ad;have fs:b<c.up.length:=(fH.1 ad).1;have pb:=KW aP bu fs ae;have j3:=ais Be ae ad;rw[←hV]at j3;simp[yK,Gz,j3];refine bL.next (c.up.length-(seen.length+1)) (by omega) ⟨seen++[b],xs++[x.1],JO aP ae,(by simp;intro c aw;rcases aw with aw|rfl;exact bu c aw;exact fs),by simp,by rw[List.filterMap_append,←hV];simp[ad],by simp[jM],rfl⟩ ⟨by simp[fresh,aH,aB,cf,inObs,Pv.look,l4,az,ay],eh (by simp[fresh,aH,aB,cf,inObs,Pv.look,l4,az,ay]),ei (by simp[fresh,aH,aB,dN,inObs,Pv.look,l4,az,ay]),by simp⟩
 ·simp;have uV:=air aP bu kX;rw[←hV]at uV;have adj:xs.length≤1000000:=by omega
  refine c2.ob (abj xs adj) (LW _) (by simp only[sN];exact aQ) (by simp only[sN];exact aQ) (by simp[inObs,sN,Pv.look]) ?_;rintro r ai ⟨rfl,rfl⟩;refine⟨Same.refl _,?_⟩;have yR:qh xs=qi (ck c.up):=Uz uV;rw[yR];obtain⟨ba,kp⟩:∃ba,ba=qi (ck c.up):=⟨_,rfl⟩;rw[←kp]at he⊢;simp[sN,cu];simp only[Cy,mh]at he;obtain⟨res,yC,nM⟩:=he;have pc:ba.length≤1000000:=by rw[kp,(CB _).length_eq];simpa[ck]using hlen
  refine ik (α:=bq×List Int) (fun i a=>⟨[(0,az),(27,.slice 1 .no (ef ba)),(28,.int .i64 ba.length),(7,.row 5 (.loc 1) a.2.length),(29,.int .i64 i)],ay a.1,[(.loc 1,⟨a.2.length,113,5,some (a.2.map mX)⟩)],2,[.obj 702,.obj 703,.obj 704,.obj 705,.obj 706,.obj 707]⟩) ba.length (fun i a=>rk n (ba.drop i) a.1 a.2=some res∧lL a.1∧a.2.length≤400) (c,[]) (by simp[az,ay];exact⟨by simp[fresh,aH,aB,cf,inObs,Pv.look,l4,az,ay],eh (by simp[fresh,aH,aB,cf,inObs,Pv.look,l4,az,ay]),ei (by simp[fresh,aH,aB,dN,inObs,Pv.look,l4,az,ay]),by simp⟩) ⟨by simpa using yC,bC,by simp⟩ ?_ ?_
  ·rintro⟨bE,out⟩ ⟨J,U,al⟩ ae;simp only at J U al ae⊢;simp[rk]at J;subst J;simp only[gA]at nM;obtain⟨⟨L,WT⟩,abW,rfl⟩:=nM;simp[az,ay];refine ik (α:=bq×List aq) (fun j a=>⟨[(0,az),(7,.row 5 (.loc 1) out.length),(71,.int .i64 out.length),(72,.int .i64 j)],ay a.1,[(.loc 1,⟨out.length,113,5,some (a.2.map aq.e++(out.drop j).map mX)⟩)],2,[.obj 702,.obj 703,.obj 704,.obj 705,.obj 706,.obj 707]⟩) out.length (fun j a=>a.2.length=j∧∃rest,xF n (out.drop j) a.1=some (rest,WT)∧a.2++rest=L) (bE,[]) (by simp[az,ay];exact⟨by simp[fresh,aH,aB,cf,inObs,Pv.look,az,ay],eh (by simp[fresh,aH,aB,cf,inObs,Pv.look,az,ay]),ei (by simp[fresh,aH,aB,dN,inObs,Pv.look,az,ay]),by simp⟩) ⟨rfl,L,by simpa using abW,rfl⟩ ?_ ?_
   ·rintro⟨cc,done⟩ ⟨a6,rest,bW,c3⟩ ae;simp only at a6 bW c3 ae⊢;simp[xF]at bW;obtain⟨rfl,rfl⟩:=bW;simp at c3;subst c3;simp[az,ay,a6];refine cN.at (aM cc) (by simp) (b8 _) (Same.keys (by simp[aM,ay]) (by simp[aM,ay])) (by simp only[aM,ay];exact aQ) (by simp only[aM,ay];exact aQ) ?_;simp[cT,Fg,aV,aY,aU,aM,ay,ga];exact⟨cc,by simp⟩
   ·rintro j ⟨cc,done⟩ af ⟨a6,rest,bW,c3⟩ ae;simp only at a6 bW c3 ae⊢;obtain⟨v,aK⟩:∃v,out[j]? =some v:=⟨_,ca af⟩;have aP:out.drop j=v::out.drop (j+1):=by rw[kQ af];rw[ca af]at aK;cases aK;rfl
    rw[aP]at bW;simp only[xF,mh,gA,jb]at bW;obtain⟨⟨x,c8⟩,dV,⟨t,h4⟩,nc,⟨aib,alD⟩,rT,rfl,rfl⟩:=bW;simp only at nc rT;have key:=abk n x c8 _ nc;rw[aP];have gN:∀R,(done.map aq.e++mX v::R)[j]? =some (mX v):=fun R=>by rw[List.getElem?_append_right (by simp;omega)];simp[a6]
    have uY:∀R x,(done.map aq.e++mX v::R).set j x=done.map aq.e++x::R:=fun R x=>by rw[List.set_append_right _ _ (by simp;omega)];simp[a6]
    simp[az,ay];(with_reducible repeat' first|refine ak ?_|simp[gN,af]);(refine c2.ob (qD cc v x c8 dV) (by first|exact b8 _|exact b8 ‹_› _) (by simp only[aM,ay,az,bN,bT];exact aQ) (by simp only[aM,ay,az,bN,bT];exact aQ) (by simp[inObs,Pv.look,aM,ay,az]) ?_;rintro r ai ⟨rfl,rfl⟩;refine⟨(Same.keys (by simp[aM,ay,az]) (by simp[aM,ay,az])),?_⟩;simp[cu,aM,ay,az]);(with_reducible repeat' first|refine ak ?_|simp);(refine c2.ob (key) (by first|exact b8 _|exact b8 ‹_› _) (by simp only[aM,ay,az,bN,bT];exact aQ) (by simp only[aM,ay,az,bN,bT];exact aQ) (by simp[inObs,Pv.look,aM,ay,az]) ?_;rintro r ai ⟨rfl,rfl⟩;refine⟨(Same.keys (by simp[aM,ay,az]) (by simp[aM,ay,az])),?_⟩;simp[cu,aM,ay,az]);(with_reducible repeat' first|refine ak ?_|refine aE (sD _) ?_|refine aF (sD _) ?_|simp[gN,uY,af,aif,-l9]);refine bL.rng (h4,done++[⟨v,t⟩]) af ⟨by simp[a6],aib,rT,by simpa using c3⟩ ?_;simp[az,ay];exact⟨by simp[fresh,aH,aB,cf,inObs,Pv.look,az,ay,jv],eh (by simp[fresh,aH,aB,cf,inObs,Pv.look,az,ay,jv]),ei (by simp[fresh,aH,aB,dN,inObs,Pv.look,az,ay,jv]),by simp⟩
  ·rintro i ⟨bE,out⟩ hi ⟨J,U,al⟩ ae;simp only at J U al ae⊢;obtain⟨v,aK⟩:∃v,ba[i]? =some v:=⟨_,ca hi⟩;have aP:ba.drop i=v::ba.drop (i+1):=by rw[kQ hi];rw[ca hi]at aK;cases aK;rfl
   rw[aP]at J;simp only[rk,mh]at J;obtain⟨⟨x,cc⟩,a6,⟨f,c8⟩,bW,c3⟩:=J;simp only at bW c3;obtain⟨z3,key⟩:=abm n x cc _ bW (U.rt a6);have acd:∀h,(ef ba)[i]'h= .int .i64 v:=fun h=>by rw[ca hi]at aK;simp only[dz]at aK;simp[ef,aK]
   simp[az,ay];(with_reducible repeat' first|refine ak ?_|simp[acd,hi]);(refine c2.ob (qD bE v x cc a6) (by first|exact b8 _|exact b8 ‹_› _) (by simp only[aM,ay,az,bN,bT];exact aQ) (by simp only[aM,ay,az,bN,bT];exact aQ) (by simp[inObs,Pv.look,aM,ay,az]) ?_;rintro r ai ⟨rfl,rfl⟩;refine⟨(Same.keys (by simp[aM,ay,az]) (by simp[aM,ay,az])),?_⟩;simp[cu,aM,ay,az]);(with_reducible repeat' first|refine ak ?_|simp);(refine c2.ob (key) (by first|exact b8 _|exact b8 ‹_› _) (by simp only[aM,ay,az,bN,bT];exact aQ) (by simp only[aM,ay,az,bN,bT];exact aQ) (by simp[inObs,Pv.look,aM,ay,az]) ?_;rintro r ai ⟨rfl,rfl⟩;refine⟨(Same.keys (by simp[aM,ay,az]) (by simp[aM,ay,az])),?_⟩;simp[cu,aM,ay,az]);cases f with
   |false=>simp at c3;subst c3;simp at nM;subst nM;(with_reducible repeat' first|refine ak ?_|simp);refine cN.at (aM c8) (by simp) (b8 _) (Same.keys (by simp[aM,ay]) (by simp[aM,ay])) (by simp only[aM,ay];exact aQ) (by simp only[aM,ay];exact aQ) ?_;simp[cT,Fg,aV,aY,aU,aM,ay,ga];exact⟨c8,by simp⟩
   |true=>
    simp only[Bool.true_eq_false,if_false]at c3;by_cases aw:x=v∧c8.shd x=false
    ·rw[if_pos aw]at c3;obtain⟨adk,lB⟩:=aw;subst adk;have r6:(cW x c8.shaped).getD false=false:=lB;(with_reducible repeat' first|refine ak ?_|simp[r6]);refine bL.rng (c8,out) hi ⟨c3,z3,al⟩ ?_;exact⟨by simp[fresh,aH,aB,cf,inObs,Pv.look,az,ay],eh (by simp[fresh,aH,aB,cf,inObs,Pv.look,az,ay]),ei (by simp[fresh,aH,aB,dN,inObs,Pv.look,az,ay]),by simp⟩
    ·rw[if_neg aw]at c3;have QP:(x==v)=false∨((x==v)=true∧(cW x c8.shaped).getD false=true):=by
      by_cases e:x=v
      ·right;refine⟨by simp[e],?_⟩;cases aC:c8.shd x with
       |false=>exact absurd ⟨e,aC⟩ aw
       |true=>exact aC
      ·left;simp[e]
     by_cases au:5000<c8.sz x∨400<out.length+1
     ·rw[if_pos au]at c3;cases c3;simp at nM;subst nM;have nN:(decide (5000<iB c8.size x))=true∨(decide (5000<iB c8.size x)=false∧400<out.length+1):=by
       by_cases e:5000<iB c8.size x
       ·left;simp[e]
       ·right;exact⟨by simp[e],au.resolve_left e⟩
      have yN:True:=trivial;have j5:True:=trivial;rcases QP with bF|⟨bF,yN⟩;all_goals
       rcases nN with bp|⟨bp,j5⟩
       all_goals
        ((with_reducible repeat' first|refine ak ?_|simp[bF,yN,bp,j5]|((first|apply bO|apply bS|apply bR)<;>intro h<;>try simp at h))<;>(try exact cq))
        refine cN.at (aM c8) (by simp) (b8 _) (Same.keys (by simp[aM,ay]) (by simp[aM,ay])) (by simp only[aM,ay];exact aQ) (by simp only[aM,ay];exact aQ) ?_
        simp[cT,Fg,aV,aY,aU,aM,ay,ga]
        exact⟨c8,by simp⟩
     ·rw[if_neg au]at c3;have bp:decide (5000<iB c8.size x)=false:=by simp;exact Int.not_lt.1 fun h=>au (.inl h)
      have j5:¬400<out.length+1:=fun h=>au (.inr h);have yN:True:=trivial;rcases QP with bF|⟨bF,yN⟩;all_goals
       ((with_reducible repeat' first|refine ak ?_|simp[bF,yN,bp,j5]|((first|apply bO|apply bS|apply bR)<;>intro h<;>try simp at h))<;>(try exact cq))
       all_goals first|(refine⟨by unfold lim;omega,?_⟩)|skip
       ((with_reducible repeat' first|refine ak ?_|simp[bF,yN,bp,j5]|((first|apply bO|apply bS|apply bR)<;>intro h<;>try simp at h))<;>(try exact cq))
       refine bL.rng (c8,out++[v]) hi ⟨c3,z3,by simp;omega⟩ ?_
       exact⟨by simp[fresh,aH,aB,cf,inObs,Pv.look,az,ay,GD,jv],eh (by simp[fresh,aH,aB,cf,inObs,Pv.look,az,ay,GD,jv]),ei (by simp[fresh,aH,aB,dN,inObs,Pv.look,az,ay,GD,jv]),by simp⟩
theorem U0:∀{a b:T},a.tm=b.tm→a=b:=by
 intro a;induction a with
 |pair x y oL q0=>intro b h;cases b<;>simp[T.tm]at h;rw[oL h.1,q0 h.2]
 |_=>intro b h;cases b<;>simp[T.tm]at h⊢ <;>exact h
def Wf(l:List cQ):Prop:= ∃s:List aq,l=s.map aq.b∧pA s∧h9 s∧hg s
def Gr(l:List cQ):Prop:= ∃s:List aq,l=s.map aq.b∧pA s∧fu s∧hg s
theorem Mp:∀{l:List cQ},(∀b∈l,b.t.fits=true)→∃s:List aq,l=s.map aq.b∧ym s
 |[],_=>⟨[],rfl,fun b ae=>by simp at ae⟩
 |b::l,h=>by
  obtain⟨s,J,U⟩:=Mp (l:=l) fun c aw=>h c (by simp[aw]);obtain⟨x,al,a6⟩:=bP.fits_ex (h b (by simp));refine⟨⟨b.v,x⟩::s,by rw[J];simp[aq.b,al],fun c aw=>?_⟩;rcases fU.1 aw with rfl|aw
  ·exact a6
  ·exact U c aw
theorem Gb{l:List cQ}:x0 l↔Wf l:=by
 constructor
 ·rintro⟨J,U⟩;obtain⟨s,rfl,ab0⟩:=Mp (l:=l) fun b ae=>by obtain⟨i,hi,e⟩:=mS ae;exact(U i hi b (by rw[ca hi,e])).2.2
  have Qn:∀b∈s,b.t.ok=true∧b.t.size≤5000:=fun b ae=>by have:=ab0 b ae;simpa[T.fit]using this
  refine⟨s,rfl,fun b ae=>⟨?_,(Qn b ae).1⟩,?_,by simpa using J,fun b ae=>(Qn b ae).2⟩
  ·obtain⟨i,hi,e⟩:=mS ae;have:=(U i (by simpa using hi) b.b (by simp[ca hi,e])).1;exact this
  ·rw[h9,oX];have jk:∀i (h:i+1<s.length),s[i].v<s[i+1].v:=fun i h=>by have:=(U (i+1) (by simpa using h) s[i+1].b (by simp[ca h])).2.1 s[i].b (by omega) (by simp[ca (show i<s.length by omega)]);exact this
   have:∀(d i:Nat) (h:i+d+1<s.length),s[i].v<s[i+d+1].v:=by
    intro d;induction d with
    |zero=>intro i h;exact jk i h
    |succ d bM=>intro i h;have bz:=bM i (by omega);have a2:=jk (i+d+1) (by omega);simp only[Nat.add_assoc]at bz a2⊢;omega
   intro i j hi af ly;have:=this (j-i-1) i (by omega);simpa[show i+(j-i-1)+1=j from by omega]using this
 ·rintro⟨s,rfl,av,bD,aI⟩;refine⟨by simpa using aI.1,fun i hi b ae=>?_⟩;simp only[List.getElem?_map,gA]at ae;obtain⟨c,aw,rfl⟩:=ae;have hm:=eP aw;refine⟨(av c hm).1,fun d bs aP=>?_,?_⟩
  ·simp only[List.getElem?_map,gA]at aP;obtain⟨e,he,rfl⟩:=aP;obtain⟨J,aj⟩:=fH.1 he;obtain⟨U,aC⟩:=fH.1 aw;have:=oX.1 bD (i-1) i J U (by omega);rw[aj,aC]at this;exact this
  ·show c.t.tm.fits=true;rw[bP.fits_T];simp[T.fit,(av c hm).2,aI.2 c hm]
def uz(s:List aq)(v:Int)(f:Bool):Bool:=if 0≤mq s v then false else f
def lM(s:List aq)(b:aq):Bool:=b.t.fold (uz s) true&& !(b.t.kind==1&&decide (b.v≤b.t.int))
theorem Py{s:List aq}(bD:h9 s)(t:T):∀f:Bool,t.fold (uz s) f=true↔f=true∧∀w,t.occ w=true→dd s w=none:=by
 induction t with
 |var n=>
  intro f;simp only[T.fold,T.occ,dG,uz];have:=Pw bD n;by_cases h:0≤mq s n
  ·rw[if_pos h];constructor
   ·intro h;cases h
   ·rintro⟨_,U⟩;have:=this.2 (U n rfl);omega
  ·rw[if_neg h];exact⟨fun aI=>⟨aI,fun w hw=>by subst hw;exact this.1 (by omega)⟩,fun h=>h.1⟩
 |pair a b dO dP=>
  intro f;simp only[T.fold,dO,dP,T.occ,mf];constructor
  ·rintro⟨⟨J,U⟩,al⟩;exact⟨J,fun w hw=>hw.elim (U w) (al w)⟩
  ·rintro⟨J,U⟩;exact⟨⟨J,fun w hw=>U w (.inl hw)⟩,fun w hw=>U w (.inr hw)⟩
 |_=>intro f;simp[T.fold,T.occ]
theorem GG{s:List aq}(bD:h9 s)(b:aq):lM s b=true↔(∀w,b.t.occ w=true→dd s w=none)∧∀w,b.t= .var w→w<b.v:=by
 unfold lM;rw[cA,Py bD];simp only[true_and];refine and_congr_right fun _=>?_;constructor
 ·intro h w hw;have ab:(b.t.kind==1)=true:=by rw[hw];rfl
  have hi:b.t.int=w:=by rw[hw];rfl
  rw[ab,hi]at h;simpa using h
 ·intro h;cases ab:(b.t.kind==1)with
  |false=>rfl
  |true=>
   obtain⟨w,hw⟩:∃w,b.t= .var w:=by
    cases e:b.t with
    |var w=>exact⟨w,rfl⟩
    |_=>rw[e]at ab;simp at ab
   have hi:b.t.int=w:=by rw[hw];rfl
   have:=h w hw;rw[hi];simpa using this
theorem Ux{s:List aq}(bD:h9 s):fu s↔∀b∈s,lM s b=true:=by
 constructor
 ·intro h b ae;exact(GG bD b).2 ⟨h.free b ae,h.ori b ae⟩
 ·intro h;exact⟨bD,fun b ae=>((GG bD b).1 (h b ae)).1,fun b ae=>((GG bD b).1 (h b ae)).2⟩
def q1{α:Type}(p:α→Bool)(s:List α)(i:Nat)(_:Unit):Prop:= ∀k b,k<i→s[k]? =some b→p b=true
theorem q1.step{α:Type}{p:α→Bool}{s:List α}{i:Nat}(h:q1 p s i ()){b:α}(ae:s[i]? =some b)(bF:p b=true):q1 p s (i+1) ():=fun k c ab aw=>by
 rcases(by omega:k<i∨k=i)with J|rfl
 ·exact h k c J aw
 ·rw[ae]at aw;cases aw;exact bF
open Classical in
noncomputable def gu(l:List cQ):Bool:=decide (Gr l)
theorem qk{l:List cQ}:gu l=true↔Gr l:=by unfold gu;simp
def ia(f:Bool):cF:=⟨[(.obj 731,[.bool f])],[]⟩
theorem ui(f:Bool):ee (ia f):=by unfold ia;exact ee.of ⟨by intro m;simp[Pv.look],by intro m;simp[Pv.look]⟩ (by simp) (by simp)
theorem V6(a b:Bool):Same (ia a) (ia b):=Same.keys (by simp[ia]) (by simp[ia])
theorem aaS(s:List aq)(au:s.length≤1000000)(v:Int)(f:Bool):bJ ao 159 [.int .i64 v,.eptr (.slice 5 .no (s.map aq.e)),.ptr (.obj 731) 0] (ia f) fun r ai=>r= .tuple []∧ai=ia (uz s v f):=by
 have ag:=ui f;simp only[ia]at ag⊢;by_cases h:0≤mq s v
 ·rw[uz,if_pos h];refine bJ.mk mixed qm O9 SO (by simp) ag.obj fun aR c1=>?_;unfold GN;simp;(with_reducible repeat' first|refine ak ?_|refine aE (sF s v au) ?_|refine aF (sF s v au) ?_|simp[h]);(refine cN.at (ia false) (by simp) (by first|exact ui _|exact ui ‹_› _) (Same.keys (by simp[ia]) (by simp[ia])) (by simp only[ia,bN,bT];exact aQ) (by simp only[ia,bN,bT];exact aQ) ?_;simp[cT,Kf,aV,aY,aU,inObs,Pv.look,ia])
 ·rw[uz,if_neg h];refine bJ.mk mixed qm O9 SO (by simp) ag.obj fun aR c1=>?_;unfold GN;simp;(with_reducible repeat' first|refine ak ?_|refine aE (sF s v au) ?_|refine aF (sF s v au) ?_|simp[h]);(refine cN.at (ia f) (by simp) (by first|exact ui _|exact ui ‹_› _) (Same.keys (by simp[ia]) (by simp[ia])) (by simp only[ia,bN,bT];exact aQ) (by simp only[ia,bN,bT];exact aQ) ?_;simp[cT,Kf,aV,aY,aU,inObs,Pv.look,ia])
theorem Ln(l:List cQ):bI ao 86 [.slice 5 .no (l.map cQ.e)] (.bool (gu l)):=by
 have aK:=ajA l;by_cases h:x0 l;rotate_left
 ·have bs:gu l=false:=by unfold gu;simp only[hx];rintro⟨s,J,U,al,a6⟩;exact h (Gb.2 ⟨s,J,U,al.asc,a6⟩)
  rw[bs];refine br qm O8 SN fun aR=>?_;unfold GM;exact ct
 ·obtain⟨s,rfl,av,bD,aI⟩:=Gb.1 h;have au:s.length≤1000000:=by have:=aI.1;omega
  have aj:(s.map aq.b).map cQ.e=s.map aq.e:=by rw[List.map_map];exact List.map_congr_left fun b _=>aq.b_e b
  have bs:gu (s.map aq.b)=s.all (lM s):=by
   rw[pH,ja,qk,←Ux bD];constructor
   ·rintro⟨ai,J,U,al,a6⟩;have:ai=s:=by
     have acb:∀a b:List aq,a.map aq.b=b.map aq.b→a=b:=by
      intro a;induction a with
      |nil=>intro b ae;cases b<;>simp at ae⊢
      |cons x a bM=>
       intro b ae;cases b with
       |nil=>simp at ae
       |cons y b=>simp only[gX,pI,aq.b,cQ.mk.injEq]at ae;rw[bM b ae.2];have:=U0 ae.1.2;obtain⟨⟨kY,_⟩,_⟩:=ae;cases x;cases y;simp_all
     exact(acb _ _ J).symm
    rw[←this];exact al
   ·intro al;exact⟨s,rfl,av,al,aI⟩
  rw[bs];rw[aj]at aK⊢;refine br qm O8 SN fun aR=>?_;unfold GM;simp;(with_reducible repeat' first|refine ak ?_|refine aE aK ?_|refine aF aK ?_|simp[h]);refine ik (α:=Unit) (fun i _=>⟨[(1,.eptr (.slice 5 .no (s.map aq.e))),(9,.slice 5 .no (s.map aq.e)),(10,.int .i64 s.length),(11,.int .i64 i)],[],[],1,[]⟩) s.length (q1 (lM s) s) () b4 (fun k b ab=>by omega) (fun _ af _=>?_) (fun i _ hi af _=>?_)
  ·have:s.all (lM s)=true:=by rw[ja];intro b ae;obtain⟨k,ab,e⟩:=mS ae;exact af k b ab (by rw[ca ab,e])
   rw[this];exact ct
  ·obtain⟨b,lC⟩:∃b,s[i]? =some b:=⟨_,ca hi⟩;have gn:∀h,(s[i]'h)=b:=fun h=>by rw[ca hi]at lC;exact fw lC
   have key:=PG ia ui V6 159 [.eptr (.slice 5 .no (s.map aq.e)),.ptr (.obj 731) 0] (fun a=>by simp[ia,inObs,Pv.look]) (by simp) (uz s) (fun v a=>aaS s au v a) b.t true;have gl:lM s b=false→s.all (lM s)=false:=fun h=>by rw[Bool.eq_false_iff];intro cp;rw[ja]at cp;rw[cp b (eP lC)]at h;cases h
   simp[hi,gn];(with_reducible repeat' first|refine ak ?_|simp[gn,hi]);(refine c2.ob (key) (by first|exact ui _|exact ui ‹_› _) (by simp only[ia,bN,bT];exact aQ) (by simp only[ia,bN,bT];exact aQ) (by simp[inObs,Pv.look,ia]) ?_;rintro r ai ⟨rfl,rfl⟩;refine⟨(Same.keys (by simp[ia]) (by simp[ia])),?_⟩;simp[cu,ia]);generalize ab2:b.t.fold (uz s) true=rQ;have wA:lM s b=(rQ&& !(b.t.kind==1&&decide (b.v≤b.t.int))):=by unfold lM;rw[ab2]
   cases rQ with
   |false=>rw[gl (by rw[wA];rfl)];exact ct
   |true=>
    cases ab:(b.t.kind==1)with
    |false=>(with_reducible repeat' first|refine ak ?_|simp[ab]);refine bL.rng () hi (af.step lC (by rw[wA,ab];rfl)) ?_;exact b4
    |true=>
     by_cases hle:b.v≤b.t.int
     ·rw[gl (by rw[wA,ab];simp[hle])];exact ct
     ·(with_reducible repeat' first|refine ak ?_|simp[ab,hle]);refine bL.rng () hi (af.step lC (by rw[wA,ab];simp[hle])) ?_;exact b4
@[simp] theorem amW(S:aD→Prop):aH S (jn [])=True:=eq_true (l4 S [])
set_option maxRecDepth 4000 in
theorem abe(n:Nat)(s:List aq)(l r:List T)(au:l.length=r.length)(j6:s.length≤1000000)(wM:l.length≤1000000)(o:aW (List aq))(he:zP n (hs s++l.zip r)=some o)
  (hinv:∀c,o3 n (hs s++l.zip r) bq.new=some (true,c)→(ck c.up).Nodup∧c.up.length≤1000000∧lL c):bI ao 186 [.slice 5 .no (s.map aq.e),.slice 4 .no (l.map T.e),.slice 4 .no (r.map T.e)] (ga o):=by
 obtain⟨E,ds⟩:∃E,E=hs s++l.zip r:=⟨_,rfl⟩;rw[←ds]at he hinv;simp only[zP,mh]at he;obtain⟨fin,yC,nM⟩:=he;have hlen:E.length=s.length+l.length:=by rw[ds];simp[hs,au]
 have abA:∀i b,s[i]? =some b→E.drop i=(.var b.v,b.t)::E.drop (i+1):=fun i b ae=>by
  have hi:=(fH.1 ae).1;have a1:E[i]? =some (.var b.v,b.t):=by rw[ds,List.getElem?_append_left (by simp[hs];exact hi)];simp[hs,ae]
  rw[kQ (by omega)];rw[ca (by omega)]at a1;simp only[dz]at a1;rw[a1]
 have abz:∀i a b,l[i]? =some a→r[i]? =some b→E.drop (s.length+i)=(a,b)::E.drop (s.length+(i+1)):=fun i a b bD ae=>by
  have hi:=(fH.1 bD).1;have a1:E[s.length+i]? =some (a,b):=by rw[ds,List.getElem?_append_right (by simp[hs])];simp[hs,List.getElem?_zip_eq_some,bD,ae]
  rw[kQ (by omega)];rw[ca (by omega)]at a1;simp only[dz]at a1;rw[a1];rfl
 refine br U4 Zl afI fun aR=>?_;unfold Na;simp;refine c2.new aa2 (ee.of xh (by simp) (by simp)) (fun k cs h=>by simp[Pv.look]at h) (fun k cs h=>by simp[Pv.look]at h) (by simp) ?_;rintro r0 s0 ⟨rfl,rfl⟩;refine⟨fun m hm=>.inr (by simp),?_⟩;simp[aM,ay,cu,az];refine ik (α:=bq) (fun i c=>⟨[(1,.slice 4 .no (l.map T.e)),(2,.slice 4 .no (r.map T.e)),(8,az),(13,.slice 5 .no (s.map aq.e)),(14,.int .i64 s.length),(15,.int .i64 i)],ay c,[],0,[.obj 702,.obj 703,.obj 704,.obj 705,.obj 706,.obj 707]⟩) s.length (fun i c=>o3 n (E.drop i) c=some fin) bq.new (by simp[az,ay];exact⟨by simp[fresh,aH,aB,cf,inObs,Pv.look,az,ay,bq.new],eh (by simp[fresh,aH,aB,cf,inObs,Pv.look,az,ay,bq.new]),ei (by simp[fresh,aH,aB,dN,inObs,Pv.look,az,ay,bq.new]),by simp⟩) (by simpa using yC) ?_ ?_
 ·rintro c J ae;simp[az,ay];refine ik (α:=bq) (fun i c=>⟨[(1,.slice 4 .no (l.map T.e)),(2,.slice 4 .no (r.map T.e)),(8,az),(37,.int .i64 l.length),(38,.int .i64 i)],ay c,[],0,[.obj 702,.obj 703,.obj 704,.obj 705,.obj 706,.obj 707]⟩) l.length (fun i c=>o3 n (E.drop (s.length+i)) c=some fin) c (by simp[az,ay];exact⟨by simp[fresh,aH,aB,cf,inObs,Pv.look,az,ay],eh (by simp[fresh,aH,aB,cf,inObs,Pv.look,az,ay]),ei (by simp[fresh,aH,aB,dN,inObs,Pv.look,az,ay]),by simp⟩) J ?_ ?_
  ·rintro bE J ae;rw[List.drop_eq_nil_of_le (by omega)]at J;simp[o3]at J;subst J;simp at nM;obtain⟨aZ,bB,bQ⟩:=hinv bE yC;simp[az,ay];refine c2.ob (abf n bE o nM aZ bB bQ) (b8 _) (by simp only[aM,ay];exact aQ) (by simp only[aM,ay];exact aQ) (by simp[inObs,Pv.look,aM,ay,az]) ?_;rintro r0 s0 ⟨rfl,ch,rfl⟩;refine⟨Same.keys (by simp[aM,ay]) (by simp[aM,ay]),?_⟩;simp[cu,aM,ay,ga];exact ct
  ·rintro i c hi J ae;simp only at J ae⊢;obtain⟨a,bD⟩:∃a,l[i]? =some a:=⟨_,ca hi⟩;obtain⟨b,fL⟩:∃b,r[i]? =some b:=⟨_,ca (by omega)⟩;have my:∀h,(l[i]'h)=a:=fun h=>by rw[ca hi]at bD;exact fw bD
   have cG:∀h,(r[i]'h)=b:=fun h=>by rw[ca h]at fL;exact fw fL
   have qP:i<r.length:=by omega
   rw[abz i a b bD fL]at J;simp only[o3,mh]at J;obtain⟨bE,U,cc,al,⟨f,c8⟩,a6,bW⟩:=J;simp only at a6 bW;have key:=PI n _ _ _ _ a6;simp[az,ay];(with_reducible repeat' first|refine ak ?_|simp[my,cG,hi,qP]);(refine c2.ob (HP c a bE U) (by first|exact b8 _|exact b8 ‹_› _) (by simp only[aM,ay,az,bN,bT];exact aQ) (by simp only[aM,ay,az,bN,bT];exact aQ) (by simp[inObs,Pv.look,aM,ay,az]) ?_;rintro r ai ⟨rfl,rfl⟩;refine⟨(Same.keys (by simp[aM,ay,az]) (by simp[aM,ay,az])),?_⟩;simp[cu,aM,ay,az]);(with_reducible repeat' first|refine ak ?_|simp[my,cG,hi,qP]);(refine c2.ob (HP bE b cc al) (by first|exact b8 _|exact b8 ‹_› _) (by simp only[aM,ay,az,bN,bT];exact aQ) (by simp only[aM,ay,az,bN,bT];exact aQ) (by simp[inObs,Pv.look,aM,ay,az]) ?_;rintro r ai ⟨rfl,rfl⟩;refine⟨(Same.keys (by simp[aM,ay,az]) (by simp[aM,ay,az])),?_⟩;simp[cu,aM,ay,az]);(with_reducible repeat' first|refine ak ?_|simp[my,cG,hi,qP]);(refine hO.ob (key) (by first|exact b8 _|exact b8 ‹_› _) (by first|exact b8 _|exact b8 ‹_› _) (Same.keys (by simp[aM,ay,az]) (by simp[aM,ay,az])) (by simp only[aM,ay,az,bN,bT];exact aQ) (by simp only[aM,ay,az,bN,bT];exact aQ) (by simp[inObs,Pv.look,aM,ay,az]) ?_;simp[cu,aM,ay,az]);cases f with
   |false=>simp at bW;subst bW;simp at nM;subst nM;(with_reducible repeat' first|refine ak ?_|simp);simp[bA,Kk,aV,aY,aU];simp[ga]
   |true=>simp at bW;(with_reducible repeat' first|refine ak ?_|simp);refine bL.rng c8 hi bW ?_;simp[az,ay];exact⟨by simp[fresh,aH,aB,cf,inObs,Pv.look,az,ay],eh (by simp[fresh,aH,aB,cf,inObs,Pv.look,az,ay]),ei (by simp[fresh,aH,aB,dN,inObs,Pv.look,az,ay]),by simp⟩
 ·rintro i c hi J ae;simp only at J ae⊢;obtain⟨b,aK,gn⟩:=ep hi;rw[abA i b aK]at J;simp only[o3,mh]at J;obtain⟨bE,U,cc,al,⟨f,c8⟩,a6,bW⟩:=J;simp only[zb,T.foldO,gA]at U;obtain⟨⟨x,Mt⟩,U,rfl⟩:=U;simp only at U al a6 bW;have key:=PI n _ _ _ _ a6;simp[az,ay];(with_reducible repeat' first|refine ak ?_|simp[gn,hi]);(refine c2.ob (qD c b.v x Mt U) (by first|exact b8 _|exact b8 ‹_› _) (by simp only[aM,ay,az,bN,bT];exact aQ) (by simp only[aM,ay,az,bN,bT];exact aQ) (by simp[inObs,Pv.look,aM,ay,az]) ?_;rintro r ai ⟨rfl,rfl⟩;refine⟨(Same.keys (by simp[aM,ay,az]) (by simp[aM,ay,az])),?_⟩;simp[cu,aM,ay,az]);(with_reducible repeat' first|refine ak ?_|simp);(refine c2.ob (HP Mt b.t cc al) (by first|exact b8 _|exact b8 ‹_› _) (by simp only[aM,ay,az,bN,bT];exact aQ) (by simp only[aM,ay,az,bN,bT];exact aQ) (by simp[inObs,Pv.look,aM,ay,az]) ?_;rintro r ai ⟨rfl,rfl⟩;refine⟨(Same.keys (by simp[aM,ay,az]) (by simp[aM,ay,az])),?_⟩;simp[cu,aM,ay,az]);(with_reducible repeat' first|refine ak ?_|refine aE (ku _) ?_|refine aF (ku _) ?_|simp);(refine hO.ob (key) (by first|exact b8 _|exact b8 ‹_› _) (by first|exact b8 _|exact b8 ‹_› _) (Same.keys (by simp[aM,ay,az]) (by simp[aM,ay,az])) (by simp only[aM,ay,az,bN,bT];exact aQ) (by simp only[aM,ay,az,bN,bT];exact aQ) (by simp[inObs,Pv.look,aM,ay,az]) ?_;simp[cu,aM,ay,az]);cases f with
  |false=>simp at bW;subst bW;simp at nM;subst nM;(with_reducible repeat' first|refine ak ?_|simp);simp[bA,Kk,aV,aY,aU];simp[ga]
  |true=>simp at bW;(with_reducible repeat' first|refine ak ?_|simp);refine bL.rng c8 hi bW ?_;simp[az,ay];exact⟨by simp[fresh,aH,aB,cf,inObs,Pv.look,az,ay],eh (by simp[fresh,aH,aB,cf,inObs,Pv.look,az,ay]),ei (by simp[fresh,aH,aB,dN,inObs,Pv.look,az,ay]),by simp⟩
theorem akf(s:List aq)(l r:List T)(au:l.length=r.length)(ag:fu s)(aI:hg s)(av:pA s)(wM:l.length≤1000000)(J:∀t∈l,t.ok=true)(U:∀t∈r,t.ok=true):
  bI ao 186 [.slice 5 .no (s.map aq.e),.slice 4 .no (l.map T.e),.slice 4 .no (r.map T.e)] (ga (mgu s (l.zip r))):=by
 have ds:∀e∈hs s++l.zip r,e.1.ok=true∧e.2.ok=true:=fun e he=>by
  rcases ki.1 he with he|he
  ·obtain⟨b,ae,rfl⟩:=iC.1 he;have:=av b ae;exact⟨by simpa[T.ok]using this.1,this.2⟩
  ·exact⟨J _ (List.of_mem_zip he).1,U _ (List.of_mem_zip he).2⟩
 have bs:JP (hs s++l.zip r):=fun e he v aK=>by
  rcases aK with aK|aK
  ·exact(vM (ds e he).1 aK).1
  ·exact(vM (ds e he).2 aK).1
 obtain⟨n,o,aZ,bB,bQ⟩:=aiP _ bs;rw[q8 (Wd.1 bB)];refine abe n s l r au (by have:=aI.1;omega) wM o aZ fun c aw=>?_;obtain⟨bz,a2,a3⟩:=bQ c aw;have:=RG bz fun v aK=>by
  obtain⟨e,he,aK⟩:=a2 v aK;rcases aK with aK|aK
  ·exact vM (ds e he).1 aK
  ·exact vM (ds e he).2 aK
 refine⟨bz,by simp[ck]at this;omega,fun x=>?_⟩;simp[bq.sz,a3,cW]
structure eG (s:List aq):Prop where
 ok:pA s
 sol:fu s
 fits:hg s
theorem eG.len{s:List aq}(h:eG s):s.length≤1000000:=by have:=h.fits.1;omega
theorem eG.fit{s:List aq}(h:eG s):ym s:=fun b ae=>by simp[T.fit,(h.ok b ae).2,h.fits.2 b ae]
theorem eG.mgu{s:List aq}(h:eG s){E:List (T×T)}(ds:∀e∈E,e.1.ok=true∧e.2.ok=true){ai:List aq}(hm:mgu s E=some ai):eG ai:=⟨aeD h.sol h.fits h.ok ds hm,(zc h.sol h.fits hm).1,(zc h.sol h.fits hm).2⟩
theorem za(s:List aq):(s.map aq.b).map cQ.e=s.map aq.e:=by rw[List.map_map];exact List.map_congr_left fun b _=>aq.b_e b
theorem pD{s:List aq}(h:eG s):bI ao 86 [.slice 5 .no (s.map aq.e)] (.bool true):=by have:=Ln (s.map aq.b);rw[za,qk.2 ⟨s,rfl,h.ok,h.sol,h.fits⟩]at this;exact this
def adO(t:List aq)(i:Nat)(p:List T×List T):Prop:=p.1=(t.take i).map (fun b=>T.var b.v)∧p.2=(t.take i).map (·.t)
theorem ajN(t:List aq)(aO:t.length≤1000000):bI ao 205 [.slice 5 .no (t.map aq.e)] (.tuple [.slice 4 .no ((t.map fun b=>T.var b.v).map T.e),.slice 4 .no ((t.map (·.t)).map T.e)]):=by
 generalize bh:((t.map fun b=>T.var b.v).map T.e)=R1;generalize j1:((t.map fun x=>x.t).map T.e)=R2;have gg:∀S:aD→Prop,aH S R1=True:=fun S=>by rw[←bh];exact RP S _
 have kF:∀S:aD→Prop,aH S R2=True:=fun S=>by rw[←j1];exact RP S _
 refine bI.mk mixed qm Y8 afv (by simp) (by simp[aB,gg,kF]) fun aR=>?_;unfold MX;simp;refine ik (α:=List T×List T) (fun i p=>⟨[(10,.slice 5 .no (t.map aq.e)),(11,.int .i64 t.length),(4,.slice 4 (.own (.loc 0)) (p.1.map T.e)),(5,.slice 4 (.own (.loc 1)) (p.2.map T.e)),(12,.int .i64 i)],[],[(.loc 0,⟨p.1.length,30,4,none⟩),(.loc 1,⟨p.2.length,30,4,none⟩)],2,[]⟩) t.length (adO t) ([],[]) b4 ⟨by simp,by simp⟩ (fun p af _=>?_) (fun i p hi af _=>?_)
 ·obtain⟨A,B⟩:=p;obtain⟨bd,km⟩:=af;simp only at bd km⊢;rw[hq (eQ _)]at bd km;rw[←bh,←j1,←bd,←km];simp;(with_reducible repeat' first|refine ak ?_|simp);simp[bA,TC,aV,aY,aU]
 ·obtain⟨A,B⟩:=p;obtain⟨bd,km⟩:=af;simp only at bd km⊢;obtain⟨b,aK,gn⟩:=ep hi;have uZ:t.take (i+1)=t.take i++[b]:=by rw[List.take_succ,aK];rfl
  have abx:A.length≤1000000:=by rw[bd];simp;omega
  have aby:B.length≤1000000:=by rw[km];simp;omega
  simp[hi,gn];((with_reducible repeat' first|refine ak ?_|refine aE (ku _) ?_|refine aF (ku _) ?_|simp[gn,hi]|((first|apply bO|apply bS|apply bR)<;>intro h<;>try simp at h))<;>(try exact cq));all_goals first|(refine⟨by unfold lim;omega,?_⟩)|skip
  (with_reducible repeat' first|refine ak ?_|simp);all_goals first|(refine⟨by unfold lim;omega,?_⟩)|skip
  (with_reducible repeat' first|refine ak ?_|simp);refine bL.rng (A++[.var b.v],B++[b.t]) hi ⟨by rw[uZ,bd];simp,by rw[uZ,km];simp⟩ ?_;simp;exact⟨by simp[fresh,aH,aB,cf,inObs,Pv.look,jv],eh (by simp[fresh,aH,aB,cf,inObs,Pv.look,jv]),ei (by simp[fresh,aH,aB,dN,inObs,Pv.look,jv]),by simp⟩
theorem ajr{s t:List aq}(ag:eG s)(aO:eG t):bI ao 165 [.slice 5 .no (s.map aq.e),.slice 5 .no (t.map aq.e)] (ga (mgu s (hs t))):=by
 have bC:(t.map fun b=>T.var b.v).zip (t.map (·.t))=hs t:=by rw[hs,List.zip_map']
 have key:=akf s (t.map fun b=>T.var b.v) (t.map (·.t)) (by simp) ag.sol ag.fits ag.ok (by simpa using aO.len) (fun x ad=>by
  obtain⟨b,ae,rfl⟩:=iC.1 ad;have:=aO.ok b ae;simpa[T.ok]using this.1) (fun x ad=>by
  obtain⟨b,ae,rfl⟩:=iC.1 ad;exact(aO.ok b ae).2)
 rw[bC]at key;have heq:=ajN t aO.len;generalize (t.map fun b=>T.var b.v)=A at key heq;generalize (t.map fun x=>x.t)=B at key heq;refine br qm YL ae8 fun aR=>?_;unfold MA;simp;(with_reducible repeat' first|refine ak ?_|refine aE (pD ag) ?_|refine aF (pD ag) ?_|refine aE (pD aO) ?_|refine aF (pD aO) ?_|refine aE heq ?_|refine aF heq ?_|refine aE key ?_|refine aF key ?_|simp);simp[bA,Tp,aV,aY,aU];simp[ga]
theorem ql{α:Type}{t:List α}{i:Nat}{b:α}(aK:t[i]? =some b):t.take (i+1)=t.take i++[b]:=by rw[List.take_succ,aK];rfl
def gp(s t:List aq):List aq:=t.filter fun b=>(dd s b.v).isNone
def qa(s t:List aq)(i:Nat)(out:List aq):Prop:=out=gp s (t.take i)
theorem ajw{s t:List aq}(ag:eG s)(aO:eG t):bI ao 166 [.slice 5 .no (s.map aq.e),.slice 5 .no (t.map aq.e)] (.slice 5 .no ((gp s t).map aq.e)):=by
 have ac4:=aO.len;generalize bh:gp s t=R;refine br qm YQ afd fun aR=>?_;unfold MF;simp;(with_reducible repeat' first|refine ak ?_|refine aE (pD ag) ?_|refine aF (pD ag) ?_|refine aE (pD aO) ?_|refine aF (pD aO) ?_|simp);refine ik (α:=List aq) (fun i out=>⟨[(0,.slice 5 .no (s.map aq.e)),(17,.slice 5 .no (t.map aq.e)),(18,.int .i64 t.length),(5,.slice 5 (.own (.loc 0)) (out.map aq.e)),(19,.int .i64 i)],[],[(.loc 0,⟨out.length,113,5,none⟩)],1,[]⟩) t.length (qa s t) [] b4 (by simp[qa,gp]) (fun out af _=>?_) (fun i out hi af _=>?_)
 ·rw[qa,hq (eQ _),bh]at af;rw[←af];exact ct
 ·obtain⟨b,aK,gn⟩:=ep hi;have Bj:out.length≤1000000:=by
   have:out.length≤(t.take i).length:=by rw[af];exact List.length_filter_le _ _
   simp at this;omega
  have p3:=Pw ag.sol.asc b.v;simp[hi,gn];by_cases ae:mq s b.v<0
  ·(with_reducible repeat' first|refine ak ?_|refine aE (sF s b.v ag.len) ?_|refine aF (sF s b.v ag.len) ?_|refine aE (sD _) ?_|refine aF (sD _) ?_|simp[gn,hi,ae]);all_goals first|(refine⟨by unfold lim;omega,?_⟩)|skip
   (with_reducible repeat' first|refine ak ?_|simp);refine bL.rng (out++[b]) hi (by rw[qa,ql aK,gp,List.filter_append,af];simp[gp,p3.1 ae]) ?_;simp;exact⟨by simp[fresh,aH,aB,cf,inObs,Pv.look,jv],eh (by simp[fresh,aH,aB,cf,inObs,Pv.look,jv]),ei (by simp[fresh,aH,aB,dN,inObs,Pv.look,jv]),by simp⟩
  ·(with_reducible repeat' first|refine ak ?_|refine aE (sF s b.v ag.len) ?_|refine aF (sF s b.v ag.len) ?_|simp[gn,hi,ae]);refine bL.rng out hi (by
    have:dd s b.v≠none:=fun e=>ae (p3.2 e);rw[qa,ql aK,gp,List.filter_append,af];cases e:dd s b.v with
    |none=>exact absurd e this
    |some x=>simp[gp,e]) ?_
   exact b4
def Es(t:List aq)(i:Nat)(out:List aq):Prop:=out=t.take i
theorem Vh(t:List aq)(aO:t.length≤1000000):bI ao 168 [.slice 5 .no (t.map aq.e)] (.slice 5 .no (t.map aq.e)):=by
 refine br qm Y6 aft fun aR=>?_;unfold MV;simp;refine ik (α:=List aq) (fun i out=>⟨[(7,.slice 5 .no (t.map aq.e)),(8,.int .i64 t.length),(3,.slice 5 (.own (.loc 0)) (out.map aq.e)),(9,.int .i64 i)],[],[(.loc 0,⟨out.length,113,5,none⟩)],1,[]⟩) t.length (Es t) [] b4 (by simp[Es]) (fun out af _=>?_) (fun i out hi af _=>?_)
 ·rw[Es,hq (eQ _)]at af;subst af;exact ct
 ·obtain⟨b,aK,gn⟩:=ep hi;have Bj:out.length≤1000000:=by rw[af];simp;omega
  simp[hi,gn];(with_reducible repeat' first|refine ak ?_|refine aE (sD _) ?_|refine aF (sD _) ?_|simp[gn,hi]);all_goals first|(refine⟨by unfold lim;omega,?_⟩)|skip
  (with_reducible repeat' first|refine ak ?_|simp);refine bL.rng (out++[b]) hi (by rw[Es,ql aK,af]) ?_;simp;exact⟨by simp[fresh,aH,aB,cf,inObs,Pv.look,jv],eh (by simp[fresh,aH,aB,cf,inObs,Pv.look,jv]),ei (by simp[fresh,aH,aB,dN,inObs,Pv.look,jv]),by simp⟩
def q7(t:List aq)(b:aq):Bool:=decide (cx t b.v=b.t.ap (cx t))
def mI(s t:List aq):Bool:=s.all (q7 t)
theorem Cu{t:List aq}(aO:eG t)(v:Int):(cx t v).size≤5000:=by
 unfold cx;cases e:dd t v with
 |none=>simp[T.size]
 |some x=>exact aO.fits.2 _ (jH e)
theorem Vt(s:List aq){t:List aq}(ag:s.length≤1000000)(aO:eG t):bI ao 208 [.slice 5 .no (s.map aq.e),.slice 5 .no (t.map aq.e)] (.bool (mI s t)):=by
 refine br qm Zb afy fun aR=>?_;unfold M0;simp;refine dU [1,11,12] (fun i (_:Unit)=>[(13,.int .i64 i)]) s.length (q1 (q7 t) s) () b4 (fun k b ab=>by omega) (fun _ af _=>?_) (fun i _ hi af _=>?_)
 ·have:mI s t=true:=by rw[mI,ja];intro b ae;obtain⟨k,ab,e⟩:=mS ae;exact af k b ab (by rw[ca ab,e])
  rw[this];exact ct
 ·obtain⟨b,aK,gn⟩:=ep hi;have gl:q7 t b=false→mI s t=false:=fun h=>by rw[Bool.eq_false_iff];intro cp;rw[mI,ja]at cp;rw[cp b (eP aK)]at h;cases h
  have a8:=Ga t (.var b.v) aO.len aO.sol.asc aO.fit;have bU:=Ga t b.t aO.len aO.sol.asc aO.fit;have wZ:=Cu aO b.v;have Ek:((T.var b.v).ap (cx t)).size≤5000:=wZ;rw[if_pos Ek,nz Ek]at a8;rw[show(T.var b.v).ap (cx t)=cx t b.v from rfl]at a8;simp[hi,gn];by_cases bC:(b.t.ap (cx t)).size≤5000
  ·rw[if_pos bC,nz bC]at bU;by_cases he:cx t b.v=b.t.ap (cx t)
   ·rw[he]at a8;(with_reducible repeat' first|refine ak ?_|refine aE (ku _) ?_|refine aF (ku _) ?_|refine aE a8 ?_|refine aF a8 ?_|refine aE bU ?_|refine aF bU ?_|refine aE (sE _ _) ?_|refine aF (sE _ _) ?_|simp[gn,hi,he]);exact bL.rng () hi (af.step aK (by simp[q7,he])) b4
   ·rw[gl (by simp[q7,he])];(with_reducible repeat' first|refine ak ?_|refine aE (ku _) ?_|refine aF (ku _) ?_|refine aE a8 ?_|refine aF a8 ?_|refine aE bU ?_|refine aF bU ?_|refine aE (sE _ _) ?_|refine aF (sE _ _) ?_|simp[gn,hi,he]);simp[bA,Kh,aV,aY,aU]
  ·rw[if_neg bC,oe bC]at bU;rw[gl (by simp only[q7,hx];intro e;rw[←e]at bC;exact bC wZ)];(with_reducible repeat' first|refine ak ?_|refine aE (ku _) ?_|refine aF (ku _) ?_|refine aE a8 ?_|refine aF a8 ?_|refine aE bU ?_|refine aF bU ?_|refine aE (sE _ _) ?_|refine aF (sE _ _) ?_|simp[gn,hi]);simp[bA,Kh,aV,aY,aU]
theorem BJ(c:aq→aq→Int):∀a b:List aq,a=[]∨b=[]→jy c a b=en a.length b.length
 |[],[],_=>by simp[jy,en]
 |[],_::_,_=>by simp[jy,en]<;>omega
 |_::_,[],_=>by simp[jy,en]<;>omega
 |_::_,_::_,h=>by simp at h
theorem S7(x y:aq)(xs ys:List aq):ek (x::xs) (y::ys)=if en x.v y.v=0 then(if eg x.t y.t=0 then ek xs ys else eg x.t y.t)else en x.v y.v:=by
 by_cases aZ:en x.v y.v=0
 ·by_cases bB:eg x.t y.t=0<;>simp[ek,jy,xp,aZ,bB]
 ·simp[ek,jy,xp,aZ]
theorem S8(a b k:Int):en (a-k) (b-k)=en a b:=by unfold en;(repeat' split)<;>omega
def I2(d e:List aq)(i:Nat):Prop:=i≤d.length∧i≤e.length∧ek (d.drop i) (e.drop i)=ek d e
theorem F8(d e:List aq):bI ao 207 [.slice 5 .no (d.map aq.e),.slice 5 .no (e.map aq.e)] (.int .i64 (ek d e)):=by
 generalize bh:ek d e=R;refine br qm Ze afB fun aR=>?_;unfold M3;have aP:d.length≤68719476736:=by simp[eE,ej,eu,lim]at aR;omega
 have he:e.length≤68719476736:=by simp[eE,ej,eu,lim]at aR;omega
 simp;refine uC [0,1] (fun(i:Nat)=>[(5,.int .i64 i)]) (fun i=>d.length-i) (I2 d e) 0 b4 ⟨by omega,by omega,by simp⟩ (fun i af _=>?_);obtain⟨J,U,al⟩:=af;rw[bh]at al;by_cases hi:i<d.length
 ·by_cases ho:i<e.length
  ·obtain⟨x,ad⟩:∃x,d[i]? =some x:=⟨_,ca hi⟩;obtain⟨y,aL⟩:∃y,e[i]? =some y:=⟨_,ca ho⟩;have cz:∀h,(d[i]'h)=x:=fun h=>by rw[ca hi]at ad;exact fw ad
   have eA:∀h,(e[i]'h)=y:=fun h=>by rw[ca ho]at aL;exact fw aL
   have yA:d.drop i=x::d.drop (i+1):=by rw[kQ hi,cz]
   have yB:e.drop i=y::e.drop (i+1):=by rw[kQ ho,eA]
   rw[yA,yB]at al;rw[S7]at al;simp[hi,ho,cz,eA];by_cases aZ:en x.v y.v=0
   ·rw[if_pos aZ]at al;by_cases bB:eg x.t y.t=0
    ·rw[if_pos bB]at al;(with_reducible repeat' first|refine ak ?_|refine aE (nu _ _) ?_|refine aF (nu _ _) ?_|refine aE (z1 _ _) ?_|refine aF (z1 _ _) ?_|simp[cz,eA,hi,ho,aZ,bB]);refine bL.whl (i+1) (by omega) ⟨by omega,by omega,by rw[bh];exact al⟩ ?_;exact b4
    ·rw[if_neg bB]at al;((with_reducible repeat' first|refine ak ?_|refine aE (nu _ _) ?_|refine aF (nu _ _) ?_|refine aE (z1 _ _) ?_|refine aF (z1 _ _) ?_|simp[cz,eA,hi,ho,aZ,bB]|((first|apply bO|apply bS|apply bR)<;>intro h<;>try simp at h))<;>(try exact cq));simp[bA,Ce,aV,aY,aU];exact al
   ·rw[if_neg aZ]at al;((with_reducible repeat' first|refine ak ?_|refine aE (nu _ _) ?_|refine aF (nu _ _) ?_|simp[cz,eA,hi,ho,aZ]|((first|apply bO|apply bS|apply bR)<;>intro h<;>try simp at h))<;>(try exact cq));simp[bA,Ce,aV,aY,aU];exact al
  ·have:en d.length e.length=R:=by rw[←al,ek,BJ _ _ _ (.inr (List.drop_eq_nil_of_le (by omega)))];rw[←S8 d.length e.length i];simp only[rC];congr 1<;>omega
   simp[hi,ho];(with_reducible repeat' first|refine ak ?_|refine aE (nu _ _) ?_|refine aF (nu _ _) ?_|simp[hi,ho]);simp[bA,Ce,aV,aY,aU];exact this
 ·have:en d.length e.length=R:=by rw[←al,ek,BJ _ _ _ (.inl (List.drop_eq_nil_of_le (by omega)))];rw[←S8 d.length e.length i];simp only[rC];congr 1<;>omega
  simp[hi];(with_reducible repeat' first|refine ak ?_|refine aE (nu _ _) ?_|refine aF (nu _ _) ?_|simp[hi]);simp[bA,Ce,aV,aY,aU];exact this
theorem Vj(a b:List aq)(bD:a.length≤1000000):bI ao 169 [.slice 5 .no (a.map aq.e),.slice 5 .no (b.map aq.e)] (.bool (decide (a=b))):=by
 by_cases au:a.length=b.length;rotate_left
 ·have bs:decide (a=b)=false:=by simp only[hx];rintro rfl;exact au rfl
  have r2:((a.length:Int) !=(b.length:Int))=true:=by simp;omega
  have nN:¬(a.length:Int)=b.length:=by omega
  rw[bs];refine br qm Pd SU fun aR=>?_;unfold GR;exact ct
 ·generalize bh:decide (a=b)=R;refine br qm Pd SU fun aR=>?_;unfold GR;simp;(with_reducible repeat' first|refine ak ?_|simp[au]);refine dU [0,1,12] (fun i (_:Unit)=>[(13,.int .i64 i)]) b.length (fun i (_:Unit)=> ∀k,k<i→a[k]? =b[k]?) () b4 (fun k ab=>by omega) (fun _ af _=>?_) (fun i _ hi af _=>?_)
  ·have:R=true:=by
    rw[←bh,fx];apply List.ext_getElem?;intro k;by_cases ab:k<b.length
    ·exact af k ab
    ·rw[pJ (by omega),pJ (by omega)]
   rw[this];exact ct
  ·obtain⟨x,ad⟩:∃x,a[i]? =some x:=⟨_,ca (by omega)⟩;obtain⟨y,aL⟩:∃y,b[i]? =some y:=⟨_,ca hi⟩;have fW:i<a.length:=by omega
   have cz:∀h,(a[i]'h)=x:=fun h=>by rw[ca fW]at ad;exact fw ad
   have eA:∀h,(b[i]'h)=y:=fun h=>by rw[ca hi]at aL;exact fw aL
   have gl:x≠y→R=false:=fun h=>by rw[←bh,hx];rintro rfl;rw[ad]at aL;cases aL;exact h rfl
   simp[hi,fW,cz,eA];by_cases aZ:x.v=y.v
   ·have sp:(x.v !=y.v)=false:=by simp[aZ]
    by_cases bB:x.t=y.t
    ·(with_reducible repeat' first|refine ak ?_|refine aE (sE _ _) ?_|refine aF (sE _ _) ?_|simp[cz,eA,hi,fW,aZ,sp,bB]);refine bL.rng () hi (fun k ab=>?_) ?_
     ·rcases(by omega:k<i∨k=i)with h|rfl
      ·exact af k h
      ·rw[ad,aL];cases x;cases y;simp_all
     ·exact b4
    ·rw[gl (fun e=>bB (by rw[e]))];(with_reducible repeat' first|refine ak ?_|refine aE (sE _ _) ?_|refine aF (sE _ _) ?_|simp[cz,eA,hi,fW,aZ,sp,bB]);simp[bA,TA,aV,aY,aU]
   ·have sp:(x.v !=y.v)=true:=by simp[aZ]
    rw[gl (fun e=>aZ (by rw[e]))];exact ct
def iv(l:List (List aq))(e:List aq):Bool:=l.all fun d=>decide (d=e)|| !mI d e
theorem adS{l aX:List (List aq)}(h:∀x,x∈l↔x∈aX)(e:List aq):iv l e=iv aX e:=by rw[pH,iv,iv,ja,ja];exact⟨fun J x ad=>J x ((h x).2 ad),fun J x ad=>J x ((h x).1 ad)⟩
def kq(l:List (List aq)):List (List aq):=(asc ek l).filter (iv l)
theorem zd{l:List (List aq)}{x:List aq}:x∈kq l↔x∈l∧iv l x=true:=by rw[kq,mT,Sq]
theorem Sx(l:List (List aq)):hy ek (kq l):=(GC la l).filter _
theorem Sy{l aX:List (List aq)}(bD:hy ek aX)(hm:∀x,x∈aX↔x∈l∧iv l x=true):kq l=aX:=(Sx l).ext la bD fun x=>by rw[hm,zd]
structure eJ where
 n:Int
 b:List aq
 d:List (List aq)
 k:List bG
 m:List bf
 deriving DecidableEq,Inhabited
noncomputable def gx(b:List aq)(k:List bG)(m:List bf):List (List aq)→aW (List (List aq))
 |[]=>some []
 |d::r=>match mgu b (hs d)with
  |none=>gx b k m r
  |some x=>if fR x k []=none∨fS x m []=none then gx b k m r else if gp b x=[]then none else(gx b k m r).map (gp b x:: ·)
def kc(k:List bG)(x:bf):Bool:=kJ k x.v !=some 3
noncomputable def mN(s:eJ):aW eJ:=match fR s.b s.k []with
 |none=>none
 |some k=>match fS s.b s.m []with
  |none=>none
  |some m=>match gx s.b k (m.filter (kc k)) s.d with
   |none=>none
   |some L=>if(kq L).length≤30 then some ⟨s.n,s.b,kq L,k,m.filter (kc k)⟩else none
def v8(t:T)(n:Int):Prop:= ∀v,t.occ v=true→v<n
def o1(l:List aq)(n:Int):Prop:= ∀b∈l,b.v<n∧v8 b.t n
structure xI (s:eJ):Prop where
 n:0≤s.n∧s.n≤100000
 b:eG s.b
 d:∀x∈s.d,eG x
 k:iI s.k
 m:iJ s.m
 bb:o1 s.b s.n
 db:∀x∈s.d,o1 x s.n
 kb:∀x∈s.k,x.v<s.n
 mb:∀x∈s.m,x.v<s.n
def UC(s:eJ):Prop:=xI s∧mN s=some s
theorem zM{s:List aq}(ag:eG s){v:Int}(aK:0≤v∧v≤100000):(cx s v).ok=true:=by have:=FL ag.ok (t:= .var v) (by simpa[T.ok]using aK);exact this
theorem Fv{s:List aq}(ag:eG s):∀{l acc a:List bG},(∀x∈l,(0≤x.v∧x.v≤100000)∧(x.k=2∨x.k=3))→iI acc→fR s l acc=some a→iI a
 |[],acc,a,_,h,he=>by simp only[fR,dz]at he;rw[←he];exact h
 |x::r,acc,a,au,h,he=>by
  simp only[fR]at he;split at he
  ·rename_i bz aj;have ad:=au x (by simp);exact Fv ag (fun y aL=>au y (by simp[aL])) (Gv h (zM ag ad.1) ad.2 aj) he
  ·cases he
theorem Fw{s:List aq}(ag:eG s):∀{l acc a:List bf},(∀x∈l,(0≤x.v∧x.v≤100000)∧jl x.s=true)→iJ acc→fS s l acc=some a→iJ a
 |[],acc,a,_,h,he=>by simp only[fS,dz]at he;rw[←he];exact h
 |x::r,acc,a,au,h,he=>by
  simp only[fS]at he;split at he
  ·rename_i bz aj;have ad:=au x (by simp);exact Fw ag (fun y aL=>au y (by simp[aL])) (Gx h (zM ag ad.1) ad.2 aj) he
  ·cases he
def np(G:List (List dA))(l:List bf):Prop:= ∀x∈l,x.s∈G
theorem Gy{G:List (List dA)}{l aX:List bf}{t:T}{s:List dA}(h:np G l)(ag:s∈G)(he:lp l t s=some aX):np G aX:=fun x ad=>by
 rcases(BQ he x).1 ad with J|⟨J,_⟩
 ·exact h x J
 ·rw[J];exact ag
theorem KC{G:List (List dA)}{s:List aq}:∀{l acc a:List bf},np G l→np G acc→fS s l acc=some a→np G a
 |[],acc,a,_,h,he=>by simp only[fS,dz]at he;rw[←he];exact h
 |x::r,acc,a,au,h,he=>by
  simp only[fS]at he;split at he
  ·rename_i bz aj;exact KC (fun y aL=>au y (by simp[aL])) (Gy h (au x (by simp)) aj) he
  ·cases he
theorem ag4{α:Type}[DecidableEq α]:∀{G:List α} {l:List (Nat×α)},l.Nodup→(∀x∈l,x.1<100001∧x.2∈G)→l.length≤100001*G.length:=by
 intro G l aA h;have:=LM aA (l₂:=(List.range 100001).flatMap fun i=>G.map fun g=>(i,g)) (fun x ad=>by obtain⟨J,U⟩:=h x ad;rw[List.mem_flatMap];exact⟨x.1,List.mem_range.2 J,iC.2 ⟨x.2,U,rfl⟩⟩)
 have e:((List.range 100001).flatMap fun i=>G.map fun g=>(i,g)).length=100001*G.length:=by
  generalize 100001=n;induction n with
  |zero=>simp
  |succ n bM=>rw[List.range_succ,List.flatMap_append,oV,bM];simp[Nat.succ_mul]
 omega
theorem BO{G:List (List dA)}{l:List bf}(h:iJ l)(a1:np G l):l.length≤100001*G.length:=by
 have J:(l.map fun x=>(x.v.toNat,x.s)).Nodup:=by rw[List.nodup_iff_pairwise_ne,List.pairwise_map];refine akN (fun{a b} bD ae cC e=>cC ?_) (h.asc.nodup lb);have:=(h.at' a bD).1;have:=(h.at' b ae).1;simp only[jb]at e;cases a;cases b;simp only[bf.mk.injEq];simp only at*;exact⟨by omega,e.2⟩
 have:=ag4 (G:=G) J fun x ad=>by obtain⟨y,aL,rfl⟩:=iC.1 ad;have:=(h.at' y aL).1;exact⟨by simp;omega,a1 y aL⟩
 simpa using this
def vG(m:List bf):Prop:= ∃G:List (List dA),G.length≤687000∧np G m
theorem vG.len{m:List bf}(h:vG m)(hm:iJ m):m.length≤68719470000:=by obtain⟨G,J,U⟩:=h;have:=BO hm U;omega
theorem vG.of{m:List bf}(h:m.length≤687000):vG m:=⟨m.map (·.s),by simpa using h,fun _ ad=>List.mem_map_of_mem ad⟩
theorem aip{s:List aq}(h:eG s)(p:aq→Bool):eG (s.filter p):=by
 have mD:∀b∈s.filter p,b∈s:=fun b ae=>(mT.1 ae).1;have aA:∀w,dd s w=none→dd (s.filter p) w=none:=fun w hw=>by rw[uq]at hw⊢;exact fun b ae=>hw b (mD b ae)
 exact⟨fun b ae=>h.ok b (mD b ae),⟨VQ p h.sol.asc,fun b ae w hw=>aA w (h.sol.free b (mD b ae) w hw),fun b ae=>h.sol.ori b (mD b ae)⟩,
  jT (List.length_filter_le _ _) h.fits.1,fun b ae=>h.fits.2 b (mD b ae)⟩
theorem EX{b x:List aq}(h:eG x):eG (gp b x):=aip h _
theorem ae0{b x:List aq}(ae:fu b)(ad:fu x)(aI:hg x)(h:∀aN,gC x aN→gC b aN):ie b (hs (gp b x)) (some x):=by
 refine⟨⟨ad,aI⟩,fun aN=>⟨fun hb=>⟨h aN hb,fun e he=>?_⟩,fun⟨J,U⟩ c aw=>?_⟩⟩
 ·obtain⟨c,aw,rfl⟩:=iC.1 he;exact hb c (mT.1 aw).1
 ·have j3:∀c∈x,dd b c.v=none→aN c.v=c.t.ap aN:=fun c aw aA=>by have:=U (.var c.v,c.t) (iC.2 ⟨c,mT.2 ⟨aw,by simp[aA]⟩,rfl⟩);exact this
  have wG:∀w,dd b w=none→(cx x w).ap aN=aN w:=fun w hw=>by
   unfold cx;cases e:dd x w with
   |none=>rfl
   |some t=>have hm:=jH e;exact(j3 _ hm hw).symm
  cases e:dd b c.v with
  |none=>exact j3 c aw e
  |some t=>
   have aj:aN c.v=t.ap aN:=J _ (jH e);have aC:=h (cx x) (xG ad) _ (jH e);simp only at aC;have bg:cx x c.v=c.t:=by unfold cx;rw[uo ad.asc aw];rfl
   rw[bg]at aC;rw[aj,aC,Ak];exact sS fun w hw=>(wG w (ae.free _ (jH e) w hw)).symm
theorem aeF{s:List aq}(ag:fu s)(aI:hg s){E:List (T×T)}{x:List aq}(h:mgu s E=some x):∀aN,gC x aN↔gC s aN∧jf E aN:=by have:=EU ag aI E;rw[h]at this;exact this.2
theorem aeC{s:List aq}(ag:fu s)(aI:hg s){E:List (T×T)}{x:List aq}(h:mgu s E=some x):mgu s (hs (gp s x))=some x:=q8 (ae0 ag (zc ag aI h).1 (zc ag aI h).2 fun aN hb=>((aeF ag aI h aN).1 hb).1)
theorem aeE(p:Int→Prop){E:List (T×T)}:∀{s ai:List aq},fu s→hg s→(∀b∈s,p b.v∧∀w,b.t.occ w=true→p w)→(∀e∈E,(∀w,e.1.occ w=true→p w)∧∀w,e.2.occ w=true→p w)→mgu s E=some ai→∀b∈ai,p b.v∧∀w,b.t.occ w=true→p w:=by
 induction E with
 |nil=>intro s ai ag aI J _ h;rw[JF ag aI]at h;cases h;exact J
 |cons e E bM=>
  intro s ai ag aI J U h;rw[JE ag aI]at h;split at h
  ·rename_i s1 aj;obtain⟨V,jK⟩:∃V,V=s.flatMap (fun b=>b.v::mQ b.t)++mQ e.1++mQ e.2:=⟨_,rfl⟩;have P5:∀w∈V,p w:=by
    intro w hw;rw[jK]at hw;simp only[ki,List.mem_flatMap,fU]at hw;rcases hw with(⟨b,ae,rfl|hw⟩|hw)|hw
    ·exact(J b ae).1
    ·exact(J b ae).2 w (CJ.1 hw)
    ·exact(U e (by simp)).1 w (CJ.1 hw)
    ·exact(U e (by simp)).2 w (CJ.1 hw)
   obtain⟨n,o,iA,iY,pC⟩:=U6 V _ _ s e.1 e.2 ag aI (fun c aw=>⟨by rw[jK];simp only[ki,List.mem_flatMap];exact .inl (.inl ⟨c,aw,by simp⟩),fun w hw=>by rw[jK];simp only[ki,List.mem_flatMap];exact .inl (.inl ⟨c,aw,by simp[xe hw]⟩)⟩)
    (fun w hw=>by rw[jK];simp only[ki];exact .inl (.inr (xe hw))) (fun w hw=>by rw[jK];simp only[ki];exact .inr (xe hw)) rfl rfl
   have xP:=q8 iY;rw[aj]at xP;subst xP;obtain⟨U5,_⟩:=pC s1 rfl;have oK:=zc ag aI aj;exact bM oK.1 oK.2 (fun b ae=>⟨P5 _ (U5 b ae).1,fun w hw=>P5 w ((U5 b ae).2 w hw)⟩) (fun fB he=>U fB (by simp[he])) h
  ·cases h
theorem aiw{s:List aq}(ag:fu s){v n:Int}(h:cx s v= .var n):dd s n=none:=by have:=KY ag (t:= .var v) (w:=n) (by show(cx s v).occ n=true;rw[h];simp[T.occ]);exact this
theorem L0{l aX:List bG}{t:T}{k:Int}(h:jU l t k=some aX):∀x∈aX,x∈l∨t= .var x.v:=by
 unfold jU at h;split at h
 ·rename_i n;split at h
  ·split at h
   ·cases h;exact fun x ad=>.inl ad
   ·cases h
  ·cases h;intro x ad;rcases ES.1 ad with rfl|ad
   ·exact .inr rfl
   ·exact .inl ad
 ·split at h
  ·cases h;exact fun x ad=>.inl ad
  ·cases h
theorem T2{s:List aq}(ag:fu s):∀{l acc a:List bG},(∀x∈acc,dd s x.v=none)→fR s l acc=some a→∀x∈a,dd s x.v=none
 |[],acc,a,h,he=>by simp only[fR,dz]at he;rw[←he];exact h
 |y::r,acc,a,h,he=>by
  simp only[fR]at he;split at he
  ·rename_i bz aj;refine T2 ag (fun x ad=>?_) he;rcases L0 aj x ad with J|J
   ·exact h x J
   ·exact aiw ag J
  ·cases he
theorem Rk{x:bG}:∀{l:List bG},(∀y∈l,y.v<x.v)→k7 x l=l++[x]
 |[],_=>rfl
 |y::l,h=>by simp only[k7,if_pos (h y (by simp)),Rk (l:=l) fun z bC=>h z (by simp[bC]),bN]
theorem T3{s:List aq}:∀{l acc:List bG},(acc++l).Pairwise (fun x y=>x.v<y.v)→(∀x∈l,dd s x.v=none)→fR s l acc=some (acc++l)
 |[],acc,_,_=>by simp[fR]
 |x::r,acc,bD,aI=>by
  have J:∀y∈acc,y.v<x.v:=fun y aL=>(List.pairwise_append.1 bD).2.2 y aL x (by simp);have U:kJ acc x.v=none:=w7.2 fun y aL=>by have:=J y aL;omega
  have al:jU acc (cx s x.v) x.k=some (acc++[x]):=by rw[zL (aI x (by simp))];simp only[jU,U];rw[Rk J]
  simp only[fR,al];rw[T3 (by simpa using bD) fun y aL=>aI y (by simp[aL])];simp
theorem T5{s:List aq}(ag:fu s):∀{l acc a:List bf},(∀x∈acc,dd s x.v=none)→fS s l acc=some a→∀x∈a,dd s x.v=none
 |[],acc,a,h,he=>by simp only[fS,dz]at he;rw[←he];exact h
 |y::r,acc,a,h,he=>by
  simp only[fS]at he;split at he
  ·rename_i bz aj;refine T5 ag (fun x ad=>?_) he;rcases(BQ aj x).1 ad with J|⟨_,J⟩
   ·exact h x J
   ·exact KY ag (t:= .var y.v) J
  ·cases he
theorem T6{s:List aq}:∀{l acc:List bf},hy e5 (acc++l)→(∀x∈l,dd s x.v=none)→fS s l acc=some (acc++l)
 |[],acc,_,_=>by simp[fS]
 |x::r,acc,bD,aI=>by
  have al:lp acc (cx s x.v) x.s=some (acc++[x]):=by
   rw[zL (aI x (by simp))];refine Gw rfl (apC ?_ bD) fun z=>?_
   ·simp
   ·simp only[ki,List.mem_singleton,T.occ,dG];refine or_congr_right ⟨fun h=>by rw[h];exact⟨rfl,rfl⟩,fun⟨J,U⟩=>?_⟩;cases z;cases x;simp_all
  simp only[fS,al];rw[T6 (by simpa using bD) fun y aL=>aI y (by simp[aL])];simp
def CC(b:List aq)(k:List bG)(m:List bf)(d:List aq):Prop:= ∃x,mgu b (hs d)=some x∧¬(fR x k []=none∨fS x m []=none)∧gp b x=d∧d≠[]
theorem EI{b:List aq}(ae:eG b){k:List bG}{m:List bf}:∀{l L:List (List aq)},gx b k m l=some L→∀d∈L,CC b k m d
 |[],L,h=>by simp only[gx,dz]at h;rw[←h];simp
 |d0::r,L,h=>by
  simp only[gx]at h;split at h
  ·exact EI ae h
  ·rename_i x ad;split at h
   ·exact EI ae h
   ·rename_i ab;split at h
    ·cases h
    ·rename_i aA;rw[gA]at h;obtain⟨LU,J,rfl⟩:=h;intro d aP;rcases fU.1 aP with rfl|aP
     ·exact⟨x,aeC ae.sol ae.fits ad,ab,rfl,aA⟩
     ·exact EI ae J d aP
theorem R5{b:List aq}{k:List bG}{m:List bf}:∀{L:List (List aq)},(∀d∈L,CC b k m d)→gx b k m L=some L
 |[],_=>rfl
 |d::L,h=>by obtain⟨x,J,U,al,a6⟩:=h d (by simp);simp only[gx,J,if_neg U,al,if_neg a6,R5 (L:=L) fun e he=>h e (by simp[he]),ny]
theorem EH{b:List aq}(ae:eG b){k:List bG}{m:List bf}:∀{l L:List (List aq)},(∀d∈l,eG d)→gx b k m l=some L→∀d∈L,eG d
 |[],L,_,h=>by simp only[gx,dz]at h;rw[←h];simp
 |d0::r,L,au,h=>by
  simp only[gx]at h;split at h
  ·exact EH ae (fun d aP=>au d (by simp[aP])) h
  ·rename_i x ad;split at h
   ·exact EH ae (fun d aP=>au d (by simp[aP])) h
   ·split at h
    ·cases h
    ·rw[gA]at h;obtain⟨LU,J,rfl⟩:=h;intro d aP;rcases fU.1 aP with rfl|aP
     ·exact EX (ae.mgu (fun e he=>by obtain⟨c,aw,rfl⟩:=iC.1 he;have:=(au d0 (by simp)).ok c aw;exact⟨by simpa[T.ok]using this.1,this.2⟩) ad)
     ·exact EH ae (fun d aP=>au d (by simp[aP])) J d aP
theorem EG{b:List aq}(ae:eG b){n:Int}(aA:o1 b n){k:List bG}{m:List bf}:∀{l L:List (List aq)},(∀d∈l,o1 d n)→gx b k m l=some L→∀d∈L,o1 d n
 |[],L,_,h=>by simp only[gx,dz]at h;rw[←h];simp
 |d0::r,L,au,h=>by
  simp only[gx]at h;split at h
  ·exact EG ae aA (fun d aP=>au d (by simp[aP])) h
  ·rename_i x ad;split at h
   ·exact EG ae aA (fun d aP=>au d (by simp[aP])) h
   ·split at h
    ·cases h
    ·rw[gA]at h;obtain⟨LU,J,rfl⟩:=h;intro d aP;rcases fU.1 aP with rfl|aP
     ·have:=aeE (fun v=>v<n) ae.sol ae.fits aA (fun e he=>by obtain⟨c,aw,rfl⟩:=iC.1 he;have:=au d0 (by simp) c aw;exact⟨fun w hw=>by simp[T.occ]at hw;subst hw;exact this.1,this.2⟩) ad
      exact fun c aw=>this c (mT.1 aw).1
     ·exact EG ae aA (fun d aP=>au d (by simp[aP])) J d aP
theorem aeI{L:List (List aq)}:kq (kq L)=kq L:=Sy (Sx L) fun x=>by rw[zd,and_assoc];refine⟨fun⟨J,U⟩=>⟨J,U,?_⟩,fun⟨J,U,_⟩=>⟨J,U⟩⟩;rw[iv,ja]at U⊢;exact fun d aP=>U d (zd.1 aP).1
theorem Ry{b:List aq}(ae:eG b){n:Int}(aA:o1 b n){v w:Int}(aK:v<n)(h:(cx b v).occ w=true):w<n:=by
 unfold cx at h;cases e:dd b v with
 |none=>rw[e]at h;simp[T.occ]at h;omega
 |some t=>rw[e]at h;exact(aA _ (jH e)).2 w h
theorem T1{b:List aq}(ae:eG b){n:Int}(aA:o1 b n):∀{l acc a:List bG},(∀x∈l,x.v<n)→(∀x∈acc,x.v<n)→fR b l acc=some a→∀x∈a,x.v<n
 |[],acc,a,_,h,he=>by simp only[fR,dz]at he;rw[←he];exact h
 |y::r,acc,a,au,h,he=>by
  simp only[fR]at he;split at he
  ·rename_i bz aj;refine T1 ae aA (fun x ad=>au x (by simp[ad])) (fun x ad=>?_) he;rcases L0 aj x ad with J|J
   ·exact h x J
   ·exact Ry ae aA (au y (by simp)) (by rw[J];simp[T.occ])
  ·cases he
theorem T4{b:List aq}(ae:eG b){n:Int}(aA:o1 b n):∀{l acc a:List bf},(∀x∈l,x.v<n)→(∀x∈acc,x.v<n)→fS b l acc=some a→∀x∈a,x.v<n
 |[],acc,a,_,h,he=>by simp only[fS,dz]at he;rw[←he];exact h
 |y::r,acc,a,au,h,he=>by
  simp only[fS]at he;split at he
  ·rename_i bz aj;refine T4 ae aA (fun x ad=>au x (by simp[ad])) (fun x ad=>?_) he;rcases(BQ aj x).1 ad with J|⟨_,J⟩
   ·exact h x J
   ·exact Ry ae aA (au y (by simp)) J
  ·cases he
theorem ait{s ai:eJ}(h:xI s)(he:mN s=some ai):UC ai∧ai.n=s.n∧ai.b=s.b:=by
 unfold mN at he;split at he
 ·cases he
 rename_i k ab;split at he
 ·cases he
 rename_i m hm;split at he
 ·cases he
 rename_i L jg;split at he;rotate_left
 ·cases he
 rename_i kW;cases he;have a8:=Fv h.b h.k.at' ⟨by simp,by simp⟩ ab;have m1:=Fw h.b h.m.at' ⟨by simp,by simp[hy]⟩ hm;have m2:iJ (m.filter (kc k)):=⟨fun x ad=>m1.at' x (mT.1 ad).1,VQ _ m1.asc⟩;have c9:=EI h.b jg;have wV:=EH h.b h.d jg;refine⟨⟨⟨h.n,h.b,fun x ad=>wV x (zd.1 ad).1,a8,m2,h.bb,fun x ad=>EG h.b h.bb h.db jg x (zd.1 ad).1,T1 h.b h.bb h.kb (by simp) ab,fun x ad=>T4 h.b h.bb h.mb (by simp) hm x (mT.1 ad).1⟩,?_⟩,rfl,rfl⟩;unfold mN;have aj:fR s.b k []=some k:=T3 (acc:=[]) a8.asc (T2 h.b.sol (by simp) ab);have aC:fS s.b (m.filter (kc k)) []=some (m.filter (kc k)):=T6 (acc:=[]) m2.asc fun x ad=>T5 h.b.sol (by simp) hm x (mT.1 ad).1;have bg:(m.filter (kc k)).filter (kc k)=m.filter (kc k):=by rw[List.filter_filter];simp
 have da:gx s.b k (m.filter (kc k)) (kq L)=some (kq L):=R5 fun d aP=>c9 d (zd.1 aP).1;simp only[aj,aC,bg,da,aeI,if_pos kW]
theorem sd{α:Type}{s:List α}{i:Nat}{t:α}(h:s[i]? =some t):s.drop i=t::s.drop (i+1):=by obtain⟨hi,e⟩:=fH.1 h;rw[kQ hi,e]
def pt(L:List (List aq))(a:List (List aq))(e:List aq):List (List aq):=if iv L e=true then jN ek e a else a
theorem JG{L:List (List aq)}:∀(xs:List (List aq)) {a:List (List aq)},hy ek a→hy ek (xs.foldl (pt L) a)
 |[],_,h=>h
 |x::xs,a,h=>JG xs (a:=pt L a x) (by unfold pt;split<;>first|exact IX la h|exact h)
theorem SA{L:List (List aq)}{x:List aq}:∀(xs:List (List aq)) {a:List (List aq)},x∈xs.foldl (pt L) a↔x∈a∨(x∈xs∧iv L x=true)
 |[],a=>by simp
 |y::xs,a=>by
  rw[List.foldl_cons,SA xs,fU];unfold pt;by_cases ab:iv L y=true
  ·rw[if_pos ab,ER la];constructor
   ·rintro((rfl|h)|h)
    ·exact .inr ⟨.inl rfl,ab⟩
    ·exact .inl h
    ·exact .inr ⟨.inr h.1,h.2⟩
   ·rintro(h|⟨rfl|J,U⟩)
    ·exact .inl (.inr h)
    ·exact .inl (.inl rfl)
    ·exact .inr ⟨J,U⟩
  ·rw[if_neg ab];constructor
   ·rintro(h|h)
    ·exact .inl h
    ·exact .inr ⟨.inr h.1,h.2⟩
   ·rintro(h|⟨rfl|J,U⟩)
    ·exact .inl h
    ·exact absurd U ab
    ·exact .inr ⟨J,U⟩
theorem Sz{L:List (List aq)}:∀(xs a:List (List aq)),(xs.foldl (pt L) a).length≤a.length+xs.length
 |[],a=>by simp
 |y::xs,a=>by
  have J:=Sz (L:=L) xs (pt L a y);have U:(pt L a y).length≤a.length+1:=by
   unfold pt;split
   ·exact IZ _ _
   ·omega
  simp only[List.foldl_cons,pK];omega
theorem aeK(L:List (List aq)):kq L=L.foldl (pt L) []:=Sy (JG L (by simp[hy])) fun x=>by rw[SA];simp
def w5(L:List (List aq))(i:Nat)(a:List (List aq)):Prop:=a=(L.take i).foldl (pt L) []
theorem w5.step{L:List (List aq)}{i:Nat}{a:List (List aq)}(h:w5 L i a){e:List aq}(he:L[i]? =some e):w5 L (i+1) (pt L a e):=by rw[w5,ql he,List.foldl_append,h];rfl
def vd(e d:List aq):Bool:=decide (d=e)|| !mI d e
def pe(L:List (List aq))(e:List aq)(j:Nat)(k:Bool):Prop:=k=(L.take j).all (vd e)
theorem pe.step{L:List (List aq)}{e:List aq}{j:Nat}{k:Bool}(h:pe L e j k){d:List aq}(aP:L[j]? =some d):pe L e (j+1) (k&&vd e d):=by rw[pe,ql aP,List.all_append,h];simp
def Et(a:List (List aq))(e:List aq)(k:Nat):Prop:=k≤a.length∧∀c,a[k]? =some c→0≤ek c e
theorem Et.fin{a:List (List aq)}{e:List aq}{k:Nat}(h:Et a e k)(bD:hy ek a)(aw:∀d,0<k→a[k-1]? =some d→ek d e<0):jN ek e a=if(match a[k]? with|some y=>decide (ek y e=0)|none=>false)=true then a else a.take k++e::a.drop k:=
 (IY la e a k (fun i c hi jL=>by
  have ab:=h.1;obtain⟨d,aP⟩:∃d,a[k-1]? =some d:=⟨_,ca (by omega)⟩;have J:=aw d (by omega) aP;rcases Nat.lt_or_ge i (k-1)with U|U
  ·have rY:=(fH.1 jL);have lT:=(fH.1 aP);have:=oX.1 bD i (k-1) rY.1 lT.1 U;rw[rY.2,lT.2]at this;exact la.ltr this (by omega)
  ·have:i=k-1:=by omega
   subst this;rw[aP]at jL;cases jL;exact J) h.2 h.1).trans (by cases a[k]?<;>rfl)
theorem RB(L:List (List aq))(e:List aq):iv L e=L.all (vd e):=rfl
theorem UA{l:List (List aq)}{x:List aq}:x∈n3 ek l↔x∈l:=(xH ek l).mem_iff
theorem aeJ(l:List (List aq)):kq l=(cD none (n3 ek l)).filter (iv (n3 ek l)):=by have h:iv l=iv (n3 ek l):=funext fun e=>adS (fun x=>UA.symm) e;rw[kq,h];rfl
def l1(s:List (List aq))(i:Nat)(acc:List (List aq)):Prop:=acc++(cD (if i=0 then none else s[i-1]?) (s.drop i)).filter (iv s)=(cD none s).filter (iv s)
def qo:eJ:=⟨0,[],[],[],[]⟩
noncomputable def zK(s:eJ):eJ:=match fR s.b s.k []with
 |none=>qo
 |some k=>match fS s.b s.m []with
  |none=>qo
  |some m=>match gx s.b k (m.filter (kc k)) s.d with
   |none=>qo
   |some L=>⟨s.n,s.b,kq L,k,m.filter (kc k)⟩
theorem aiu{s ai:eJ}(h:mN s=some ai):zK s=ai:=by
 unfold mN at h;unfold zK;cases J:fR s.b s.k []with
 |none=>rw[J]at h;cases h
 |some k=>
  rw[J]at h;simp only at h⊢;cases U:fS s.b s.m []with
  |none=>rw[U]at h;cases h
  |some m=>
   rw[U]at h;simp only at h⊢;cases al:gx s.b k (m.filter (kc k)) s.d with
   |none=>rw[al]at h;cases h
   |some L=>
    rw[al]at h;simp only at h⊢;split at h
    ·cases h;rfl
    ·cases h
theorem Wh{k:List bG}(ab:iI k)(v:Int):(jU k (.var v) 2).isSome=(kJ k v !=some 3):=by
 unfold jU;simp only;cases h:kJ k v with
 |none=>simp
 |some x=>have:=(ab.at' _ (RI h)).2;simp only at this;rcases this with rfl|rfl<;>simp
theorem Wl{k:List bG}(bD:k.Pairwise fun x y=>x.v<y.v)(v:Int):(k.any fun x=>x.v==v&&x.k==3)=(kJ k v==some 3):=by
 rw[pH,List.any_eq_true,dG];constructor
 ·rintro⟨x,ad,h⟩;simp only[cA,dG]at h;have:=EA bD ad;rw[h.1,h.2]at this;exact this
 ·intro h;exact⟨_,RI h,by simp⟩
theorem Jk{b:List aq}{k:List bG}{m:List bf}{d:List aq}{r:List (List aq)}(h:mgu b (hs d)=none):gx b k m (d::r)=gx b k m r:=by rw[gx,h]
theorem Jj{b:List aq}{k:List bG}{m:List bf}{d x:List aq}{r:List (List aq)}(h:mgu b (hs d)=some x)(ab:fR x k []=none∨fS x m []=none):gx b k m (d::r)=gx b k m r:=by rw[gx,h];simp only[if_pos ab]
theorem Ji{b:List aq}{k:List bG}{m:List bf}{d x:List aq}{r:List (List aq)}(h:mgu b (hs d)=some x)(ab:¬(fR x k []=none∨fS x m []=none))(aA:gp b x=[]):gx b k m (d::r)=none:=by rw[gx,h];simp only[if_neg ab,if_pos aA]
theorem Jl{b:List aq}{k:List bG}{m:List bf}{d x:List aq}{r:List (List aq)}(h:mgu b (hs d)=some x)(ab:¬(fR x k []=none∨fS x m []=none))(aA:gp b x≠[]):gx b k m (d::r)=(gx b k m r).map (gp b x:: ·):=by rw[gx,h];simp only[if_neg ab,if_neg aA]
def pf(b:List aq)(k:List bG)(m:List bf)(D:List (List aq))(i:Nat)(a:List (List aq)):Prop:=a.length≤i∧(∀x∈a,eG x)∧(gx b k m (D.drop i)).map (a++ ·)=gx b k m D
def ih(n:Int):T→Bool
 | .var v=>decide (v<n)
 | .pair a b=>ih n a&&ih n b
 |_=>true
theorem GJ{n:Int}:∀{t:T},ih n t=true↔v8 t n
 | .var v=>by simp[ih,v8,T.occ]
 | .pair a b=>by simp only[ih,cA,GJ (t:=a),GJ (t:=b),v8,T.occ,mf];exact⟨fun h v aK=>aK.elim (h.1 v) (h.2 v),fun h=>⟨fun v aK=>h v (.inl aK),fun v aK=>h v (.inr aK)⟩⟩
 | .nil=>by simp[ih,v8,T.occ]
 | .sym _=>by simp[ih,v8,T.occ]
 | .num _=>by simp[ih,v8,T.occ]
def kl(n:Int)(b:aq):Bool:=decide (b.v<n)&&ih n b.t
theorem ur{n:Int}{s:List aq}:s.all (kl n)=true↔o1 s n:=by simp[ja,kl,o1,GJ]
def rr(v m:Int):Int:=if m<v+1 then v+1 else m
theorem Lz{n:Int}:∀(t:T) (m:Int),t.fold rr m≤n↔m≤n∧ih n t=true
 | .var v,m=>by simp only[T.fold,rr,ih,fx];split<;>omega
 | .pair a b,m=>by simp only[T.fold,Lz b,Lz a,ih,cA,and_assoc]
 | .nil,m=>by simp[T.fold,ih]
 | .sym _,m=>by simp[T.fold,ih]
 | .num _,m=>by simp[T.fold,ih]
def CL(v m:Int):aW Int:=if 0≤v∧v≤100000 then some (rr v m)else none
theorem Ly:∀(t:T) (m:Int),t.ok=true→t.foldO CL m=some (t.fold rr m)
 | .var v,m,h=>by
  have:0≤v∧v≤100000:=by simpa[T.ok]using h
  simp[T.foldO,T.fold,CL,this]
 | .pair a b,m,h=>by
  have J:a.ok=true∧b.ok=true:=by simpa[T.ok]using h
  simp[T.foldO,T.fold,Ly a m J.1,Ly b _ J.2]
 | .nil,m,_=>rfl
 | .sym _,m,_=>rfl
 | .num _,m,_=>rfl
structure jG where
 n:Int
 b:List cQ
 d:List (List cQ)
 k:List bG
 m:List bf
def eJ.r(s:eJ):jG:=⟨s.n,s.b.map aq.b,s.d.map fun x=>x.map aq.b,s.k,s.m⟩
def su(r:jG):Prop:= ∃s:eJ,r=s.r∧UC s
def jJ(n:Int)(x:List cQ):Prop:= ∃s:List aq,x=s.map aq.b∧eG s∧o1 s n
structure KA (r:jG):Prop where
 n:0≤r.n∧r.n≤100000
 b:jJ r.n r.b
 d:∀x∈r.d,jJ r.n x
 k:iI r.k
 m:iJ r.m
 kb:∀x∈r.k,x.v<r.n
 mb:∀x∈r.m,x.v<r.n
theorem su.raw{r:jG}(h:su r):KA r:=by obtain⟨s,rfl,J,_⟩:=h;exact⟨J.n,⟨s.b,rfl,J.b,J.bb⟩,fun x ad=>by obtain⟨y,aL,rfl⟩:=iC.1 ad;exact⟨y,rfl,J.d y aL,J.db y aL⟩,J.k,J.m,J.kb,J.mb⟩
theorem um:∀{a b:List aq},a.map aq.b=b.map aq.b→a=b
 |[],b,h=>by cases b<;>simp at h⊢
 |x::a,[],h=>by simp at h
 |x::a,y::b,h=>by simp only[gX,pI,aq.b,cQ.mk.injEq]at h;rw[um h.2];have:=U0 h.1.2;obtain⟨⟨J,_⟩,_⟩:=h;cases x;cases y;simp_all
theorem Mh:∀{a b:List (List aq)},(a.map fun x=>x.map aq.b)=(b.map fun x=>x.map aq.b)→a=b
 |[],b,h=>by cases b<;>simp at h⊢
 |x::a,[],h=>by simp at h
 |x::a,y::b,h=>by rw[gX,gX,pI]at h;rw[Mh h.2,um h.1]
theorem eJ.r_inj{s t:eJ}(h:s.r=t.r):s=t:=by obtain⟨n,b,d,k,m⟩:=s;obtain⟨n',bY,b6,bH,hd⟩:=t;simp only[eJ.r,jG.mk.injEq]at h;obtain⟨J,U,al,a6,bW⟩:=h;rw[J,um U,Mh al,a6,bW]
theorem OO{n:Int}:∀{d:List (List cQ)},(∀x∈d,jJ n x)→∃D:List (List aq),d=(D.map fun x=>x.map aq.b)∧(∀x∈D,eG x)∧∀x∈D,o1 x n
 |[],_=>⟨[],rfl,by simp,by simp⟩
 |x::d,h=>by
  obtain⟨D,J,U,al⟩:=OO (d:=d) fun y aL=>h y (by simp[aL]);obtain⟨s,aj,aC,bg⟩:=h x (by simp);refine⟨s::D,by rw[J,aj];rfl,fun y aL=>?_,fun y aL=>?_⟩
  ·rcases fU.1 aL with rfl|aL
   ·exact aC
   ·exact U y aL
  ·rcases fU.1 aL with rfl|aL
   ·exact bg
   ·exact al y aL
theorem UD{s:eJ}(h:xI s):su s.r↔mN s=some s:=by
 constructor
 ·rintro⟨t,e,_,U⟩;rw[eJ.r_inj e];exact U
 ·intro U;exact⟨s,rfl,h,U⟩
theorem vD{l:List cQ}:Gr l↔∃s:List aq,l=s.map aq.b∧eG s:=⟨fun⟨s,J,U,al,a6⟩=>⟨s,J,U,al,a6⟩,fun⟨s,J,U⟩=>⟨s,J,U.ok,U.sol,U.fits⟩⟩
def qx{α:Type}(a b:List α)(i:Nat)(_:Unit):Prop:= ∀k,k<i→a[k]? =b[k]?
theorem qx.fin{α:Type}{a b:List α}(h:qx a b b.length ())(au:a.length=b.length):a=b:=by
 apply List.ext_getElem?;intro k;by_cases ab:k<b.length
 ·exact h k ab
 ·rw[pJ (by omega),pJ (by omega)]
theorem qx.step{α:Type}{a b:List α}{i:Nat}(h:qx a b i ()){x:α}(bD:a[i]? =some x)(ae:b[i]? =some x):qx a b (i+1) ():=fun k ab=>by
 rcases(by omega:k<i∨k=i)with J|rfl
 ·exact h k J
 ·rw[bD,ae]
def q2{α:Type}(p:α→Prop)(s:List α)(i:Nat)(_:Unit):Prop:= ∀k b,k<i→s[k]? =some b→p b
theorem q2.step{α:Type}{p:α→Prop}{s:List α}{i:Nat}(h:q2 p s i ()){b:α}(ae:s[i]? =some b)(bF:p b):q2 p s (i+1) ():=fun k c ab aw=>by
 rcases(by omega:k<i∨k=i)with J|rfl
 ·exact h k c J aw
 ·rw[ae]at aw;cases aw;exact bF
theorem q2.fin{α:Type}{p:α→Prop}{s:List α}(h:q2 p s s.length ()):∀b∈s,p b:=fun b ae=>by obtain⟨k,ab,e⟩:=mS ae;exact h k b ab (by rw[ca ab,e])
def MB:C:=(aa [bm 2 false] (.seq (aa [I 5 0,cn 6 5,bV 7 0] (fG 8 7 6 (.seq (.block 1 (aa [I 9 7,cv 10 2 5 7,be 11 2 10,cX (.alloc 4 none (.agg [.int .i64 0,.int .i64 0])),I 3 9,b1 2 4 11] (.seq (.drawn true 46 [aG 12 0 1 4,ax 13 1 12,aS 14 .lss 13 0,I 15 14,ar 15 false (aG 16 0 1 4),ar 15 false (ax 17 1 16),ar 15 false (aS 18 .gtr 17 100000),df 19 15 18,I 20 19,ar 20 false (aG 21 1 1 4),ar 20 false (ax 22 1 21),ar 20 false (aS 23 .neq 22 2),b3 20 false 24 23,ar 24 true (aG 25 1 1 4),ar 24 true (ax 26 1 25),ar 24 true (aS 27 .neq 26 3),ar 20 false (dH 28 24 27),df 29 20 28,I 30 29,b3 30 false 31 3,ar 30 false (aS 32 .gtr 31 0),b3 30 false 33 32,b3 33 true 34 0,b3 33 true 35 3,ar 33 true (aS 36 .sub 35 1),ar 33 true (cv 37 2 34 36),ar 33 true (aG 38 0 1 37),ar 33 true (ax 39 1 38),ar 33 true (aG 40 0 1 4),ar 33 true (ax 41 1 40),ar 33 true (bk 42 .geq 39 41),ar 30 false (dH 43 33 42),df 44 30 43]) (aT 44 (aa [bm 2 false] .ret) .skip)))) (.region [aS 45 .add 7 1,I 7 45])))) (aa [bm 2 true] .ret)))
@[simp] def Tq:List bK:=[.tmp 2]
def MC:C:=(aa [bm 2 false] (.seq (aa [I 5 0,cn 6 5,bV 7 0] (fG 8 7 6 (.seq (.block 1 (aa [I 9 7,cv 10 2 5 7,be 11 2 10,cX (.alloc 4 none (.agg [.int .i64 0,.str []])),I 3 9,b1 2 4 11] (.seq (.drawn true 41 [aG 12 0 1 4,ax 13 1 12,aS 14 .lss 13 0,I 15 14,ar 15 false (aG 16 0 1 4),ar 15 false (ax 17 1 16),ar 15 false (aS 18 .gtr 17 100000),df 19 15 18,I 20 19,ar 20 false (aG 21 1 1 4),ar 20 false (ax 22 1 21),ar 20 false (c7 23 160 22),ar 20 false (cB 24 23),df 25 20 24,I 26 25,b3 26 false 27 3,ar 26 false (aS 28 .gtr 27 0),b3 26 false 29 28,b3 29 true 30 0,b3 29 true 31 3,ar 29 true (aS 32 .sub 31 1),ar 29 true (cv 33 2 30 32),ar 29 true (be 34 2 33),ar 29 true (be 35 2 4),ar 29 true (cl 36 161 34 35),ar 29 true (cB 37 36),ar 26 false (dH 38 29 37),df 39 26 38]) (aT 39 (aa [bm 2 false] .ret) .skip)))) (.region [aS 40 .add 7 1,I 7 40])))) (aa [bm 2 true] .ret)))
@[simp] def Kc:List bK:=[.tmp 2]
def pT:C:=(aa [cP 6 2,eO 8 2,bm 9 false] (.seq (aa [I 15 0,c7 16 86 15,cB 17 16,I 18 17,ar 18 false (be 19 4 6),ar 18 false (c7 20 64 19),ar 18 false (cB 21 20),df 22 18 21,I 23 22,b3 23 false 24 1,ar 23 false (c7 25 87 24),ar 23 false (cB 26 25),df 27 23 26,I 28 27,b3 28 false 29 3,ar 28 false (aS 30 .neq 29 2),b3 28 false 31 30,b3 31 true 32 3,ar 31 true (aS 33 .neq 32 3),ar 28 false (dH 34 31 33),df 35 28 34] (aT 35 (aa [eO 8 2,bm 9 false] .ret) .skip)) (aa [I 37 0,be 38 4 6,cl 39 69 37 38,I 36 39,cV 40 0 36,cV 41 1 36,dL 10 dX,b1 4 10 40,I 11 41] (.seq (aa [I 42 11,cB 43 42] (aT 43 (aa [eO 8 2,bm 9 false] .ret) .skip)) (aa [cX (.bslm 44 (some 803) 2 98 []),I 45 1,cX (.appm 46 none 2 98 (.t 44) (.t 45)),cX (.alloc 12 (some 804) (.slice 2 .nil [])),b1 1 12 46] (.seq (aa [aG 47 0 1 10,ax 48 1 47,aS 49 .neq 48 1] (aT 49 (.seq (aa [aG 50 0 1 10,ax 51 1 50,I 52 3,bk 53 .neq 51 52] (aT 53 (aa [eO 8 2,bm 9 false] .ret) .skip)) (.seq (.pubB 12 (.region [ax 54 1 12,I 8 54,bm 9 true])) .ret)) .skip)) (.seq (aa [I 55 1,cn 56 55,bV 57 0] (fG 58 57 56 (.seq (.block 1 (aa [cv 59 2 55 57,be 60 2 59,cX (.alloc 14 none (.agg [.int .i64 0,.int .i64 0])),b1 2 14 60] (aa [aG 61 0 1 14,ax 62 1 61,aG 63 1 1 10,ax 64 1 63,bk 65 .eql 62 64] (aT 65 (.seq (aa [aG 66 1 1 14,ax 67 1 66,I 68 3,bk 69 .neq 67 68] (aT 69 (aa [eO 8 2,bm 9 false] .ret) .skip)) (.seq (.pubB 12 (.region [ax 70 1 12,I 8 70,bm 9 true])) .ret)) .skip)))) (.region [aS 71 .add 57 1,I 57 71])))) (aa [ax 72 1 12,aG 73 1 1 10,ax 74 1 73,I 75 3,b0 76 (.build [.int .i64 0,.int .i64 0] [(0,1,(.t 74)),(1,1,(.t 75))]),fC 77 2 98 [.t 76],cX (.appm 78 none 2 98 (.t 72) (.t 77)),b1 1 12 78] (aa [ax 79 1 12,b0 80 (.mkif 48 (.t 79)),b0 81 (.mkf 183 [.t 12]),cl 82 182 80 81] (.seq (.pubB 12 (.region [ax 83 1 12,I 8 83,bm 9 true])) .ret))))))))))
@[simp] def jA:List bK:=[.tmp 8,.tmp 9]
def C9:C:=(aa [cP 6 2,cX (.box 7 (some 811) (.t 3)),eO 8 2,bm 9 false] (.seq (aa [I 17 0,c7 18 86 17,cB 19 18,I 20 19,ar 20 false (be 21 4 6),ar 20 false (c7 22 64 21),ar 20 false (cB 23 22),df 24 20 23,I 25 24,b3 25 false 26 1,ar 25 false (c7 27 88 26),ar 25 false (cB 28 27),df 29 25 28,I 30 29,ar 30 false (ax 31 1 7),ar 30 false (c7 32 160 31),ar 30 false (cB 33 32),df 34 30 33] (aT 34 (aa [eO 8 2,bm 9 false] .ret) .skip)) (aa [I 36 0,be 37 4 6,cl 38 69 36 37,I 35 38,cV 39 0 35,cV 40 1 35,dL 10 dX,b1 4 10 39,I 11 40] (.seq (aa [I 41 11,cB 42 41,I 43 42,ar 43 false (be 44 4 10),ar 43 false (ax 45 1 7),ar 43 false (cl 46 177 44 45),df 47 43 46] (aT 47 (aa [eO 8 2,bm 9 false] .ret) .skip)) (aa [cX (.mkmap 48 (some 812)),cX (.alloc 12 (some 813) (.junk)),b1 1 12 48] (.seq (aa [I 49 1,cn 50 49,bV 51 0] (fG 52 51 50 (.seq (.block 1 (aa [cv 53 2 49 51,be 54 2 53,cX (.alloc 14 none (.agg [.int .i64 0,.str []])),b1 2 14 54] (.region [ax 55 1 12,be 56 2 14,cX (.mput (.a [false,true]) (.t 55) (.t 56) (.c (.bool true)))]))) (.region [aS 57 .add 51 1,I 51 57])))) (aa [be 58 4 10,b0 59 (.mkf 184 [.t 12,.t 7]),cl 60 134 58 59] (aa [cX (.bslm 61 (some 814) 2 100 []),cX (.alloc 15 (some 815) (.slice 2 .nil [])),b1 1 15 61] (.seq (aa [ax 62 1 12,cX (.range 63 none (.t 62))] (.block 2 (.loop (aa [⟨none,.next 64 (.t 63)⟩,cV 65 0 64] (.seq (aT 65 .skip (.exit 2)) (.block 3 (aa [b0 66 (.ment (.t 63)),cV 67 0 66,cX (.alloc 16 none (.agg [.int .i64 0,.str []])),b1 2 16 67] (.region [ax 68 1 15,be 69 2 16,fC 70 2 100 [.t 69],cX (.appm 71 none 2 100 (.t 68) (.t 70)),b1 1 15 71])))))))) (aa [ax 72 1 15,b0 73 (.mkif 49 (.t 72)),b0 74 (.mkf 185 [.t 15]),cl 75 182 73 74] (.seq (.pubB 15 (.region [ax 76 1 15,I 8 76,bm 9 true])) .ret)))))))))))
@[simp] def Fc:List bK:=[.tmp 8,.tmp 9]
def Da:C:=(aa [cP 2 0,cP 3 1,bm 4 false] (aa [aG 5 0 1 2,ax 6 1 5,aG 7 0 1 3,ax 8 1 7,bk 9 .lss 6 8,I 10 9,ar 10 false (aG 11 0 1 2),ar 10 false (ax 12 1 11),ar 10 false (aG 13 0 1 3),ar 10 false (ax 14 1 13),ar 10 false (bk 15 .eql 12 14),b3 10 false 16 15,ar 16 true (aG 17 1 1 2),ar 16 true (ax 18 1 17),ar 16 true (aG 19 1 1 3),ar 16 true (ax 20 1 19),ar 16 true (bk 21 .lss 18 20),ar 10 false (dH 22 16 21),df 23 10 22,I 4 23] .ret))
@[simp] def ahj:List bK:=[.tmp 4]
def Dc:C:=(aa [cP 2 0,bm 4 false] (.seq (aa [aG 5 0 1 2,ax 6 1 5,aS 7 .eql 6 4] (aT 7 (aa [aG 8 3 1 2,ax 9 1 8,js 10 4 9 0,be 11 4 10,I 12 1,cl 13 177 11 12,I 14 13,ar 14 false (aG 15 3 1 2),ar 14 false (ax 16 1 15),ar 14 false (js 17 4 16 1),ar 14 false (be 18 4 17),b3 14 false 19 1,ar 14 false (cl 20 177 18 19),df 21 14 20,I 4 21] .ret) .skip)) (aa [aG 22 0 1 2,ax 23 1 22,aS 24 .eql 23 2,I 25 24,ar 25 true (aG 26 2 1 2),ar 25 true (ax 27 1 26),b3 25 true 28 1,ar 25 true (bk 29 .eql 27 28),dH 30 25 29,I 4 30] .ret)))
@[simp] def Fj:List bK:=[.tmp 4]
def My:C:=(aa [bm 5 false] (.seq (.drawn true 17 [ax 6 1 2,I 7 0,cv 8 2 6 7,aG 9 0 1 8,ax 10 1 9,ax 11 1 2,I 12 1,cv 13 2 11 12,aG 14 0 1 13,ax 15 1 14,bk 16 .lss 10 15,I 5 16]) .ret))
@[simp] def To:List bK:=[.tmp 5]
def Mw:C:=(.region [ax 4 1 1,I 5 0,ax 6 1 2,b0 7 (.build [.int .i64 0,.str []] [(0,1,(.t 5)),(1,1,(.t 6))]),cX (.mput (.a [false,true]) (.t 4) (.t 7) (.c (.bool true)))])
@[simp] def Tm:List bK:=[]
def Mx:C:=(aa [bm 5 false] (.seq (.drawn true 15 [ax 6 1 2,I 7 0,cv 8 2 6 7,be 9 2 8,ax 10 1 2,I 11 1,cv 12 2 10 11,be 13 2 12,cl 14 161 9 13,I 5 14]) .ret))
@[simp] def Tn:List bK:=[.tmp 5]
def sB:List (Nat×dB):=[
 (3,⟨1,8,.int .i64,.int .i64 0⟩),
 (9,⟨1,16,.str,.str []⟩),
 (27,⟨1,24,.slice 30,.slice 4 .nil []⟩),
 (30,⟨4,56,.struct [(0,3),(1,3),(2,9),(3,27)],.agg [.int .i64 0,.int .i64 0,.str [],.slice 4 .nil []]⟩),
 (48,⟨1,24,.slice 98,.slice 2 .nil []⟩),
 (49,⟨1,24,.slice 100,.slice 2 .nil []⟩),
 (98,⟨2,16,.struct [(0,3),(1,3)],.agg [.int .i64 0,.int .i64 0]⟩),
 (100,⟨2,24,.struct [(0,3),(1,9)],.agg [.int .i64 0,.str []]⟩),
 (165,⟨1,8,.map 100 4,.junk⟩)]
theorem jC:fN ao sB=true:=by kernel_rfl
theorem ae9:b5 sB MB Tq 1 Tryz.f87=true:=by kernel_rfl
theorem YM:ao.funcs[(87:Nat)]? =some Tryz.f87:=Tryz.func87
theorem afa:b5 sB MC Kc 1 Tryz.f88=true:=by kernel_rfl
theorem YN:ao.funcs[(88:Nat)]? =some Tryz.f88:=Tryz.func88
theorem ra:b5 sB pT jA 4 Tryz.f118=true:=by kernel_rfl
theorem qB:ao.funcs[(118:Nat)]? =some Tryz.f118:=Tryz.func118
theorem JQ:b5 sB C9 Fc 4 Tryz.f120=true:=by kernel_rfl
theorem Hs:ao.funcs[(120:Nat)]? =some Tryz.f120:=Tryz.func120
theorem JR:b5 sB Da ahj 2 Tryz.f161=true:=by kernel_rfl
theorem Ht:ao.funcs[(161:Nat)]? =some Tryz.f161:=Tryz.func161
theorem JT:b5 sB Dc Fj 2 Tryz.f177=true:=by kernel_rfl
theorem Hv:ao.funcs[(177:Nat)]? =some Tryz.f177:=Tryz.func177
theorem ae6:b5 sB My To 3 Tryz.f183=true:=by kernel_rfl
theorem YJ:ao.funcs[(183:Nat)]? =some Tryz.f183:=Tryz.func183
theorem ae4:b5 sB Mw Tm 3 Tryz.f184=true:=by kernel_rfl
theorem YH:ao.funcs[(184:Nat)]? =some Tryz.f184:=Tryz.func184
theorem ae5:b5 sB Mx Tn 3 Tryz.f185=true:=by kernel_rfl
theorem YI:ao.funcs[(185:Nat)]? =some Tryz.f185:=Tryz.func185
def lD(x:bG):Prop:=(0≤x.v∧x.v≤100000)∧(x.k=2∨x.k=3)
def mG(x y:bG):Prop:=x.v<y.v
theorem Ez{l:List bG}:iI l↔∀i,i<l.length→hR lD mG l i:=by rw[L1 (p:=lD) (r:=mG) (fun a b c J U=>by unfold mG at*;omega)];exact⟨fun h=>⟨h.at',h.asc⟩,fun h=>⟨h.1,h.2⟩⟩
def jP(x:bf):Prop:=(0≤x.v∧x.v≤100000)∧jl x.s=true
def ka(x y:bf):Prop:=e5 x y<0
theorem EN{l:List bf}:iJ l↔∀i,i<l.length→hR jP ka l i:=by rw[L1 (p:=jP) (r:=ka) (fun a b c J U=>by unfold ka at*;exact lb.ltr J (Int.le_of_lt U))];exact⟨fun h=>⟨h.at',h.asc⟩,fun h=>⟨h.1,h.2⟩⟩
open Classical in
theorem Va(l:List bG):bI ao 87 [.slice 2 .no (l.map bG.e)] (.bool (decide (iI l))):=by
 generalize bh:decide (iI l)=R;refine br jC YM ae9 fun aR=>?_;unfold MB;have eX:l.length≤68719476736:=by simp[eE,ej,eu,lim]at aR;omega
 simp;refine dU [0,5,6] (fun i (_:Unit)=>[(7,.int .i64 i)]) l.length (fun i _=> ∀j,j<i→hR lD mG l j) () b4 (fun k ab=>by omega) (fun _ af _=>?_) (fun i _ hi af _=>?_)
 ·have:R=true:=by rw[←bh,fx,Ez];exact af
  rw[this];exact ct
 ·obtain⟨b,ae⟩:∃b,l[i]? =some b:=⟨_,ca hi⟩;obtain⟨c,aw⟩:∃c,l[i-1]? =some c:=⟨_,ca (by omega)⟩;have cG:∀h,(l[i]'h)=b:=fun h=>by rw[ca hi]at ae;exact fw ae
  have de:¬hR lD mG l i→R=false:=fun h=>by rw[←bh,hx];exact fun cp=>h (Ez.1 cp i hi)
  have c9:hR lD mG l i→∀j,j<i+1→hR lD mG l j:=fun h j iU=>by
   by_cases e:j=i
   ·rw[e];exact h
   ·exact af j (by omega)
  simp[hi,cG,aw];((with_reducible repeat' first|refine ak ?_|simp[cG,aw,hi]|((first|apply bO|apply bS|apply bR)<;>intro h<;>try simp at h))<;>(try exact cq));all_goals first
   |(have aA:¬hR lD mG l i:=by(intro cp;have J:=cp b ae;have U:=J.2 c;have al:=J.1;unfold lD mG at*;first|omega|(have a6:=U (by omega) aw;omega)|(simp_all;done)|(simp_all;omega))
     rw[de aA]
     simp[bA,Tq,aV,aY,aU]
     done)
   |(refine bL.rng () hi (c9 fun bY fL=>?_) ?_
     ·rw[ae]at fL;cases fL
      refine⟨?_,fun ch bs hj=>?_⟩
      ·unfold lD;first|(simp_all;done)|(simp_all;omega)
      ·rw[aw]at hj;cases hj;unfold mG;simp_all
     ·exact b4)
theorem zY(a b:bf):bI ao 161 [a.e,b.e] (.bool (hv e5 a b)):=by
 rw[←SE];have bh:si a b=(decide (a.v<b.v)||(a.v==b.v&&hf a.s b.s)):=rfl;rcases Int.lt_trichotomy a.v b.v with h|h|h
 ·have:si a b=true:=by rw[bh];simp[h]
  rw[this];refine br jC Ht JR fun aR=>?_;unfold Da;exact ct
 ·have J:¬a.v<b.v:=by omega
  have U:(a.v==b.v)=true:=by simp[h]
  have:si a b=hf a.s b.s:=by rw[bh];simp[h]
  rw[this];refine br jC Ht JR fun aR=>?_;unfold Da;exact ct
 ·have J:¬a.v<b.v:=by omega
  have U:¬a.v=b.v:=by omega
  have al:(a.v==b.v)=false:=by simp[U]
  have:si a b=false:=by rw[bh];simp[J,U]
  rw[this];refine br jC Ht JR fun aR=>?_;unfold Da;exact ct
end Go.Proofs.YtahlgcidhnjlbaaGreat
namespace Go.Proofs.YtahlgcidhnjlbaaGreat
open Go Go.Pv
open Classical in
theorem Vc(l:List bf):bI ao 88 [.slice 2 .no (l.map bf.e)] (.bool (decide (iJ l))):=by
 generalize bh:decide (iJ l)=R;refine br jC YN afa fun aR=>?_;unfold MC;have eX:l.length≤68719476736:=by simp[eE,ej,eu,lim]at aR;omega
 simp;refine dU [0,5,6] (fun i (_:Unit)=>[(7,.int .i64 i)]) l.length (fun i _=> ∀j,j<i→hR jP ka l j) () b4 (fun k ab=>by omega) (fun _ af _=>?_) (fun i _ hi af _=>?_)
 ·have:R=true:=by rw[←bh,fx,EN];exact af
  rw[this];exact ct
 ·obtain⟨b,ae⟩:∃b,l[i]? =some b:=⟨_,ca hi⟩;obtain⟨c,aw⟩:∃c,l[i-1]? =some c:=⟨_,ca (by omega)⟩;have cG:∀h,(l[i]'h)=b:=fun h=>by rw[ca hi]at ae;exact fw ae
  have de:¬hR jP ka l i→R=false:=fun h=>by rw[←bh,hx];exact fun cp=>h (EN.1 cp i hi)
  have c9:hR jP ka l i→∀j,j<i+1→hR jP ka l j:=fun h j iU=>by
   by_cases e:j=i
   ·rw[e];exact h
   ·exact af j (by omega)
  have gl:∀p:Prop,(p→eI)→(hR jP ka l i→p)→R=false:=fun p J U=>de fun h=>J (U h);have oG:hR jP ka l i→jP b:=fun h=>(h b ae).1;have bu:hR jP ka l i→0<i→hv e5 c b=true:=fun h bs=>by simpa[hv,ka]using(h b ae).2 c bs aw
  have eS:jP b→(0<i→hv e5 c b=true)→hR jP ka l i:=fun J U bY fL=>by rw[ae]at fL;cases fL;exact⟨J,fun ch bs hj=>by rw[aw]at hj;cases hj;simpa[hv,ka]using U bs⟩
  unfold jP at oG eS;by_cases g1:b.v<0
  ·rw[gl _ (fun h=>by omega) (fun h=>(oG h).1.1)];exact ct
  by_cases g2:100000<b.v
  ·rw[gl _ (fun h=>by omega) (fun h=>(oG h).1.2)];exact ct
  cases g3:jl b.s
  ·rw[gl _ (fun h=>by rw[h]at g3;cases g3) (fun h=>(oG h).2)];simp[hi,cG,aw];(with_reducible repeat' first|refine ak ?_|refine aE (sC _) ?_|refine aF (sC _) ?_|simp[cG,aw,hi,g1,g2,g3]);simp[bA,Kc,aV,aY,aU]
  by_cases g4:0<i
  ·cases g5:hv e5 c b
   ·rw[gl _ (fun h=>by rw[h]at g5;cases g5) (fun h=>bu h g4)];simp[hi,cG,aw];(with_reducible repeat' first|refine ak ?_|refine aE (sC _) ?_|refine aF (sC _) ?_|refine aE (zY _ _) ?_|refine aF (zY _ _) ?_|simp[cG,aw,hi,g1,g2,g3,g4,g5]);simp[bA,Kc,aV,aY,aU]
   ·simp[hi,cG,aw];(with_reducible repeat' first|refine ak ?_|refine aE (sC _) ?_|refine aF (sC _) ?_|refine aE (zY _ _) ?_|refine aF (zY _ _) ?_|simp[cG,aw,hi,g1,g2,g3,g4,g5]);exact bL.rng () hi (c9 (eS ⟨⟨by omega,by omega⟩,g3⟩ fun _=>g5)) b4
  ·obtain rfl:i=0:=by omega
   simp[hi,cG,aw];(with_reducible repeat' first|refine ak ?_|refine aE (sC _) ?_|refine aF (sC _) ?_|simp[cG,aw,hi,g1,g2,g3,g4]);exact bL.rng () hi (c9 (eS ⟨⟨by omega,by omega⟩,g3⟩ fun h=>by omega)) b4
theorem ajO(s:List dA):∀t:T,bI ao 177 [t.e,.str s] (.bool (t.has s)):=by
 intro t;induction t with
 |pair a b dO dP=>
  refine br jC Hv JT fun aR=>?_;unfold Dc;simp;cases bD:a.has s<;>cases ae:b.has s<;>rw[bD]at dO<;>rw[ae]at dP;all_goals(with_reducible repeat' first|refine ak ?_|refine aE dO ?_|refine aF dO ?_|refine aE dP ?_|refine aF dP ?_|simp)
  all_goals simp[bA,Fj,aV,aY,aU]
  all_goals simp[T.has,bD,ae]
 |sym n=>
  refine br jC Hv JT fun aR=>?_;unfold Dc;simp;(with_reducible repeat' first|refine ak ?_|simp);all_goals simp[bA,Fj,aV,aY,aU]
  all_goals simp[T.has]
 |_=>
  refine br jC Hv JT fun aR=>?_;unfold Dc;simp;(with_reducible repeat' first|refine ak ?_|simp);all_goals simp[bA,Fj,aV,aY,aU]
  all_goals simp[T.has]
end Go.Proofs.YtahlgcidhnjlbaaGreat
namespace Go.Proofs.YtahlgcidhnjlbaaGreat
open Go Go.Pv
def NT:C:=(aa [cP 2 0] (aa [bV 4 20] (aa [I 8 4,bV 5 0,I 6 8] (.seq (.block 0 (.loop (.seq (aa [I 9 6,I 10 1,bk 11 .leq 9 10] (aT 11 .skip (.exit 0))) (.block 1 (aa [be 12 2 2,I 13 5,I 14 6,dE 15 231 [.t 12,.t 13,.t 14]] (aa [I 16 6,I 5 16] (.region [I 17 6,I 18 4,bk 19 .add 17 18,I 6 19]))))))) (aa [be 20 2 2,I 21 5,I 22 1,dE 23 231 [.t 20,.t 21,.t 22]] (.block 2 (.loop (.seq (aa [I 24 4,I 25 1,bk 26 .lss 24 25] (aT 26 .skip (.exit 2))) (.block 3 (aa [I 27 4,b0 28 (.bin .mul false (gi 2) (.t 27)),bV 5 0,I 6 28] (.seq (.block 4 (.loop (.seq (aa [I 29 6,I 30 1,bk 31 .leq 29 30] (aT 31 .skip (.exit 4))) (.block 5 (aa [be 32 2 2,I 33 5,I 34 5,I 35 4,bk 36 .add 34 35,I 37 6,dE 38 232 [.t 32,.t 33,.t 36,.t 37]] (aa [I 39 6,I 5 39] (.region [I 40 6,I 41 4,b0 42 (.bin .mul false (gi 2) (.t 41)),bk 43 .add 40 42,I 6 43]))))))) (.seq (aa [I 44 5,I 45 4,bk 46 .add 44 45,I 7 46] (aa [I 47 7,I 48 1,bk 49 .lss 47 48] (aT 49 (.region [be 50 2 2,I 51 5,I 52 7,I 53 1,dE 54 232 [.t 50,.t 51,.t 52,.t 53]]) .skip))) (.region [I 55 4,aS 56 .mul 55 2,I 4 56])))))))))))))
@[simp] def ahY:List bK:=[]
def GZ:C:=(aa [cP 3 0] (aa [I 8 1,aS 9 .add 8 1,I 6 9] (.block 0 (.loop (.seq (aa [I 10 6,I 11 2,bk 12 .lss 10 11] (aT 12 .skip (.exit 0))) (.seq (.block 1 (aa [I 15 6,I 7 15] (.block 2 (.loop (.seq (aa [I 16 7,I 17 1,bk 18 .gtr 16 17,I 19 18,ar 19 true (aG 20 0 1 3),ar 19 true (ax 21 1 20),b3 19 true 22 7,b3 19 true 23 7,ar 19 true (aS 24 .sub 23 1),ar 19 true (gv 25 21 [.t 22,.t 24]),dH 26 19 25] (aT 26 .skip (.exit 2))) (.seq (.block 3 (.region [aG 29 1 1 3,ax 30 1 29,I 31 7,I 32 7,aS 33 .sub 32 1,gv 34 30 [.t 31,.t 33]])) (.region [I 27 7,aS 28 .sub 27 1,I 7 28]))))))) (.region [I 13 6,aS 14 .add 13 1,I 6 14])))))))
@[simp] def ahU:List bK:=[]
def Dh:C:=(aa [I 164 16,I 165 22,bk 166 .lss 164 165,I 167 166,b3 167 true 168 22,b3 167 true 169 3,ar 167 true (bk 170 .lss 168 169),dH 171 167 170] (aT 171 (.region [be 172 2 4,I 173 16,I 174 22,I 175 3,dE 176 232 [.t 172,.t 173,.t 174,.t 175]]) .skip))
def Di:C:=(.seq (aa [I 151 1,I 152 18,bk 153 .lss 151 152,I 154 153,b3 154 true 155 18,b3 154 true 156 16,ar 154 true (bk 157 .lss 155 156),dH 158 154 157] (aT 158 (.region [be 159 2 4,I 160 1,I 161 18,I 162 16,dE 163 232 [.t 159,.t 160,.t 161,.t 162]]) .skip)) Dh)
def G3:C:=(.seq (aa [I 138 18,I 139 2,bk 140 .lss 138 139,I 141 140,b3 141 true 142 2,b3 141 true 143 22,ar 141 true (bk 144 .lss 142 143),dH 145 141 144] (aT 145 (.region [be 146 2 4,I 147 18,I 148 2,I 149 22,dE 150 251 [.t 146,.t 147,.t 148,.t 149]]) .skip)) Di)
def G4:C:=(aa [I 113 17,aS 114 .sub 113 1,I 20 114] (.seq (.block 8 (.loop (.seq (aa [I 115 18,I 116 19,bk 117 .lss 115 116] (aT 117 .skip (.exit 8))) (.block 9 (aa [I 118 18,I 119 19,bk 120 .add 118 119,b0 121 (.conv .u64 (.t 120)),b0 122 (.bin .shr false (.t 121) (.c (.int .u64 1))),b0 123 (.conv .i64 (.t 122)),I 21 123] (aa [aG 124 0 1 4,ax 125 1 124,I 126 20,I 127 21,bk 128 .sub 126 127,I 129 21,gv 130 125 [.t 128,.t 129],cB 131 130] (aT 131 (.region [I 132 21,aS 133 .add 132 1,I 18 133]) (.region [I 134 21,I 19 134])))))))) (aa [I 135 17,I 136 18,bk 137 .sub 135 136,I 22 137] G3)))
def NV:C:=(aa [cP 4 0] (.seq (aa [I 23 2,I 24 1,bk 25 .sub 23 24,aS 26 .eql 25 1] (aT 26 (aa [I 27 2,I 8 27] (aa [I 28 3,I 9 28] (.seq (.block 0 (.loop (.seq (aa [I 29 8,I 30 9,bk 31 .lss 29 30] (aT 31 .skip (.exit 0))) (.block 1 (aa [I 32 8,I 33 9,bk 34 .add 32 33,b0 35 (.conv .u64 (.t 34)),b0 36 (.bin .shr false (.t 35) (.c (.int .u64 1))),b0 37 (.conv .i64 (.t 36)),I 10 37] (aa [aG 38 0 1 4,ax 39 1 38,I 40 10,I 41 1,gv 42 39 [.t 40,.t 41]] (aT 42 (.region [I 43 10,aS 44 .add 43 1,I 8 44]) (.region [I 45 10,I 9 45])))))))) (.seq (aa [I 46 1,I 11 46] (.block 2 (.loop (.seq (aa [I 47 11,I 48 8,aS 49 .sub 48 1,bk 50 .lss 47 49] (aT 50 .skip (.exit 2))) (.seq (.block 3 (.region [aG 53 1 1 4,ax 54 1 53,I 55 11,I 56 11,aS 57 .add 56 1,gv 58 54 [.t 55,.t 57]])) (.region [I 51 11,aS 52 .add 51 1,I 11 52])))))) .ret)))) .skip)) (.seq (aa [I 59 3,I 60 2,bk 61 .sub 59 60,aS 62 .eql 61 1] (aT 62 (aa [I 63 1,I 12 63] (aa [I 64 2,I 13 64] (.seq (.block 4 (.loop (.seq (aa [I 65 12,I 66 13,bk 67 .lss 65 66] (aT 67 .skip (.exit 4))) (.block 5 (aa [I 68 12,I 69 13,bk 70 .add 68 69,b0 71 (.conv .u64 (.t 70)),b0 72 (.bin .shr false (.t 71) (.c (.int .u64 1))),b0 73 (.conv .i64 (.t 72)),I 14 73] (aa [aG 74 0 1 4,ax 75 1 74,I 76 2,I 77 14,gv 78 75 [.t 76,.t 77],cB 79 78] (aT 79 (.region [I 80 14,aS 81 .add 80 1,I 12 81]) (.region [I 82 14,I 13 82])))))))) (.seq (aa [I 83 2,I 15 83] (.block 6 (.loop (.seq (aa [I 84 15,I 85 12,bk 86 .gtr 84 85] (aT 86 .skip (.exit 6))) (.seq (.block 7 (.region [aG 89 1 1 4,ax 90 1 89,I 91 15,I 92 15,aS 93 .sub 92 1,gv 94 90 [.t 91,.t 93]])) (.region [I 87 15,aS 88 .sub 87 1,I 15 88])))))) .ret)))) .skip)) (aa [I 95 1,I 96 3,bk 97 .add 95 96,b0 98 (.conv .u64 (.t 97)),b0 99 (.bin .shr false (.t 98) (.c (.int .u64 1))),b0 100 (.conv .i64 (.t 99)),I 16 100] (aa [I 101 16,I 102 2,bk 103 .add 101 102,I 17 103] (aa [bV 18 0,bV 19 0] (.seq (aa [I 104 2,I 105 16,bk 106 .gtr 104 105] (aT 106 (aa [I 107 17,I 108 3,bk 109 .sub 107 108,I 18 109] (.region [I 110 16,I 19 110])) (aa [I 111 1,I 18 111] (.region [I 112 2,I 19 112])))) G4)))))))
@[simp] def ahZ:List bK:=[]
def NR:C:=(aa [cP 4 0] (aa [I 10 2,I 11 1,bk 12 .sub 10 11,I 8 12] (aa [I 13 3,I 14 2,bk 15 .sub 13 14,I 9 15] (.seq (.block 0 (.loop (.seq (aa [I 16 8,I 17 9,bk 18 .neq 16 17] (aT 18 .skip (.exit 0))) (.block 1 (aa [I 19 8,I 20 9,bk 21 .gtr 19 20] (aT 21 (aa [be 22 2 4,I 23 2,I 24 8,bk 25 .sub 23 24,I 26 2,I 27 9,dE 28 270 [.t 22,.t 25,.t 26,.t 27]] (.region [I 29 8,I 30 9,bk 31 .sub 29 30,I 8 31])) (aa [be 32 2 4,I 33 2,I 34 8,bk 35 .sub 33 34,I 36 2,I 37 9,bk 38 .add 36 37,I 39 8,bk 40 .sub 38 39,I 41 8,dE 42 270 [.t 32,.t 35,.t 40,.t 41]] (.region [I 43 9,I 44 8,bk 45 .sub 43 44,I 9 45])))))))) (.region [be 46 2 4,I 47 2,I 48 8,bk 49 .sub 47 48,I 50 2,I 51 8,dE 52 270 [.t 46,.t 49,.t 50,.t 51]])))))
@[simp] def ahW:List bK:=[]
def NU:C:=(aa [cP 4 0] (aa [bV 8 0] (.block 0 (.loop (.seq (aa [I 9 8,I 10 3,bk 11 .lss 9 10] (aT 11 .skip (.exit 0))) (.seq (.block 1 (.region [aG 14 1 1 4,ax 15 1 14,I 16 1,I 17 8,bk 18 .add 16 17,I 19 2,I 20 8,bk 21 .add 19 20,gv 22 15 [.t 18,.t 21]])) (.region [I 12 8,aS 13 .add 12 1,I 8 13])))))))
@[simp] def TR:List bK:=[]
def zT:List (Nat×dB):=[
 (3,⟨1,8,.int .i64,.int .i64 0⟩),
 (143,⟨1,8,.other,.junk⟩),
 (181,⟨1,8,.other,.junk⟩),
 (185,⟨2,16,.struct [(0,143),(1,181)],.agg [.junk,.junk]⟩),
 (192,⟨1,8,.int .u64,.int .u64 0⟩)]
theorem zV:fN ao zT=true:=by kernel_rfl
theorem ago:b5 zT NT ahY 2 Tryz.f199=true:=by kernel_rfl
theorem Z0:ao.funcs[(199:Nat)]? =some Tryz.f199:=Tryz.func199
theorem S2:b5 zT GZ ahU 3 Tryz.f231=true:=by kernel_rfl
theorem Pl:ao.funcs[(231:Nat)]? =some Tryz.f231:=Tryz.func231
theorem agq:b5 zT NV ahZ 4 Tryz.f232=true:=by kernel_rfl
theorem Z2:ao.funcs[(232:Nat)]? =some Tryz.f232:=Tryz.func232
theorem agm:b5 zT NR ahW 4 Tryz.f251=true:=by kernel_rfl
theorem ZY:ao.funcs[(251:Nat)]? =some Tryz.f251:=Tryz.func251
theorem agp:b5 zT NU TR 4 Tryz.f270=true:=by kernel_rfl
theorem Z1:ao.funcs[(270:Nat)]? =some Tryz.f270:=Tryz.func270
end Go.Proofs.YtahlgcidhnjlbaaGreat
namespace Go.Proofs.YtahlgcidhnjlbaaGreat
open Go Go.Pv
structure eV {α:Type} (S:List α→cF) (n:Nat) (g b2:Nat) (lc bX:List ah) (lt:α→α→Bool):Prop where
 ok:∀l,ee (S l)
 same:∀l aX,l.length=n→aX.length=n→Same (S l) (S aX)
 klc:∀l,l.length=n→aH (inObs (S l)) lc
 ksc:∀l,l.length=n→aH (inObs (S l)) bX
 slc:cU lc=lc
 ssc:cU bX=bX
 le:n≤68719476736
 less:∀l,l.length=n→∀(i j:Nat) x y,l[i]? =some x→l[j]? =some y→bJ ao g (.int .i64 i:: .int .i64 j::lc) (S l) fun r ai=>r= .bool (lt x y)∧ai=S l
 swap:∀l,l.length=n→2≤n→∀i j:Nat,i<n→j<n→bJ ao b2 (.int .i64 i:: .int .i64 j::bX) (S l) fun r ai=>r= .tuple []∧ai=S (gQ l i j)
variable {α:Type} {S:List α→cF} {n g b2:Nat} {lc bX:List ah} {lt:α→α→Bool}
def eK(g b2:Nat)(lc bX:List ah):ah:= .agg [.func g lc,.func b2 bX]
theorem HS(H:eV S n g b2 lc bX lt)(l:List α)(au:l.length=n)(a b c:Nat)(al9:a+c≤b)(P9:b+c≤n):
  bJ ao 270 [eK g b2 lc bX,.int .i64 a,.int .i64 b,.int .i64 c] (S l) fun r ai=>r= .tuple []∧∃aX,ai=S aX∧gd a (b+c) l aX∧∀k,aX[k]? =l[rl a b c k]?:=by
 have ag:=H.ok l;have aA:∀l m,Pv.look (.loc m) (S l).b=none:=fun l=>(H.ok l).obj.1;have hu:∀l m cs,cw (.loc m) cs (S l).b=(S l).b++[(.loc m,cs)]:=fun l m cs=>jE (aA l m);have av:∀m,aD.loc m∉cO (S l):=jz ag.obj;have hle:=H.le;refine bJ.mk mixed zV Z1 agp (by simp) ag.obj fun aR c1=>?_;unfold NU;simp[eK,hu,av,cE,aA,H.slc,H.ssc];refine ik (fun i (lk:List α)=>⟨[(1,.int .i64 a),(2,.int .i64 b),(3,.int .i64 c),(4,.ptr (.loc 0) 0),(8,.int .i64 i)],[(.loc 0,[.func g lc,.func b2 bX])]++(S lk).b,(S lk).e,1,cO (S l)⟩) c (fun i lk=>lk.length=n∧gd a (b+c) l lk∧∀k,lk[k]? =l[rl a b i k]?) l
  (ig.obL ag (Same.refl _) (by simp[aB]) (by simp[cE,aA,aB,aH,zj (H.klc l au),zj (H.ksc l au)]) aQ aQ) ⟨au,.refl _,fun k=>by simp[rl];split<;>(try split)<;>(try rfl)<;>(exfalso;omega)⟩ ?_ ?_
 ·rintro lk ⟨J,U,al⟩ _;simp;refine cN.at (S lk) (.inr rfl) (H.ok lk) (H.same _ _ au J) aQ aQ ?_;simp[cT,TR,aV,aY,aU];exact⟨lk,rfl,U,al⟩
 ·rintro i lk hi ⟨J,U,al⟩ _;have aj:((a:Int)+i)=(a+i:Nat):=by omega
  have aC:((b:Int)+i)=(b+i:Nat):=by omega
  simp[hi,cE,aA,H.ssc];(with_reducible repeat' first|refine ak ?_|simp);rw[aj,aC];refine c2.ob (H.swap lk J (by omega) (a+i) (b+i) (by omega) (by omega)) (H.ok lk) aQ aQ (by simp[H.ksc lk J]) ?_;rintro r ai ⟨rfl,rfl⟩;refine⟨H.same _ _ J (by simp[J]),?_⟩;simp[gH,h8,cu,aA];(with_reducible repeat' first|refine ak ?_|simp);refine bL.rng (gQ lk (a+i) (b+i)) hi ⟨by simp[J],.step U (by omega) (by omega) (by omega) (by omega) (by omega) (by omega),fun k=>?_⟩ (ig.obL (L:=[(.loc 0,[.func g lc,.func b2 bX])]) (H.ok _) (H.same _ _ au (by simp[J])) (by simp[aB]) (by simp[cE,aA,aB,aH,zj (H.klc (gQ lk (a+i) (b+i)) (by simp[J])),zj (H.ksc (gQ lk (a+i) (b+i)) (by simp[J]))]) aQ aQ);rw[y9 _ _ _ _ (by omega) (by omega),al,al,al];have:rl a b (i+1) k=if k=a+i then rl a b i (b+i)else if k=b+i then rl a b i (a+i)else rl a b i k:=by
   simp only[rl];repeat' split
   all_goals omega
  rw[this];split
  ·rfl
  ·split<;>rfl
section
variable (H:eV S n g b2 lc bX lt)
include H
theorem eV.loc{l:List α}(m:Nat):Pv.look (.loc m) (S l).b=none:=(H.ok l).obj.1 m
theorem eV.weak{l lk:List α}(au:l.length=n)(ab:lk.length=n){st:bo}{dD:List (Nat×ah)}(aO:∀x∈dD,Pv.get x.1 st.t=x.2∧aB (lF (S lk) 1) x.2)(bs:Pv.look (.loc 0) st.b=some [.func g lc,.func b2 bX])
  (ae:∀k cs,Pv.look k (S lk).b=some cs→Pv.look k st.b=some cs) (he:∀k o,Pv.look k (S lk).e=some o→Pv.look k st.e=some o):
  ig (cO (S l)) st ⟨dD,(.loc 0,[.func g lc,.func b2 bX])::(S lk).b,(S lk).e,1,cO (S l)⟩:=
 ig.obL (L:=[(.loc 0,[.func g lc,.func b2 bX])]) (H.ok _) (H.same _ _ au ab) aO (by simp[bs,aB,aH,zj (H.klc lk ab),zj (H.ksc lk ab)]) ae he
theorem eV.weakC{l lk:List α}(au:l.length=n)(ab:lk.length=n){t dD:List (Nat×ah)}{q:Nat}{o:List aD}(aO:∀x∈dD,Pv.get x.1 t=x.2∧aB (lF (S lk) 1) x.2):
  ig (cO (S l)) ⟨t,(.loc 0,[.func g lc,.func b2 bX])::(S lk).b,(S lk).e,q,o⟩ ⟨dD,(.loc 0,[.func g lc,.func b2 bX])::(S lk).b,(S lk).e,1,cO (S l)⟩:=
 H.weak au ab aO (by simp[Pv.look]) (fun k cs ad=>by
  cases k with
  |loc m=>rw[H.loc m]at ad;cases ad
  |obj m=>simpa[Pv.look]using ad) (fun _ _ ad=>ad)
theorem eV.call{lk:List α}(J:lk.length=n){f:Nat}{args:List ah}{R:ah→List α→Prop}(aI:bJ ao f args (S lk) fun r ai=> ∃aX,ai=S aX∧R r aX)(bh:∀r aX,R r aX→aX.length=n)(ab:aH (inObs (S lk)) args){t:List (Nat×ah)}{D:List ah}{o:List aD}{d:aW Nat}{K:bo→Prop}
  (h:∀r aX,R r aX→K ⟨eC d r t,(.loc 0,D)::(S aX).b,(S aX).e,1,o++cO (S aX)⟩):c2 ao f args ⟨t,(.loc 0,D)::(S lk).b,(S lk).e,1,o⟩ d K:=by
 refine c2.ob aI (H.ok lk) (fun k cs ad=>?_) (fun _ _ ad=>ad) ab ?_
 ·cases k with
  |loc m=>rw[H.loc m]at ad;cases ad
  |obj m=>simpa[Pv.look]using ad
 ·rintro r ai ⟨aX,rfl,aJ⟩;refine⟨H.same _ _ J (bh _ _ aJ),?_⟩;have aj:cu (S lk).b ((.loc 0,D)::(S lk).b)=[(.loc 0,D)]:=by have:=h8 (S lk).b [(aD.loc 0,D)] (S lk).b;rw[gH]at this;simpa[cu,H.loc]using this
  have aC:cu (S lk).e (S lk).e=[]:=gH _;have:=h _ _ aJ;simp only[aj,aC];exact this
theorem eV.doSwap{lk:List α}(J:lk.length=n)(i j:Nat)(hi:i<n)(af:j<n)(U:2≤n){t:List (Nat×ah)}{D:List ah}{o:List aD}{d:aW Nat}{K:bo→Prop}
  (h:K ⟨eC d (.tuple []) t,(.loc 0,D)::(S (gQ lk i j)).b,(S (gQ lk i j)).e,1,o++cO (S (gQ lk i j))⟩):c2 ao b2 (.int .i64 i:: .int .i64 j::bX) ⟨t,(.loc 0,D)::(S lk).b,(S lk).e,1,o⟩ d K:=
 H.call J (R:=fun r aX=>r= .tuple []∧aX=gQ lk i j) ((H.swap lk J U i j hi af).mono fun r ai ⟨aj,aC⟩=>⟨_,aC,aj,rfl⟩) (fun r aX ⟨_,e⟩=>by rw[e];simp[J]) (by simp[aB,aH,H.ksc lk J]) (by rintro r aX ⟨rfl,rfl⟩;exact h)
theorem eV.doLess{lk:List α}(J:lk.length=n)(i j:Nat){x y:α}(hi:lk[i]? =some x)(af:lk[j]? =some y){t:List (Nat×ah)}{D:List ah}{o:List aD}{d:aW Nat}{K:bo→Prop}
  (h:K ⟨eC d (.bool (lt x y)) t,(.loc 0,D)::(S lk).b,(S lk).e,1,o++cO (S lk)⟩):c2 ao g (.int .i64 i:: .int .i64 j::lc) ⟨t,(.loc 0,D)::(S lk).b,(S lk).e,1,o⟩ d K:=
 H.call J (R:=fun r aX=>r= .bool (lt x y)∧aX=lk) ((H.less lk J i j x y hi af).mono fun r ai ⟨aj,aC⟩=>⟨_,aC,aj,rfl⟩) (fun r aX ⟨_,e⟩=>by rw[e];exact J) (by simp[aB,aH,H.klc lk J]) (by rintro r aX ⟨rfl,rfl⟩;exact h)
theorem eV.doFn{lk:List α}(J:lk.length=n){f:Nat}{args:List ah}{R:List α→Prop}(aI:bJ ao f args (S lk) fun r ai=>r= .tuple []∧∃aX,ai=S aX∧R aX)(bh:∀aX,R aX→aX.length=n)(ab:aH (inObs (S lk)) args){t:List (Nat×ah)}{D:List ah}{o:List aD}{d:aW Nat}{K:bo→Prop}
  (h:∀aX,R aX→K ⟨eC d (.tuple []) t,(.loc 0,D)::(S aX).b,(S aX).e,1,o++cO (S aX)⟩):c2 ao f args ⟨t,(.loc 0,D)::(S lk).b,(S lk).e,1,o⟩ d K:=
 H.call J (R:=fun r aX=>r= .tuple []∧R aX) (aI.mono fun r ai ⟨aj,aX,aC,bg⟩=>⟨aX,aC,aj,bg⟩) (fun r aX h=>bh aX h.2) ab (by rintro r aX ⟨rfl,aJ⟩;exact h aX aJ)
theorem eV.kdata{lk:List α}(J:lk.length=n):aB (inObs (S lk)) (eK g b2 lc bX):=by simp[eK,aB,aH,H.klc lk J,H.ksc lk J]
theorem eV.ret{l lk:List α}(au:l.length=n)(J:lk.length=n){Q:ah→cF→Prop}{e:Exit}(he:e= .ret∨e= .normal){t:List (Nat×ah)}{D:List ah}{q:Nat}{o:List aD}(bp:Q (.tuple []) (S lk)):cN [] (S l) Q e ⟨t,(.loc 0,D)::(S lk).b,(S lk).e,q,o⟩:=by
 refine cN.at (S lk) he (H.ok lk) (H.same _ _ au J) (fun k cs ad=>?_) (fun _ _ ad=>ad) ?_
 ·cases k with
  |loc m=>rw[H.loc m]at ad;cases ad
  |obj m=>simpa[Pv.look]using ad
 ·simp[cT,aV,aU,aB,aH,bp]
end
theorem hY(H:eV S n g b2 lc bX lt):dn (eK g b2 lc bX)=eK g b2 lc bX:=by simp[eK,dn,cU,H.slc,H.ssc]
theorem hS:ah.agg [.func g lc,.func b2 bX]=eK g b2 lc bX:=rfl
theorem abb(H:eV S n g b2 lc bX lt)(l:List α)(au:l.length=n)(a m b:Nat)(AY:a<m)(uU:m<b)(ae:b≤n):
  bJ ao 251 [eK g b2 lc bX,.int .i64 a,.int .i64 m,.int .i64 b] (S l) fun r ai=>r= .tuple []∧∃aX,ai=S aX∧gd a b l aX∧∀k,aX[k]? =l[hH a m b k]?:=by
 have ag:=H.ok l;have aA:∀l m,Pv.look (.loc m) (S l).b=none:=fun l=>(H.ok l).obj.1;have hu:∀l m cs,cw (.loc m) cs (S l).b=(S l).b++[(.loc m,cs)]:=fun l m cs=>jE (aA l m);have av:∀m,aD.loc m∉cO (S l):=jz ag.obj;have hle:=H.le;refine bJ.mk mixed zV ZY agm (by simp) ag.obj fun aR c1=>?_;unfold NR;simp[eK,hu,av,cE,aA];(with_reducible repeat' first|refine ak ?_|simp[hu,av,cE,aA]);refine nH (fun(x:(Nat×Nat)×List α)=>⟨[(2,.int .i64 m),(4,.ptr (.loc 0) 0),(8,.int .i64 x.1.1),(9,.int .i64 x.1.2)],(.loc 0,[.func g lc,.func b2 bX])::(S x.2).b,(S x.2).e,1,cO (S l)⟩) (fun x=>x.1.1+x.1.2)
  (fun x=>x.2.length=n∧0<x.1.1∧0<x.1.2∧a+x.1.1≤m∧m+x.1.2≤b∧gd a b l x.2∧∀k,l[hH a m b k]? =x.2[hH (m-x.1.1) m (m+x.1.2) k]?) ((m-a,b-m),l)
  (H.weak au au (by simp[aB];omega) (by simp[cE,aA]) aQ aQ) ⟨au,by simp;omega,by simp;omega,by simp;omega,by simp;omega,.refl _,fun k=>by simp[show m-(m-a)=a by omega,show m+(b-m)=b by omega]⟩ ?_
 rintro⟨⟨i,j⟩,lk⟩ ⟨J,hi,af,fW,D1,U,al⟩ _;simp only at J hi af fW D1 U al;simp[Pv.look];((with_reducible repeat' first|refine ak ?_|simp[Pv.look]|((first|apply bO|apply bS|apply bR)<;>intro h<;>try simp at h))<;>(try exact cq))
 ·have aj:((m:Int)-i)=(m-i:Nat):=by omega
  simp only[hY H,H.slc,H.ssc,aj,hS];refine H.doFn J (HS H lk J (m-i) m j (by omega) (by omega)) (fun aX h=>by rw[h.1.length];exact J) (by simp[aH,aB,H.kdata J]) ?_;rintro aX ⟨aZ,bB⟩;have bQ:aX.length=n:=by rw[aZ.length];exact J
  simp;((with_reducible repeat' first|refine ak ?_|simp|((first|apply bO|apply bS|apply bR)<;>intro h<;>try simp at h))<;>(try exact cq));refine bL.whl ((i-j,j),aX) (by simp;omega) ⟨bQ,by simp;omega,af,by simp;omega,D1,U.trans (aZ.mono (by omega) (by omega)),fun k=>?_⟩ (H.weakC au bQ (by simp[aB];omega));rw[al,bB];congr 1;simp only[hH,rl];repeat' split
  all_goals omega
 ·have aj:((m:Int)-i)=(m-i:Nat):=by omega
  have aC:((m:Int)+j-i)=(m+j-i:Nat):=by omega
  simp only[hY H,H.slc,H.ssc,aj,aC,hS];refine H.doFn J (HS H lk J (m-i) (m+j-i) i (by omega) (by omega)) (fun aX h=>by rw[h.1.length];exact J) (by simp[aH,aB,H.kdata J]) ?_;rintro aX ⟨aZ,bB⟩;have bQ:aX.length=n:=by rw[aZ.length];exact J
  simp;(with_reducible repeat' first|refine ak ?_|simp);refine bL.whl ((i,j-i),aX) (by simp;omega) ⟨bQ,hi,by simp;omega,fW,by simp;omega,U.trans (aZ.mono (by omega) (by omega)),fun k=>?_⟩ (H.weakC au bQ (by simp[aB];omega));rw[al,bB];congr 1;simp only[hH,rl];repeat' split
  all_goals omega
 ·have aj:((m:Int)-i)=(m-i:Nat):=by omega
  simp only[hY H,H.slc,H.ssc,aj,hS];refine H.doFn J (HS H lk J (m-i) m i (by omega) (by omega)) (fun aX h=>by rw[h.1.length];exact J) (by simp[aH,aB,H.kdata J]) ?_;rintro aX ⟨aZ,bB⟩;have bQ:aX.length=n:=by rw[aZ.length];exact J
  simp;refine H.ret au bQ (.inr rfl) ⟨rfl,aX,rfl,U.trans (aZ.mono (by omega) (by omega)),fun k=>?_⟩;rw[al,bB];congr 1;simp only[hH,rl];repeat' split
  all_goals omega
end Go.Proofs.YtahlgcidhnjlbaaGreat
namespace Go.Proofs.YtahlgcidhnjlbaaGreat
open Go Go.Pv
variable {α:Type} {S:List α→cF} {n g b2:Nat} {lc bX:List ah} {lt:α→α→Bool}
def sP(lt:α→α→Bool)(a b j:Nat)(l:List α):Prop:= ∀p q x y,a≤p→p<q→q<b→q≠j→l[p]? =some x→l[q]? =some y→lt y x=false
theorem sP.swap(bu:pN lt){a b j:Nat}{l:List α}(h:sP lt a b (j+1) l)(P8:a≤j)(D1:j+1<b)(af:j+1<l.length){x y:α}(ad:l[j+1]? =some x)(aL:l[j]? =some y)(hC:lt x y=true):sP lt a b j (gQ l (j+1) j):=by
 intro p q u v bF j4 bp amo hu aK;rw[y9 _ _ _ _ af (by omega)]at hu aK;rw[if_neg (by omega:¬(q=j))]at aK;split at aK
 ·rename_i e;subst e;rw[aL]at aK;cases aK;split at hu
  ·omega
  ·split at hu
   ·rw[ad]at hu;cases hu;exact bu.asym _ _ hC
   ·exact h p j u y bF (by omega) (by omega) (by omega) hu aL
 ·split at hu
  ·rename_i e;subst e;rw[aL]at hu;cases hu;exact h j q y v P8 (by omega) bp (by omega) aL aK
  ·split at hu
   ·rename_i e;subst e;rw[ad]at hu;cases hu;exact h (p+1) q x v (by omega) (by omega) bp (by omega) ad aK
   ·exact h p q u v bF j4 bp (by omega) hu aK
theorem sP.done(bu:pN lt){a b j:Nat}{l:List α}(h:sP lt a b (j+1) l)(P8:a≤j)(D1:j+1<b){x y:α}(ad:l[j+1]? =some x)(aL:l[j]? =some y)(hC:lt x y=false):e3 lt a b l:=by
 intro p q u v bF j4 bp hu aK;by_cases e:q=j+1
 ·subst e;rw[ad]at aK;cases aK;by_cases aC:p=j
  ·subst aC;rw[aL]at hu;cases hu;exact hC
  ·exact bu.ntr _ _ _ (h p j u y bF (by omega) (by omega) (by omega) hu aL) hC
 ·exact h p q u v bF j4 bp e hu aK
theorem sP.first{a b:Nat}{l:List α}(h:sP lt a b a l):e3 lt a b l:=fun p q u v bF j4 bp hu aK=>h p q u v bF j4 bp (by omega) hu aK
theorem e3.but{a b:Nat}{l:List α}(h:e3 lt a b l):sP lt a (b+1) b l:=fun p q u v bF j4 bp Ix hu aK=>h p q u v bF j4 (by omega) hu aK
theorem PJ(H:eV S n g b2 lc bX lt)(bu:pN lt)(l:List α)(au:l.length=n)(a b:Nat)(mx:a≤b)(ae:b≤n):
  bJ ao 231 [eK g b2 lc bX,.int .i64 a,.int .i64 b] (S l) fun r ai=>r= .tuple []∧∃aX,ai=S aX∧gd a b l aX∧e3 lt a b aX:=by
 have ag:=H.ok l;have aA:∀l m,Pv.look (.loc m) (S l).b=none:=fun l=>(H.ok l).obj.1;have hu:∀l m cs,cw (.loc m) cs (S l).b=(S l).b++[(.loc m,cs)]:=fun l m cs=>jE (aA l m);have av:∀m,aD.loc m∉cO (S l):=jz ag.obj;have hle:=H.le;refine bJ.mk mixed zV Pl S2 (by simp) ag.obj fun aR c1=>?_;unfold GZ;simp[eK,hu,av,cE,aA];(with_reducible repeat' first|refine ak ?_|simp[hu,av,cE,aA]);refine nH (fun(x:Nat×List α)=>⟨[(1,.int .i64 a),(2,.int .i64 b),(3,.ptr (.loc 0) 0),(6,.int .i64 x.1)],(.loc 0,[.func g lc,.func b2 bX])::(S x.2).b,(S x.2).e,1,cO (S l)⟩) (fun x=>b+1-x.1)
  (fun x=>x.2.length=n∧a<x.1∧x.1≤b+1∧(x.1≤b∨x.1=a+1)∧gd a b l x.2∧e3 lt a x.1 x.2) (a+1,l)
  (H.weak au au (by simp[aB]) (by simp[cE,aA]) aQ aQ) ⟨au,by simp,by simp;omega,.inr rfl,.refl _,fun i j x y J U al=>by simp at al;omega⟩ ?_
 rintro⟨i,lk⟩ ⟨J,my,yE,r4,U,al⟩ _;simp only at J my yE r4 U al;simp;((with_reducible repeat' first|refine ak ?_|simp|((first|apply bO|apply bS|apply bR)<;>intro h<;>try simp at h))<;>(try exact cq))
 ·refine nH (fun(x:Nat×List α)=>⟨[(1,.int .i64 a),(2,.int .i64 b),(3,.ptr (.loc 0) 0),(6,.int .i64 i),(7,.int .i64 x.1)],(.loc 0,[.func g lc,.func b2 bX])::(S x.2).b,(S x.2).e,1,cO (S l)⟩) (fun x=>x.1)
   (fun x=>x.2.length=n∧a≤x.1∧x.1≤i∧gd a b l x.2∧sP lt a (i+1) x.1 x.2) (i,lk)
   (H.weakC au J (by simp[aB])) ⟨J,by simp;omega,by simp,U,e3.but al⟩ ?_
  rintro⟨j,BK⟩ ⟨a8,adR,ad6,bU,cj⟩ _;simp only at a8 adR ad6 bU cj;simp[Pv.look];((with_reducible repeat' first|refine ak ?_|simp[Pv.look]|((first|apply bO|apply bS|apply bR)<;>intro h<;>try simp at h))<;>(try exact cq))
  ·obtain⟨du,rfl⟩:∃du,j=du+1:=⟨j-1,by omega⟩;obtain⟨x,ad⟩:∃x,BK[du+1]? =some x:=⟨_,ca (by omega)⟩;obtain⟨y,aL⟩:∃y,BK[du]? =some y:=⟨_,ca (by omega)⟩;have aj:(((du+1:Nat):Int)-1)=(du:Nat):=by omega
   rw[H.slc,aj];refine H.doLess a8 (du+1) du ad aL ?_;simp;cases hC:lt x y with
   |true=>
    simp[Pv.look];(with_reducible repeat' first|refine ak ?_|simp[Pv.look]);have bg:((du:Int)+1)=(du+1:Nat):=by omega
    rw[H.ssc,bg];refine H.doSwap a8 (du+1) du (by omega) (by omega) (by omega) ?_;simp;(with_reducible repeat' first|refine ak ?_|simp);refine bL.whl (du,gQ BK (du+1) du) (by simp) ⟨by simp[a8],by simp;omega,by simp;omega,.step bU (by omega) (by omega) (by omega) (by omega) (by omega) (by omega),cj.swap bu (by omega) (by omega) (by omega) ad aL hC⟩ (H.weakC au (by simp[a8]) (by simp[aB]))
   |false=>simp;((with_reducible repeat' first|refine ak ?_|simp|((first|apply bO|apply bS|apply bR)<;>intro h<;>try simp at h))<;>(try exact cq));refine bL.whl (i+1,BK) (by simp;omega) ⟨a8,by simp;omega,by simp;omega,by simp;omega,bU,cj.done bu (by omega) (by omega) ad aL hC⟩ (H.weakC au a8 (by simp[aB]))
  ·obtain rfl:j=a:=by omega
   refine bL.whl (i+1,BK) (by simp;omega) ⟨a8,by simp;omega,by simp;omega,by simp;omega,bU,cj.first⟩ (H.weakC au a8 (by simp[aB]))
 ·refine H.ret au J (.inr rfl) ⟨rfl,lk,rfl,U,fun p q x y bF j4 bp=>al p q x y bF j4 (by omega)⟩
end Go.Proofs.YtahlgcidhnjlbaaGreat
namespace Go.Proofs.YtahlgcidhnjlbaaGreat
open Go Go.Pv
variable {α:Type} [Inhabited α] {S:List α→cF} {n g b2:Nat} {lc bX:List ah} {lt:α→α→Bool}
theorem x2{d:Array α}{i:Nat}(h:i<d.size):d.toList[i]? =some d[i]!:=by simp[getElem!_pos,h]
theorem EM(d:Array α){i j:Nat}(hi:i<d.size)(af:j<d.size):gQ d.toList i j=(Sort.swp d i j).toList:=by simp[gQ,Sort.swp,x2 hi,x2 af]
section
variable (H:eV S n g b2 lc bX lt)
include H
theorem eV.swapA{d:Array α}(J:d.size=n)(U:2≤n)(i j:Nat)(hi:i<n)(af:j<n){t:List (Nat×ah)}{D:List ah}{o:List aD}{b6:aW Nat}{K:bo→Prop}
  (h:∀o,K ⟨eC b6 (.tuple []) t,(.loc 0,D)::(S (Sort.swp d i j).toList).b,(S (Sort.swp d i j).toList).e,1,o⟩):c2 ao b2 (.int .i64 i:: .int .i64 j::bX) ⟨t,(.loc 0,D)::(S d.toList).b,(S d.toList).e,1,o⟩ b6 K:=by
 refine H.doSwap (by simpa using J) i j hi af U ?_;rw[EM d (by omega) (by omega)];exact h _
theorem eV.lessA{d:Array α}(J:d.size=n)(i j:Nat)(hi:i<n)(af:j<n){t:List (Nat×ah)}{D:List ah}{o:List aD}{b6:aW Nat}{K:bo→Prop}
  (h:∀o,K ⟨eC b6 (.bool (lt d[i]! d[j]!)) t,(.loc 0,D)::(S d.toList).b,(S d.toList).e,1,o⟩):c2 ao g (.int .i64 i:: .int .i64 j::lc) ⟨t,(.loc 0,D)::(S d.toList).b,(S d.toList).e,1,o⟩ b6 K:=
 H.doLess (by simpa using J) i j (x2 (by omega)) (x2 (by omega)) (h _)
theorem eV.fnA{d d2:Array α}(J:d.size=n)(U:d2.size=n){f:Nat}{args:List ah}{r:ah}(aI:bJ ao f args (S d.toList) fun ev ai=>ev=r∧ai=S d2.toList)(ab:aH (inObs (S d.toList)) args){t:List (Nat×ah)}{D:List ah}{o:List aD}{b6:aW Nat}{K:bo→Prop}
  (h:∀o,K ⟨eC b6 r t,(.loc 0,D)::(S d2.toList).b,(S d2.toList).e,1,o⟩):c2 ao f args ⟨t,(.loc 0,D)::(S d.toList).b,(S d.toList).e,1,o⟩ b6 K:=
 H.call (by simpa using J) (R:=fun ev aX=>ev=r∧aX=d2.toList) (aI.mono fun r ai ⟨aj,aC⟩=>⟨_,aC,aj,rfl⟩) (fun r aX ⟨_,e⟩=>by rw[e];simpa using U) ab (by rintro ev aX ⟨rfl,rfl⟩;exact h _)
end
section
variable (H:eV S n g b2 lc bX lt)
include H
theorem eV.loopA{β:Type}{xa:List α}(au:xa.length=n){t:List (Nat×ah)}{b:List (aD×List ah)}{e:List (aD×fF)}{q:Nat}{o:List aD}(b7:List Nat)(cs:β→List (Nat×ah))(A:β→Array α)(me:β→Nat)(gB:β→Prop)(a0:β)(bd:(A a0).size=n)(bs:gB a0)
  (uK:Pv.look (.loc 0) b=some [.func g lc,.func b2 bX]) (ae:∀k cs,Pv.look k (S (A a0).toList).b=some cs→Pv.look k b=some cs) (he:∀k o,Pv.look k (S (A a0).toList).e=some o→Pv.look k e=some o)
  (aO:∀x∈tw t b7++cs a0,Pv.get x.1 t=x.2∧aB (lF (S (A a0).toList) 1) x.2) {c:C} {Q:Exit→bo→Prop}
  (ag:∀a,gB a→cR ao (cO (S xa)) c (bL (cO (S xa)) (Aa (fun a=>⟨tw t b7++cs a,(.loc 0,[.func g lc,.func b2 bX])::(S (A a).toList).b,(S (A a).toList).e,1,cO (S xa)⟩) me gB) (me a) Q) ⟨tw t b7++cs a,(.loc 0,[.func g lc,.func b2 bX])::(S (A a).toList).b,(S (A a).toList).e,1,cO (S xa)⟩):
  cR ao (cO (S xa)) (.loop c) Q ⟨t,b,e,q,o⟩:=
 nH (fun a=>⟨tw t b7++cs a,(.loc 0,[.func g lc,.func b2 bX])::(S (A a).toList).b,(S (A a).toList).e,1,cO (S xa)⟩) me gB a0 (H.weak au (by simpa using bd) aO uK ae he) bs fun a af _=>ag a af
theorem eV.callA0{lk:List α}(J:lk.length=n){f:Nat}{args:List ah}{R:ah→List α→Prop}(aI:bJ ao f args (S lk) fun r ai=> ∃aX,ai=S aX∧R r aX)(bh:∀r aX,R r aX→aX.length=n)(ab:aH (inObs (S lk)) args){t:List (Nat×ah)}{D:List ah}{o:List aD}{d:aW Nat}{K:bo→Prop}
  (h:∀r aX,R r aX→∀o,K ⟨eC d r t,(.loc 0,D)::(S aX).b,(S aX).e,1,o⟩):c2 ao f args ⟨t,(S lk).b++[(.loc 0,D)],(S lk).e,1,o⟩ d K:=by
 refine c2.ob aI (H.ok lk) (fun k cs ad=>by rw[cE,ad]) (fun _ _ ad=>ad) ab ?_;rintro r ai ⟨aX,rfl,aJ⟩;refine⟨H.same _ _ J (bh _ _ aJ),?_⟩;have aj:cu (S lk).b ((S lk).b++[(.loc 0,D)])=[(.loc 0,D)]:=by rw[h8,gH];simp[cu,H.loc]
 have aC:cu (S lk).e (S lk).e=[]:=gH _;have:=h _ _ aJ (o++cO (S aX));simp only[aj,aC];exact this
theorem eV.swapA0{d:Array α}(J:d.size=n)(U:2≤n)(i j:Nat)(hi:i<n)(af:j<n){t:List (Nat×ah)}{D:List ah}{o:List aD}{b6:aW Nat}{K:bo→Prop}
  (h:∀o,K ⟨eC b6 (.tuple []) t,(.loc 0,D)::(S (Sort.swp d i j).toList).b,(S (Sort.swp d i j).toList).e,1,o⟩):c2 ao b2 (.int .i64 i:: .int .i64 j::bX) ⟨t,(S d.toList).b++[(.loc 0,D)],(S d.toList).e,1,o⟩ b6 K:=by
 refine H.callA0 (by simpa using J) (R:=fun r aX=>r= .tuple []∧aX=(Sort.swp d i j).toList) ((H.swap d.toList (by simpa using J) U i j hi af).mono fun r ai ⟨aj,aC⟩=>⟨_,aC,aj,EM d (by omega) (by omega)⟩) (fun r aX ⟨_,e⟩=>by rw[e];simp[Sort.swp,J]) (by simp[aB,aH,H.ksc d.toList (by simpa using J)]) ?_;rintro r aX ⟨rfl,rfl⟩ o;exact h o
theorem eV.retA{l:List α}{d:Array α}(au:l.length=n)(J:d.size=n){Q:ah→cF→Prop}{e:Exit}(he:e= .ret∨e= .normal){t:List (Nat×ah)}{D:List ah}{q:Nat}{o:List aD}(bp:Q (.tuple []) (S d.toList)):cN [] (S l) Q e ⟨t,(.loc 0,D)::(S d.toList).b,(S d.toList).e,q,o⟩:=H.ret au (by simpa using J) he bp
theorem eV.retR{fa:List bK}{l:List α}{d:Array α}(au:l.length=n)(J:d.size=n){Q:ah→cF→Prop}{e:Exit}(he:e= .ret∨e= .normal){t:List (Nat×ah)}{D:List ah}{q:Nat}{o:List aD}(h:cT ⟨t,(.loc 0,D)::(S d.toList).b,(S d.toList).e,q,o⟩ fa fun r=>aB (inObs (S d.toList)) r∧Q r (S d.toList)):cN fa (S l) Q e ⟨t,(.loc 0,D)::(S d.toList).b,(S d.toList).e,q,o⟩:=by
 refine cN.at (S d.toList) he (H.ok _) (H.same _ _ au (by simpa using J)) (fun k cs ad=>?_) (fun _ _ ad=>ad) h;cases k with
 |loc m=>rw[H.loc m]at ad;cases ad
 |obj m=>simpa[Pv.look]using ad
end
theorem gz(d:Array α)(i j:Nat):(Sort.swp d i j).size=d.size:=by simp[Sort.swp]
end Go.Proofs.YtahlgcidhnjlbaaGreat
namespace Go.Proofs.YtahlgcidhnjlbaaGreat
open Go Go.Pv
def NB:C:=(aa [bV 2 0] (.seq (.cond (.c (.bool false)) (aa [I 3 0,b0 4 (.conv .u32 (.t 3)),c7 5 236 4,I 2 5] .ret) .skip) (aa [I 6 0,c7 7 237 6,I 2 7] .ret)))
@[simp] def ahS:List bK:=[.tmp 2]
def G0:C:=(aa [be 91 2 4,I 92 1,I 93 2,I 94 11,dE 95 244 [.t 91,.t 92,.t 93,.t 94],I 90 95,cV 96 0 90,cV 97 1 90,I 14 96,I 15 97] (aa [I 98 15,I 9 98] (aa [I 99 14,I 100 1,bk 101 .sub 99 100,I 102 2,I 103 14,bk 104 .sub 102 103,I 16 101,I 17 104] (aa [I 105 10,aS 106 .quo 105 8,I 18 106] (aa [I 107 16,I 108 17,bk 109 .lss 107 108] (aT 109 (aa [I 110 16,I 111 18,bk 112 .geq 110 111,I 8 112] (aa [be 113 2 4,I 114 1,I 115 14,I 116 3,dE 117 214 [.t 113,.t 114,.t 115,.t 116]] (.region [I 118 14,aS 119 .add 118 1,I 1 119]))) (aa [I 120 17,I 121 18,bk 122 .geq 120 121,I 8 122] (aa [be 123 2 4,I 124 14,aS 125 .add 124 1,I 126 2,I 127 3,dE 128 214 [.t 123,.t 125,.t 126,.t 127]] (.region [I 129 14,I 2 129])))))))))
def Ar:C:=(.seq (aa [I 73 1,aS 74 .gtr 73 0,I 75 74,ar 75 true (aG 76 0 1 4),ar 75 true (ax 77 1 76),b3 75 true 78 1,ar 75 true (aS 79 .sub 78 1),b3 75 true 80 11,ar 75 true (gv 81 77 [.t 79,.t 80]),ar 75 true (cB 82 81),dH 83 75 82] (aT 83 (aa [be 84 2 4,I 85 1,I 86 2,I 87 11,dE 88 243 [.t 84,.t 85,.t 86,.t 87],I 13 88] (aa [I 89 13,I 1 89] (.exit 1))) .skip)) G0)
def G1:C:=(.seq (aa [I 61 8,I 62 61,b3 62 true 63 9,dH 64 62 63,I 65 64,b3 65 true 66 12,ar 65 true (aS 67 .eql 66 1),dH 68 65 67] (aT 68 (aa [be 69 2 4,I 70 1,I 71 2,dE 72 242 [.t 69,.t 70,.t 71]] (aT 72 .ret .skip)) .skip)) Ar)
def G2:C:=(aa [be 43 2 4,I 44 1,I 45 2,dE 46 240 [.t 43,.t 44,.t 45],I 42 46,cV 47 0 42,cV 48 1 42,I 11 47,I 12 48] (.seq (aa [I 49 12,aS 50 .eql 49 2] (aT 50 (aa [be 51 2 4,I 52 1,I 53 2,dE 54 241 [.t 51,.t 52,.t 53]] (aa [I 55 2,aS 56 .sub 55 1,I 57 11,I 58 1,bk 59 .sub 57 58,bk 60 .sub 56 59,I 11 60] (.region [bV 12 1]))) .skip)) G1))
def NP:C:=(aa [cP 4 0] (aa [bm 8 true] (aa [bm 9 true] (.block 0 (.loop (.block 1 (aa [I 19 2,I 20 1,bk 21 .sub 19 20,I 10 21] (.seq (aa [I 22 10,aS 23 .leq 22 12] (aT 23 (aa [be 24 2 4,I 25 1,I 26 2,dE 27 231 [.t 24,.t 25,.t 26]] .ret) .skip)) (.seq (aa [I 28 3,aS 29 .eql 28 0] (aT 29 (aa [be 30 2 4,I 31 1,I 32 2,dE 33 238 [.t 30,.t 31,.t 32]] .ret) .skip)) (.seq (aa [I 34 8,cB 35 34] (aT 35 (aa [be 36 2 4,I 37 1,I 38 2,dE 39 239 [.t 36,.t 37,.t 38]] (.region [I 40 3,aS 41 .sub 40 1,I 3 41])) .skip)) G2))))))))))
@[simp] def TQ:List bK:=[]
@[simp] def aon:List bK:=[.tmp 2]
def NC:C:=(aa [bV 2 0] (.seq (aa [I 3 0,b0 4 (.bin .geq false (.t 3) (.c (.int .u64 4294967296)))] (aT 4 (aa [I 5 0,b0 6 (.bin .shr false (.t 5) (.c (.int .u64 32))),I 0 6] (.region [bV 2 32])) .skip)) (.seq (aa [I 7 0,b0 8 (.bin .geq false (.t 7) (.c (.int .u64 65536)))] (aT 8 (aa [I 9 0,b0 10 (.bin .shr false (.t 9) (.c (.int .u64 16))),I 0 10] (.region [I 11 2,aS 12 .add 11 16,I 2 12])) .skip)) (.seq (aa [I 13 0,b0 14 (.bin .geq false (.t 13) (.c (.int .u64 256)))] (aT 14 (aa [I 15 0,b0 16 (.bin .shr false (.t 15) (.c (.int .u64 8))),I 0 16] (.region [I 17 2,aS 18 .add 17 8,I 2 18])) .skip)) (aa [I 19 2,I 20 0,b0 21 (.conv .u8 (.t 20)),b0 22 (.sidx (.c (.str [0,1,2,2,3,3,3,3,4,4,4,4,4,4,4,4,5,5,5,5,5,5,5,5,5,5,5,5,5,5,5,5,6,6,6,6,6,6,6,6,6,6,6,6,6,6,6,6,6,6,6,6,6,6,6,6,6,6,6,6,6,6,6,6,7,7,7,7,7,7,7,7,7,7,7,7,7,7,7,7,7,7,7,7,7,7,7,7,7,7,7,7,7,7,7,7,7,7,7,7,7,7,7,7,7,7,7,7,7,7,7,7,7,7,7,7,7,7,7,7,7,7,7,7,7,7,7,7,8,8,8,8,8,8,8,8,8,8,8,8,8,8,8,8,8,8,8,8,8,8,8,8,8,8,8,8,8,8,8,8,8,8,8,8,8,8,8,8,8,8,8,8,8,8,8,8,8,8,8,8,8,8,8,8,8,8,8,8,8,8,8,8,8,8,8,8,8,8,8,8,8,8,8,8,8,8,8,8,8,8,8,8,8,8,8,8,8,8,8,8,8,8,8,8,8,8,8,8,8,8,8,8,8,8,8,8,8,8,8,8,8,8,8,8,8,8,8,8,8,8,8,8,8,8,8,8])) (.t 21)),b0 23 (.conv .i64 (.t 22)),bk 24 .add 19 23,I 2 24] .ret)))))
@[simp] def zz:List bK:=[.tmp 2]
def NH:C:=(aa [cP 3 0] (aa [I 11 1,I 6 11] (aa [bV 7 0] (aa [I 12 2,I 13 1,bk 14 .sub 12 13,I 8 14] (.seq (aa [I 15 8,aS 16 .sub 15 1,aS 17 .quo 16 2,I 9 17] (.block 0 (.loop (.seq (aa [I 18 9,aS 19 .geq 18 0] (aT 19 .skip (.exit 0))) (.seq (.block 1 (.region [be 22 2 3,I 23 9,I 24 8,I 25 6,dE 26 252 [.t 22,.t 23,.t 24,.t 25]])) (.region [I 20 9,aS 21 .sub 20 1,I 9 21])))))) (aa [I 27 8,aS 28 .sub 27 1,I 10 28] (.block 2 (.loop (.seq (aa [I 29 10,aS 30 .geq 29 0] (aT 30 .skip (.exit 2))) (.seq (.block 3 (aa [aG 33 1 1 3,ax 34 1 33,I 35 6,I 36 6,I 37 10,bk 38 .add 36 37,gv 39 34 [.t 35,.t 38]] (.region [be 40 2 3,I 41 7,I 42 10,I 43 6,dE 44 252 [.t 40,.t 41,.t 42,.t 43]]))) (.region [I 31 10,aS 32 .sub 31 1,I 10 32])))))))))))
@[simp] def ahT:List bK:=[]
def NF:C:=(aa [cP 3 0] (aa [I 11 2,I 12 1,bk 13 .sub 11 12,I 6 13] (aa [I 14 6,aS 15 .geq 14 8] (aT 15 (aa [I 16 6,b0 17 (.conv .u64 (.t 16)),cX (.alloc 7 (some 902) (.int .u64 0)),b1 1 7 17] (aa [I 18 6,c7 19 253 18,I 8 19] (aa [I 20 1,I 21 6,aS 22 .quo 21 4,aS 23 .mul 22 2,bk 24 .add 20 23,aS 25 .sub 24 1,I 9 25] (.block 0 (.loop (.seq (aa [I 26 9,I 27 1,I 28 6,aS 29 .quo 28 4,aS 30 .mul 29 2,bk 31 .add 27 30,aS 32 .add 31 1,bk 33 .leq 26 32] (aT 33 .skip (.exit 0))) (.seq (.block 1 (aa [c7 36 254 7,I 37 8,b0 38 (.bin .sub true (.t 37) (.c (.int .u64 1))),bk 39 .and 36 38,b0 40 (.conv .i64 (.t 39)),I 10 40] (.seq (aa [I 41 10,I 42 6,bk 43 .geq 41 42] (aT 43 (.region [I 44 10,I 45 6,bk 46 .sub 44 45,I 10 46]) .skip)) (.region [aG 47 1 1 3,ax 48 1 47,I 49 9,I 50 1,I 51 10,bk 52 .add 50 51,gv 53 48 [.t 49,.t 52]])))) (.region [I 34 9,aS 35 .add 34 1,I 9 35])))))))) .skip))))
@[simp] def TM:List bK:=[]
def NG:C:=(aa [cP 3 0,bV 6 0,bV 7 0] (aa [I 13 2,I 14 1,bk 15 .sub 13 14,I 8 15] (aa [cX (.alloc 9 (some 901) (.int .i64 0))] (aa [I 16 1,I 17 8,aS 18 .quo 17 4,aS 19 .mul 18 1,bk 20 .add 16 19,I 10 20] (aa [I 21 1,I 22 8,aS 23 .quo 22 4,aS 24 .mul 23 2,bk 25 .add 21 24,I 11 25] (aa [I 26 1,I 27 8,aS 28 .quo 27 4,aS 29 .mul 28 3,bk 30 .add 26 29,I 12 30] (.seq (aa [I 31 8,aS 32 .geq 31 8] (aT 32 (.seq (aa [I 33 8,aS 34 .geq 33 50] (aT 34 (aa [be 35 2 3,I 36 10,dE 37 255 [.t 35,.t 36,.t 9],I 10 37] (aa [be 38 2 3,I 39 11,dE 40 255 [.t 38,.t 39,.t 9],I 11 40] (.region [be 41 2 3,I 42 12,dE 43 255 [.t 41,.t 42,.t 9],I 12 43]))) .skip)) (.region [be 44 2 3,I 45 10,I 46 11,I 47 12,dE 48 256 [.t 44,.t 45,.t 46,.t 47,.t 9],I 11 48])) .skip)) (aa [ax 49 1 9] (.block 0 (aa [aS 52 .eql 49 0,I 51 52] (aT 51 (aa [I 53 11,I 6 53,bV 7 1] .ret) (aa [aS 55 .eql 49 12,I 54 55] (aT 54 (aa [I 56 11,I 6 56,bV 7 2] .ret) (aa [I 50 11,I 6 50,bV 7 0] .ret))))))))))))))
@[simp] def Km:List bK:=[.tmp 6,.tmp 7]
def NQ:C:=(aa [cP 3 0] (aa [I 8 1,I 6 8] (aa [I 9 2,aS 10 .sub 9 1,I 7 10] (.block 0 (.loop (.seq (aa [I 11 6,I 12 7,bk 13 .lss 11 12] (aT 13 .skip (.exit 0))) (.block 1 (aa [aG 14 1 1 3,ax 15 1 14,I 16 6,I 17 7,gv 18 15 [.t 16,.t 17]] (aa [I 19 6,aS 20 .add 19 1,I 6 20] (.region [I 21 7,aS 22 .sub 21 1,I 7 22]))))))))))
@[simp] def ahV:List bK:=[]
def NM:C:=(aa [cP 3 0,bm 6 false] (aa [I 11 1,aS 12 .add 11 1,I 7 12] (.seq (aa [bV 8 0] (.block 0 (.loop (.seq (aa [I 13 8,aS 14 .lss 13 5] (aT 14 .skip (.exit 0))) (.seq (.block 1 (.seq (.block 2 (.loop (.seq (aa [I 17 7,I 18 2,bk 19 .lss 17 18,I 20 19,ar 20 true (aG 21 0 1 3),ar 20 true (ax 22 1 21),b3 20 true 23 7,b3 20 true 24 7,ar 20 true (aS 25 .sub 24 1),ar 20 true (gv 26 22 [.t 23,.t 25]),ar 20 true (cB 27 26),dH 28 20 27] (aT 28 .skip (.exit 2))) (.block 3 (.region [I 29 7,aS 30 .add 29 1,I 7 30]))))) (.seq (aa [I 31 7,I 32 2,bk 33 .eql 31 32] (aT 33 (aa [bm 6 true] .ret) .skip)) (.seq (aa [I 34 2,I 35 1,bk 36 .sub 34 35,aS 37 .lss 36 50] (aT 37 (aa [bm 6 false] .ret) .skip)) (aa [aG 38 1 1 3,ax 39 1 38,I 40 7,I 41 7,aS 42 .sub 41 1,gv 43 39 [.t 40,.t 42]] (.seq (aa [I 44 7,I 45 1,bk 46 .sub 44 45,aS 47 .geq 46 2] (aT 47 (aa [I 48 7,aS 49 .sub 48 1,I 9 49] (.block 4 (.loop (.seq (aa [I 50 9,aS 51 .geq 50 1] (aT 51 .skip (.exit 4))) (.seq (.block 5 (.seq (aa [aG 54 0 1 3,ax 55 1 54,I 56 9,I 57 9,aS 58 .sub 57 1,gv 59 55 [.t 56,.t 58],cB 60 59] (aT 60 (.exit 4) .skip)) (.region [aG 61 1 1 3,ax 62 1 61,I 63 9,I 64 9,aS 65 .sub 64 1,gv 66 62 [.t 63,.t 65]]))) (.region [I 52 9,aS 53 .sub 52 1,I 9 53])))))) .skip)) (aa [I 67 2,I 68 7,bk 69 .sub 67 68,aS 70 .geq 69 2] (aT 70 (aa [I 71 7,aS 72 .add 71 1,I 10 72] (.block 6 (.loop (.seq (aa [I 73 10,I 74 2,bk 75 .lss 73 74] (aT 75 .skip (.exit 6))) (.seq (.block 7 (.seq (aa [aG 78 0 1 3,ax 79 1 78,I 80 10,I 81 10,aS 82 .sub 81 1,gv 83 79 [.t 80,.t 82],cB 84 83] (aT 84 (.exit 6) .skip)) (.region [aG 85 1 1 3,ax 86 1 85,I 87 10,I 88 10,aS 89 .sub 88 1,gv 90 86 [.t 87,.t 89]]))) (.region [I 76 10,aS 77 .add 76 1,I 10 77])))))) .skip)))))))) (.region [I 15 8,aS 16 .add 15 1,I 8 16])))))) (aa [bm 6 false] .ret))))
@[simp] def Fo:List bK:=[.tmp 6]
def NN:C:=(aa [cP 4 0,bV 8 0] (aa [aG 11 1 1 4,ax 12 1 11,I 13 1,I 14 3,gv 15 12 [.t 13,.t 14]] (aa [I 16 1,aS 17 .add 16 1,I 18 2,aS 19 .sub 18 1,I 9 17,I 10 19] (.seq (.block 0 (.loop (.block 1 (.seq (.block 2 (.loop (.seq (aa [I 20 9,I 21 10,bk 22 .leq 20 21,I 23 22,ar 23 true (aG 24 0 1 4),ar 23 true (ax 25 1 24),b3 23 true 26 1,b3 23 true 27 9,ar 23 true (gv 28 25 [.t 26,.t 27]),ar 23 true (cB 29 28),dH 30 23 29] (aT 30 .skip (.exit 2))) (.block 3 (.region [I 31 9,aS 32 .add 31 1,I 9 32]))))) (.seq (.block 4 (.loop (.seq (aa [I 33 9,I 34 10,bk 35 .leq 33 34,I 36 35,ar 36 true (aG 37 0 1 4),ar 36 true (ax 38 1 37),b3 36 true 39 1,b3 36 true 40 10,ar 36 true (gv 41 38 [.t 39,.t 40]),dH 42 36 41] (aT 42 .skip (.exit 4))) (.block 5 (.region [I 43 10,aS 44 .sub 43 1,I 10 44]))))) (.seq (aa [I 45 9,I 46 10,bk 47 .gtr 45 46] (aT 47 (.exit 0) .skip)) (aa [aG 48 1 1 4,ax 49 1 48,I 50 9,I 51 10,gv 52 49 [.t 50,.t 51]] (aa [I 53 9,aS 54 .add 53 1,I 9 54] (.region [I 55 10,aS 56 .sub 55 1,I 10 56]))))))))) (aa [I 57 9,I 8 57] .ret)))))
@[simp] def Ko:List bK:=[.tmp 8]
def NO:C:=(aa [cP 4 0,bV 8 0,bm 9 false] (aa [aG 12 1 1 4,ax 13 1 12,I 14 1,I 15 3,gv 16 13 [.t 14,.t 15]] (aa [I 17 1,aS 18 .add 17 1,I 19 2,aS 20 .sub 19 1,I 10 18,I 11 20] (.seq (.block 0 (.loop (.seq (aa [I 21 10,I 22 11,bk 23 .leq 21 22,I 24 23,ar 24 true (aG 25 0 1 4),ar 24 true (ax 26 1 25),b3 24 true 27 10,b3 24 true 28 1,ar 24 true (gv 29 26 [.t 27,.t 28]),dH 30 24 29] (aT 30 .skip (.exit 0))) (.block 1 (.region [I 31 10,aS 32 .add 31 1,I 10 32]))))) (.seq (.block 2 (.loop (.seq (aa [I 33 10,I 34 11,bk 35 .leq 33 34,I 36 35,ar 36 true (aG 37 0 1 4),ar 36 true (ax 38 1 37),b3 36 true 39 11,b3 36 true 40 1,ar 36 true (gv 41 38 [.t 39,.t 40]),ar 36 true (cB 42 41),dH 43 36 42] (aT 43 .skip (.exit 2))) (.block 3 (.region [I 44 11,aS 45 .sub 44 1,I 11 45]))))) (.seq (aa [I 46 10,I 47 11,bk 48 .gtr 46 47] (aT 48 (aa [aG 49 1 1 4,ax 50 1 49,I 51 11,I 52 1,gv 53 50 [.t 51,.t 52]] (aa [I 54 11,I 8 54,bm 9 true] .ret)) .skip)) (aa [aG 55 1 1 4,ax 56 1 55,I 57 10,I 58 11,gv 59 56 [.t 57,.t 58]] (aa [I 60 10,aS 61 .add 60 1,I 10 61] (aa [I 62 11,aS 63 .sub 62 1,I 11 63] (.seq (.block 4 (.loop (.block 5 (.seq (.block 6 (.loop (.seq (aa [I 64 10,I 65 11,bk 66 .leq 64 65,I 67 66,ar 67 true (aG 68 0 1 4),ar 67 true (ax 69 1 68),b3 67 true 70 10,b3 67 true 71 1,ar 67 true (gv 72 69 [.t 70,.t 71]),dH 73 67 72] (aT 73 .skip (.exit 6))) (.block 7 (.region [I 74 10,aS 75 .add 74 1,I 10 75]))))) (.seq (.block 8 (.loop (.seq (aa [I 76 10,I 77 11,bk 78 .leq 76 77,I 79 78,ar 79 true (aG 80 0 1 4),ar 79 true (ax 81 1 80),b3 79 true 82 11,b3 79 true 83 1,ar 79 true (gv 84 81 [.t 82,.t 83]),ar 79 true (cB 85 84),dH 86 79 85] (aT 86 .skip (.exit 8))) (.block 9 (.region [I 87 11,aS 88 .sub 87 1,I 11 88]))))) (.seq (aa [I 89 10,I 90 11,bk 91 .gtr 89 90] (aT 91 (.exit 4) .skip)) (aa [aG 92 1 1 4,ax 93 1 92,I 94 10,I 95 11,gv 96 93 [.t 94,.t 95]] (aa [I 97 10,aS 98 .add 97 1,I 10 98] (.region [I 99 11,aS 100 .sub 99 1,I 11 100]))))))))) (aa [aG 101 1 1 4,ax 102 1 101,I 103 11,I 104 1,gv 105 102 [.t 103,.t 104]] (aa [I 106 11,I 8 106,bm 9 false] .ret))))))))))))
@[simp] def Cf:List bK:=[.tmp 8,.tmp 9]
def NS:C:=(aa [cP 4 0] (aa [I 10 1,I 8 10] (.block 0 (.loop (.block 1 (aa [I 11 8,b0 12 (.bin .mul false (gi 2) (.t 11)),aS 13 .add 12 1,I 9 13] (.seq (aa [I 14 9,I 15 2,bk 16 .geq 14 15] (aT 16 (.exit 0) .skip)) (.seq (aa [I 17 9,aS 18 .add 17 1,I 19 2,bk 20 .lss 18 19,I 21 20,ar 21 true (aG 22 0 1 4),ar 21 true (ax 23 1 22),b3 21 true 24 3,b3 21 true 25 9,ar 21 true (bk 26 .add 24 25),b3 21 true 27 3,b3 21 true 28 9,ar 21 true (bk 29 .add 27 28),ar 21 true (aS 30 .add 29 1),ar 21 true (gv 31 23 [.t 26,.t 30]),dH 32 21 31] (aT 32 (.region [I 33 9,aS 34 .add 33 1,I 9 34]) .skip)) (.seq (aa [aG 35 0 1 4,ax 36 1 35,I 37 3,I 38 8,bk 39 .add 37 38,I 40 3,I 41 9,bk 42 .add 40 41,gv 43 36 [.t 39,.t 42],cB 44 43] (aT 44 .ret .skip)) (aa [aG 45 1 1 4,ax 46 1 45,I 47 3,I 48 8,bk 49 .add 47 48,I 50 3,I 51 9,bk 52 .add 50 51,gv 53 46 [.t 49,.t 52]] (.region [I 54 9,I 8 54])))))))))))
@[simp] def ahX:List bK:=[]
def NK:C:=(aa [b0 2 (.mov (.c (.int .u64 0)))] (aa [I 4 0,b0 5 (.conv .u64 (.t 4)),c7 6 213 5,b0 7 (.conv .u64 (.t 6)),I 3 7] (aa [I 8 3,b0 9 (.bin .shl false (.c (.int .u64 1)) (.t 8)),I 2 9] .ret)))
@[simp] def TP:List bK:=[.tmp 2]
def NW:C:=(aa [b0 2 (.mov (.c (.int .u64 0)))] (.seq (.drawn true 33 [I 3 0,fo 4 3,ax 5 1 4,I 6 0,fo 7 6,ax 8 1 7,b0 9 (.bin .shl false (.t 8) (.c (.int .u64 13))),bk 10 .xor 5 9,fo 11 3,b1 1 11 10]) (.seq (.drawn true 33 [I 12 0,fo 13 12,ax 14 1 13,I 15 0,fo 16 15,ax 17 1 16,b0 18 (.bin .shr false (.t 17) (.c (.int .u64 7))),bk 19 .xor 14 18,fo 20 12,b1 1 20 19]) (.seq (.drawn true 33 [I 21 0,fo 22 21,ax 23 1 22,I 24 0,fo 25 24,ax 26 1 25,b0 27 (.bin .shl false (.t 26) (.c (.int .u64 17))),bk 28 .xor 23 27,fo 29 21,b1 1 29 28]) (aa [I 30 0,fo 31 30,ax 32 1 31,I 2 32] .ret)))))
@[simp] def TS:List bK:=[.tmp 2]
def NI:C:=(aa [cP 3 0,bV 6 0] (aa [be 7 2 3,I 8 1,aS 9 .sub 8 1,I 10 1,I 11 1,aS 12 .add 11 1,I 13 2,dE 14 256 [.t 7,.t 9,.t 10,.t 12,.t 13],I 6 14] .ret))
@[simp] def TN:List bK:=[.tmp 6]
def NJ:C:=(aa [cP 5 0,bV 10 0] (aa [be 12 2 5,I 13 1,I 14 2,I 15 4,dE 16 271 [.t 12,.t 13,.t 14,.t 15],I 11 16,cV 17 0 11,cV 18 1 11,I 1 17,I 2 18] (aa [be 20 2 5,I 21 2,I 22 3,I 23 4,dE 24 271 [.t 20,.t 21,.t 22,.t 23],I 19 24,cV 25 0 19,cV 26 1 19,I 2 25,I 3 26] (aa [be 28 2 5,I 29 1,I 30 2,I 31 4,dE 32 271 [.t 28,.t 29,.t 30,.t 31],I 27 32,cV 33 0 27,cV 34 1 27,I 1 33,I 2 34] (aa [I 35 2,I 10 35] .ret)))))
@[simp] def TO:List bK:=[.tmp 10]
def NL:C:=(aa [cP 4 0,bV 8 0,bV 9 0] (.seq (aa [aG 10 0 1 4,ax 11 1 10,I 12 2,I 13 1,gv 14 11 [.t 12,.t 13]] (aT 14 (aa [I 15 3,fo 16 15,ax 17 1 16,aS 18 .add 17 1,fo 19 15,b1 1 19 18] (aa [I 20 2,I 21 1,I 8 20,I 9 21] .ret)) .skip)) (aa [I 22 1,I 23 2,I 8 22,I 9 23] .ret)))
@[simp] def Kn:List bK:=[.tmp 8,.tmp 9]
def mP:List (Nat×dB):=[
 (3,⟨1,8,.int .i64,.int .i64 0⟩),
 (5,⟨1,1,.int .u8,.int .u8 0⟩),
 (9,⟨1,16,.str,.str []⟩),
 (143,⟨1,8,.other,.junk⟩),
 (181,⟨1,8,.other,.junk⟩),
 (185,⟨2,16,.struct [(0,143),(1,181)],.agg [.junk,.junk]⟩),
 (192,⟨1,8,.int .u64,.int .u64 0⟩),
 (206,⟨1,4,.int .u32,.int .u32 0⟩),
 (208,⟨1,8,.int .u64,.int .u64 0⟩),
 (222,⟨1,8,.int .u64,.int .u64 0⟩)]
theorem nq:fN ao mP=true:=by kernel_rfl
theorem af6:b5 mP NB ahS 1 Tryz.f213=true:=by kernel_rfl
theorem ZJ:ao.funcs[(213:Nat)]? =some Tryz.f213:=Tryz.func213
theorem agk:b5 mP NP TQ 4 Tryz.f214=true:=by kernel_rfl
theorem ZW:ao.funcs[(214:Nat)]? =some Tryz.f214:=Tryz.func214
theorem af7:b5 mP NC zz 1 Tryz.f237=true:=by kernel_rfl
theorem ZK:ao.funcs[(237:Nat)]? =some Tryz.f237:=Tryz.func237
theorem agb:b5 mP NH ahT 3 Tryz.f238=true:=by kernel_rfl
theorem ZO:ao.funcs[(238:Nat)]? =some Tryz.f238:=Tryz.func238
theorem af9:b5 mP NF TM 3 Tryz.f239=true:=by kernel_rfl
theorem ZM:ao.funcs[(239:Nat)]? =some Tryz.f239:=Tryz.func239
theorem aga:b5 mP NG Km 3 Tryz.f240=true:=by kernel_rfl
theorem ZN:ao.funcs[(240:Nat)]? =some Tryz.f240:=Tryz.func240
theorem agl:b5 mP NQ ahV 3 Tryz.f241=true:=by kernel_rfl
theorem ZX:ao.funcs[(241:Nat)]? =some Tryz.f241:=Tryz.func241
theorem agh:b5 mP NM Fo 3 Tryz.f242=true:=by kernel_rfl
theorem ZT:ao.funcs[(242:Nat)]? =some Tryz.f242:=Tryz.func242
theorem agi:b5 mP NN Ko 4 Tryz.f243=true:=by kernel_rfl
theorem ZU:ao.funcs[(243:Nat)]? =some Tryz.f243:=Tryz.func243
theorem agj:b5 mP NO Cf 4 Tryz.f244=true:=by kernel_rfl
theorem ZV:ao.funcs[(244:Nat)]? =some Tryz.f244:=Tryz.func244
theorem agn:b5 mP NS ahX 4 Tryz.f252=true:=by kernel_rfl
theorem ZZ:ao.funcs[(252:Nat)]? =some Tryz.f252:=Tryz.func252
theorem age:b5 mP NK TP 1 Tryz.f253=true:=by kernel_rfl
theorem ZR:ao.funcs[(253:Nat)]? =some Tryz.f253:=Tryz.func253
theorem agr:b5 mP NW TS 1 Tryz.f254=true:=by kernel_rfl
theorem Z3:ao.funcs[(254:Nat)]? =some Tryz.f254:=Tryz.func254
theorem agc:b5 mP NI TN 3 Tryz.f255=true:=by kernel_rfl
theorem ZP:ao.funcs[(255:Nat)]? =some Tryz.f255:=Tryz.func255
theorem agd:b5 mP NJ TO 5 Tryz.f256=true:=by kernel_rfl
theorem ZQ:ao.funcs[(256:Nat)]? =some Tryz.f256:=Tryz.func256
theorem agf:b5 mP NL Kn 4 Tryz.f271=true:=by kernel_rfl
theorem ZS:ao.funcs[(271:Nat)]? =some Tryz.f271:=Tryz.func271
end Go.Proofs.YtahlgcidhnjlbaaGreat
