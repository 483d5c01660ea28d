/- Contracts of pattern-defeating quicksort: the heap, the reversal, the insertion. -/
import Derived.Test.YtahlgcidhnjlbaaGreatProg
import Derived.Shelf.Sort.Plain
import Derived.Ground.NamesProg
import Derived.Sort.OwnSortedInts
import Derived.Lib.OwnBridge
import Derived.Sort.AssemblyPlain
import Derived.Sort.LotD5
import Derived.Test.YtahlgcidhnjlbaaGreatX2
set_option linter.all false
set_option maxHeartbeats 4000000
set_option maxRecDepth 4000
open Bool renaming and_eq_true->cP,eq_iff_iff->q3,false_eq_true->hQ,or_eq_true->og
open Go renaming Program->cH
open Go.IntKind renaming bits->pt,i64->vu,signed->ug,u64->ig,wrap->uh
open Go.IntWalk renaming i64_in->pw
open Go.Op renaming bytesLess->ir
open Go.Proofs.Tryz renaming prog->au
open Go.Value renaming cells->pz
open List renaming all_eq_true->j4,cons_append->b5,drop->oU,drop_eq_getElem_cons->lG,getElem?_append_left->rY,getElem?_append_right->vv,getElem?_eq_getElem->cl,getElem?_eq_none->q4,getElem?_eq_some_iff->fI,getElem_of_mem->pB,length_append->qi,length_cons->mT,length_drop->uj,map_cons->gV,mem_append->kc,mem_cons->gI,mem_filter->oV,mem_map->hb,mem_of_getElem?->fu,nil_append->cb,pairwise_cons->oh,pairwise_iff_getElem->q6,take_of_length_le->iu
open List.Nodup renaming length_le_of_subset->Ra
open List.Pairwise renaming filter->adq,imp_of_mem->atz,sublist->aym
open List.Perm renaming eq_of_pairwise->Rb,swap->ayn
open List.cons renaming injEq->rX
open Nat renaming le_refl->dP,le_trans->kC
open Option renaming bind_eq_some_iff->mV,getD_none->mW,getD_some->mr,map_eq_some_iff->hr,map_some->pC
open Option.some renaming inj->e8,injEq->dU
open Prod.mk renaming injEq->jn
open _root_ renaming False->er,Option->bd,UInt8->cU,beq_iff_eq->ey,congrArg->fy,decide_eq_false->mX,decide_eq_false_iff_not->iM,decide_eq_true->l6,decide_eq_true_eq->gy,eq_true->h1
namespace Go.Pv
section
open Go
structure bI where
 v:Int
 k:Int
 deriving DecidableEq,Inhabited
def bI.e(b:bI):af:= .agg [.int .i64 b.v,.int .i64 b.k]
@[simp]def bI.eta(b:bI):bI.mk b.v b.k=b:=rfl
@[simp]def Rt(v k:Int):af.agg [.int .i64 v,.int .i64 k]=(bI.mk v k).e:=rfl
@[simp]def av5(S:aB->Prop)(b:bI):az S b.e=True:=by simp[bI.e,-Rt]
@[simp]def axW(b:bI):b7 b.e=b.e:=by simp[bI.e,-Rt]
def XZ(S:aB->Prop):∀l:List bI,aH S (l.map bI.e)
 |[]=>by simp[aH]
 |x::xs=>by simp[aH,XZ S xs]
@[simp]def avO(S:aB->Prop)(l:List bI):aH S (l.map bI.e)=True:=h1 (XZ S l)
@[simp]def Qr:∀l:List bI,cf (l.map bI.e)=l.map bI.e
 |[]=>rfl
 |x::xs=>by simp[cf,Qr xs]
@[simp]def axy(b:bI):eT b.e=true:=rfl
@[simp]def auf(b:bI):cells b.e=[.int .i64 b.v,.int .i64 b.k]:=rfl
@[simp]def avx(b:bI):qM 2 b.e:=⟨_,rfl,rfl⟩
@[simp]def auT(off:Nat)(a:Bool)(sz:Nat)(b:bI):vV off a sz b.e=if a then some (off+sz<=2,.agg (([.int .i64 b.v,.int .i64 b.k].drop off).take sz))else(([.int .i64 b.v,.int .i64 b.k]:List af)[off]?).map fun p=>(True,p):=rfl
@[simp]def auL(off:Nat)(a:Bool)(sz:Nat)(b:bI):s7 off a sz (.eptr b.e)=if a then some (off+sz<=2,.eptr (.agg (([.int .i64 b.v,.int .i64 b.k].drop off).take sz)))else(([.int .i64 b.v,.int .i64 b.k]:List af)[off]?).map fun p=>(eT p=true/\cells p=[p],.eptr p):=rfl
structure bo where
 v:Int
 s:List cU
 deriving DecidableEq,Inhabited
def bo.e(b:bo):af:= .agg [.int .i64 b.v,.str b.s]
@[simp]def bo.eta(b:bo):bo.mk b.v b.s=b:=rfl
@[simp]def KR(v:Int)(s:List cU):af.agg [.int .i64 v,.str s]=(bo.mk v s).e:=rfl
@[simp]def al7(S:aB->Prop)(b:bo):az S b.e=True:=by simp[bo.e,-KR]
@[simp]def ax0(b:bo):b7 b.e=b.e:=by simp[bo.e,-KR]
def N4(S:aB->Prop):∀l:List bo,aH S (l.map bo.e)
 |[]=>by simp[aH]
 |x::xs=>by simp[aH,N4 S xs]
@[simp]def X1(S:aB->Prop)(l:List bo):aH S (l.map bo.e)=True:=h1 (N4 S l)
@[simp]def Qs:∀l:List bo,cf (l.map bo.e)=l.map bo.e
 |[]=>rfl
 |x::xs=>by simp[cf,Qs xs]
@[simp]def axA(b:bo):eT b.e=true:=rfl
@[simp]def auh(b:bo):cells b.e=[.int .i64 b.v,.str b.s]:=rfl
@[simp]def avz(b:bo):qM 2 b.e:=⟨_,rfl,rfl⟩
@[simp]def auU(off:Nat)(a:Bool)(sz:Nat)(b:bo):vV off a sz b.e=if a then some (off+sz<=2,.agg (([.int .i64 b.v,.str b.s].drop off).take sz))else(([.int .i64 b.v,.str b.s]:List af)[off]?).map fun p=>(True,p):=rfl
@[simp]def auM(off:Nat)(a:Bool)(sz:Nat)(b:bo):s7 off a sz (.eptr b.e)=if a then some (off+sz<=2,.eptr (.agg (([.int .i64 b.v,.str b.s].drop off).take sz)))else(([.int .i64 b.v,.str b.s]:List af)[off]?).map fun p=>(eT p=true/\cells p=[p],.eptr p):=rfl
def gd(x y:bo):Int:=if fb x.v y.v=0 then lz x.s y.s else fb x.v y.v
def mO:kd gd:=by
 refine⟨fun x y=>?_,fun x y z J U=>?_,fun x y=>?_⟩
 ·unfold gd;have:=k1.neg x.v y.v;have:=Fg.neg x.s y.s;by_cases e:fb x.v y.v=0
  ·rw[if_pos e,if_pos Ω];omega
  ·rw[if_neg e,if_neg Ω];omega
 ·unfold gd at J U⊢;by_cases b:fb x.v y.v=0
  ·rw[if_pos b]at J;rw[(k1.zero _ _).1 b];by_cases a:fb y.v z.v=0
   ·rw[if_pos a]at U⊢;exact Fg.tr _ _ _ J U
   ·rw[if_neg a]at U⊢;exact U
  ·rw[if_neg b]at J;have c:fb x.v y.v<0:=Ω
   by_cases a:fb y.v z.v=0
   ·rw[<-(k1.zero _ _).1 a,if_neg b];exact J
   ·rw[if_neg a]at U;have:=k1.ltr c U;rw[if_neg Ω];omega
 ·unfold gd;by_cases e:fb x.v y.v=0
  ·rw[if_pos e,Fg.zero];have:=(k1.zero _ _).1 e;cases x;cases y;simp_all
  ·rw[if_neg e];exact⟨fun h=>absurd h e,fun h=>by rw[h]at e;exact absurd (k1.refl _) e⟩
def ve(x y:bo):Bool:=decide (x.v<y.v)||(x.v==y.v&&ir x.s y.s)
def ael(a:List cU):ir a a=false:=by
 cases h:ir a a with
 |false=>rfl
 |true=>rw[KZ a a h]at h;cases h
def Y2(x y:bo):ve x y=iK gd x y:=by
 unfold ve iK gd;rw[q3];simp only[og,gy,cP,ey];by_cases e:x.v=y.v
 ·have:fb x.v y.v=0:=(k1.zero _ _).2 e;rw[if_pos this];simp only[e,Int.lt_irrefl,false_or,true_and,lz];by_cases a:x.s=y.s
  ·rw[if_pos a,a,ael];simp
  ·rw[if_neg a];split<;>simp_all
 ·have b:¬fb x.v y.v=0:=fun h=>e ((k1.zero _ _).1 h);rw[if_neg b];simp only[e,false_and,or_false];unfold fb;(repeat' split)<;>omega
def je{α:Type}(p:α->Prop)(r:α->α->Prop)(l:List α)(i:Nat):Prop:= ∀b,l[i]? =some b->p b/\∀c,0<i->l[i-1]? =some c->r c b
def Rp{α:Type}{p:α->Prop}{r:α->α->Prop}(n:∀a b c,r a b->r b c->r a c){l:List α}:(∀i,i<l.length->je p r l i)↔(∀b∈l,p b)/\l.Pairwise r:=by
 constructor
 ·intro h;refine⟨fun b f=>?_,?_⟩
  ·obtain⟨i,hi,e⟩:=pB f;exact(h i hi b (by rw[cl hi,e])).1
  ·rw[q6];have g:∀i (h:i+1<l.length),r l[i] l[i+1]:=fun i hi=>(h (i+1) hi l[i+1] (by simp[cl hi])).2 l[i] Ω (by simp[cl (show i<l.length by omega)]);have:∀(d i:Nat) (h:i+d+1<l.length),r l[i] l[i+d+1]:=by
    intro d;induction d with
    |zero=>intro i h;exact g i h
    |succ d k=>intro i h;exact n _ _ _ (k i Ω) (g (i+d+1) Ω)
   intro i j hi t q;have:=this (j-i-1) i Ω;simpa[show i+(j-i-1)+1=j from by omega]using this
 ·rintro⟨J,U⟩ i hi b f;refine⟨J b (fu f),fun c s ax=>?_⟩;obtain⟨g1,m⟩:=fI.1 ax;obtain⟨g2,o⟩:=fI.1 f;have:=q6.1 U (i-1) i g1 g2 Ω;rw[m,o]at this;exact this
def kW{α:Type}(c:α->α->Int)(x:α):List α->List α
 |[]=>[x]
 |y::l=>if c y x<0 then y::kW c x l else if c y x=0 then y::l else x::y::l
section
variable {α:Type} {c:α->α->Int}
def IH(ax:kd c){x z:α}:∀{l:List α},z∈kW c x l↔z=x\/z∈l
 |[]=>by simp[kW]
 |y::l=>by
  simp only[kW];split
  ·simp only[gI,IH ax (l:=l)];constructor
   ·rintro(h|h|h)
    ·exact .inr (.inl h)
    ·exact .inl h
    ·exact .inr (.inr h)
   ·rintro(h|h|h)
    ·exact .inr (.inl h)
    ·exact .inl h
    ·exact .inr (.inr h)
  ·split
   ·rename_i h;obtain rfl:=(ax.zero _ _).1 h;simp
   ·simp
def NL(ax:kd c){x:α}:∀{l:List α},iN c l->iN c (kW c x l)
 |[],_=>by simp[kW,iN]
 |y::l,h=>by
  obtain⟨J,U⟩:=oh.1 h;simp only[kW];split
  ·rename_i d;refine oh.2 ⟨fun z a=>?_,NL ax U⟩;rcases(IH ax).1 a with rfl|a
   ·exact d
   ·exact J z a
  ·split
   ·exact h
   ·rename_i d e;have b:c x y<0:=by have:=ax.neg x y;omega
    refine oh.2 ⟨fun z a=>?_,h⟩;rcases gI.1 a with rfl|a
    ·exact b
    ·exact ax.ltr b (by have:=J z a;omega)
def NN(x:α):∀l:List α,(kW c x l).length<=l.length+1
 |[]=>by simp[kW]
 |y::l=>by
  have:=NN x l;simp only[kW];split
  ·simp;omega
  ·split<;>simp
def NM(ax:kd c)(x:α):∀(l:List α) (k:Nat),(∀i y,i<k->l[i]? =some y->c y x<0)->(∀y,l[k]? =some y->0<=c y x)->k<=l.length->kW c x l=if(match l[k]? with|some y=>decide (c y x=0)|none=>false)=true then l else l.take k++x::l.drop k
 |[],k,_,_,ab=>by simp at ab;subst ab;simp[kW]
 |y::l,0,_,U,_=>by
  have:=U y rfl;by_cases e:c y x=0
  ·simp[kW,e]
  ·have f:¬c y x<0:=Ω
   simp[kW,f,e]
 |y::l,k+1,J,U,ab=>by
  have b:=J 0 y Ω rfl;simp only[kW,if_pos b,List.take_succ_cons,List.drop_succ_cons,b5,List.getElem?_cons_succ];rw[NM ax x l k (fun i d hi a=>J (i+1) d Ω (by simpa using a)) (fun d a=>U d (by simpa using a)) (by simpa using ab)];cases l[k]? with
  |none=>rfl
  |some z=>simp only[];split<;>rfl
end
structure jN (l:List bI):Prop where
 at':∀x∈l,(0<=x.v/\x.v<=100000)/\(x.k=2\/x.k=3)
 asc:l.Pairwise fun x y=>x.v<y.v
def nz(l:List bI)(v:Int):bd Int:=(l.find? fun x=>x.v==v).map (·.k)
def nx(x:bI):List bI->List bI
 |[]=>[x]
 |y::l=>if y.v<x.v then y::nx x l else x::y::l
def IJ{x z:bI}:∀{l:List bI},z∈nx x l↔z=x\/z∈l
 |[]=>by simp[nx]
 |y::l=>by
  simp only[nx];split
  ·simp only[gI,IJ (l:=l)];constructor
   ·rintro(h|h|h)
    ·exact .inr (.inl h)
    ·exact .inl h
    ·exact .inr (.inr h)
   ·rintro(h|h|h)
    ·exact .inr (.inl h)
    ·exact .inl h
    ·exact .inr (.inr h)
  ·simp
def Xq(x:bI):∀l:List bI,(nx x l).Perm (x::l)
 |[]=>.refl _
 |y::l=>by
  simp only[nx];split
  ·exact((Xq x l).cons y).trans (ayn _ _ _)
  ·exact .refl _
def NO{x:bI}:∀{l:List bI},l.Pairwise (fun x y=>x.v<y.v)->(∀y∈l,y.v≠x.v)->(nx x l).Pairwise fun x y=>x.v<y.v
 |[],_,_=>by simp[nx]
 |y::l,h,b=>by
  obtain⟨J,U⟩:=oh.1 h;have d:=b y Ψ;simp only[nx];split
  ·rename_i c;refine oh.2 ⟨fun z a=>?_,NO U fun z a=>b z (by simp[a])⟩;rcases IJ.1 a with rfl|a
   ·exact c
   ·exact J z a
  ·refine oh.2 ⟨fun z a=>?_,h⟩;rcases gI.1 a with rfl|a
   ·omega
   ·have:=J z a;omega
def Xo(x:bI):∀(l:List bI) (k:Nat),(∀i y,i<k->l[i]? =some y->y.v<x.v)->(∀y,l[k]? =some y->¬y.v<x.v)->k<=l.length->nx x l=l.take k++x::l.drop k
 |[],k,_,_,ab=>by simp at ab;subst ab;rfl
 |y::l,0,_,U,_=>by have:=U y rfl;simp[nx,this]
 |y::l,k+1,J,U,ab=>by have b:=J 0 y Ω rfl;simp only[nx,if_pos b,List.take_succ_cons,List.drop_succ_cons,b5];rw[Xo x l k (fun i d hi a=>J (i+1) d Ω (by simpa using a)) (fun d a=>U d (by simpa using a)) (by simpa using ab)]
def alZ{l a:List bI}(b:a.Perm l)(d:l.Pairwise fun x y=>x.v<y.v)(g:a.Pairwise fun x y=>decide (y.v<x.v)=false):a=l:=by
 refine Rb (le:=fun x y:bI=>x.v<=y.v) (fun x y k m J U=>?_) (g.imp Ψ) (d.imp Ω) b;have f:x∈l:=b.mem_iff.1 k;have e:y∈l:=m;obtain⟨i,hi,rfl⟩:=pB f;obtain⟨j,c,rfl⟩:=pB e;have:=q6.1 d;rcases Nat.lt_trichotomy i j with h|h|h
 ·have:=this i j hi c h;omega
 ·subst h;rfl
 ·have:=this j i c hi h;omega
def EL{l:List bI}{v:Int}:nz l v=none↔∀x∈l,x.v≠v:=by simp[nz]
def XR{l:List bI}{v k:Int}(h:nz l v=some k):(⟨v,k⟩:bI)∈l:=by unfold nz at h;rw[hr]at h;obtain⟨x,J,rfl⟩:=h;have U:=List.find?_some J;simp at U;subst U;exact List.mem_of_find?_eq_some J
def NZ{l:List bI}(a:l.Pairwise fun x y=>x.v<y.v){x:bI}(h:x∈l):nz l x.v=some x.k:=by
 induction l with
 |nil=>simp at h
 |cons y l b=>
  obtain⟨J,U⟩:=oh.1 a;rcases gI.1 h with rfl|h
  ·simp[nz]
  ·have:=J x h;have e:=b U h;unfold nz at e⊢;rw[List.find?_cons_of_neg d6];exact e
def k5(l:List bI)(t:T)(k:Int):bd (List bI):=match t with
 | .var n=>match nz l n with
  |some bt=>if bt=k then some l else none
  |none=>some (nx ⟨n,k⟩ l)
 |t=>if t.kind=k then some l else none
def KL{l b:List bI}{t:T}{k:Int}(h:jN l)(d:t.ok=true)(ab:k=2\/k=3)(he:k5 l t k=some b):jN b:=by
 unfold k5 at he;split at he
 ·rename_i n;split at he
  ·split at he
   ·cases he;exact h
   ·cases he
  ·rename_i c;cases he;rw[EL]at c;refine⟨fun x a=>?_,NO h.asc c⟩;rcases IJ.1 a with rfl|a
   ·exact⟨by simpa[T.ok]using d,ab⟩
   ·exact h.at' x a
 ·split at he
  ·cases he;exact h
  ·cases he
def tH{l:List bI}(h:jN l):l.length<=100001:=by
 have J:(l.map (·.v)).Nodup:=by rw[List.nodup_iff_pairwise_ne,List.pairwise_map];exact h.asc.imp fun h e=>Ω
 have:=XP J fun v b=>by obtain⟨x,a,rfl⟩:=hb.1 b;exact(h.at' x a).1
 simpa using this
def gS(s:List Bd):List bI->List bI->bd (List bI)
 |[],acc=>some acc
 |x::r,acc=>match k5 acc (cQ s x.v) x.k with
  |some a=>gS s r a
  |none=>none
structure iT (l:List bo):Prop where
 at':∀x∈l,(0<=x.v/\x.v<=100000)/\kq x.s=true
 asc:iN gd l
def _root_.Go.Pv.T.has(s:List cU):T->Bool
 | .sym n=>n==s
 | .pair a b=>a.has s||b.has s
 |_=>false
def nc(l:List bo)(t:T)(s:List cU):bd (List bo):=if t.has s then none else some (asc gd (l++(oS t).map fun v=>⟨v,s⟩))
def F5{t:T}{v:Int}:v∈oS t↔t.occ v=true:=by
 refine⟨fun h=>?_,zS⟩;induction t with
 |var n=>simp[oS]at h;simp[T.occ,h]
 |pair a b d c=>simp only[oS,kc]at h;simp only[T.occ,og];exact h.imp d c
 |_=>simp[oS]at h
def EW{l a:List bo}{t:T}{s:List cU}(h:nc l t s=some a)(x:bo):x∈a↔x∈l\/(x.s=s/\t.occ x.v=true):=by
 unfold nc at h;split at h
 ·cases h
 ·cases h;rw[YB,kc,hb];refine or_congr_right ?_;constructor
  ·rintro⟨v,b,rfl⟩;exact⟨rfl,F5.1 b⟩
  ·rintro⟨J,U⟩;exact⟨x.v,F5.2 U,by rw[<-J]⟩
def KM{l a:List bo}{t:T}{s:List cU}(b:t.has s=false)(c:iN gd a)(hm:∀x,x∈a↔x∈l\/(x.s=s/\t.occ x.v=true)):nc l t s=some a:=by
 have h:nc l t s=some (asc gd (l++(oS t).map fun v=>⟨v,s⟩)):=by unfold nc;rw[b];rfl
 rw[h];congr 1;exact(KS mO _).ext mO c fun x=>by rw[hm,<-EW h]
def KN{l a:List bo}{t:T}{s:List cU}(h:iT l)(d:t.ok=true)(b:kq s=true)(he:nc l t s=some a):iT a:=by
 refine⟨fun x c=>?_,?_⟩
 ·rcases(EW he x).1 c with J|⟨J,U⟩
  ·exact h.at' x J
  ·exact⟨yB d U,by rw[J];exact b⟩
 ·unfold nc at he;split at he
  ·cases he
  ·cases he;exact KS mO _
def gZ(s:List Bd):List bo->List bo->bd (List bo)
 |[],acc=>some acc
 |x::r,acc=>match nc acc (cQ s x.v) x.s with
  |some a=>gZ s r a
  |none=>none
end
end Go.Pv
namespace Go.Proofs.YtahlgcidhnjlbaaGreat
section
open Go Go.Pv
def R9:C:=(aa [cW 1 0,bz 2 false] (aa [bg 3 4 1,dS 4 131 [.t 3,(gT 5000)],aU 5 .gtr 4 0,I 2 5] .ret))
def Sz:C:=(aa [dt (.box 2 (some 201) (.t 0)),cW 3 1,dG 4 ez,bz 5 false] (aa [bg 6 4 3,cd 7 (.mkf 138 [.t 2]),b8 8 137 6 7,cX 9 0 8,cX 10 1 8,bV 4 4 9,I 5 10] .ret))
def TF:C:=(aa [dG 2 ez] (aa [I 3 0,jy 4 ez [(0,1,(gT 1)),(1,1,(.t 3))],bV 4 2 4] .ret))
def AW:C:=(aa [cW 1 0,dG 2 ez] (aa [aF 6 0 1 1,ay 7 1 6,aF 8 1 1 1,ay 9 1 8,aF 10 2 1 1,ay 11 1 10,jy 12 ez [(0,1,(.t 7)),(1,1,(.t 9)),(2,1,(.t 11))],dG 3 ez,bV 4 3 12] (.seq (aa [aF 13 3 1 1,ay 14 1 13,cw 15 14,bP 16 0] (gw 17 16 15 (.seq (.block 1 (aa [ck 18 4 14 16,bg 19 4 18,dG 5 ez,bV 4 5 19] (.drawn true 29 [aF 20 3 1 3,ay 21 1 20,bg 22 4 5,cT 23 130 22,e1 24 4 30 [.t 23],h0 25 4 30 21 24,aF 26 3 1 3,bV 1 26 25]))) (.region [aU 27 .add 16 1,I 16 27])))) (aa [bg 28 4 3,bV 4 2 28] .ret))))
def Sv:C:=(aa [cW 2 0,bP 4 0] (.seq (aa [I 7 1,aU 8 .lss 7 1] (aW 8 (aa [bP 4 (-1)] .ret) .skip)) (.seq (aa [aF 9 0 1 2,ay 10 1 9,aU 11 .neq 10 4] (aW 11 (.seq (aa [aF 12 3 1 2,ay 13 1 12,cw 14 13,aU 15 .neq 14 0] (aW 15 (aa [bP 4 (-1)] .ret) .skip)) (.seq (aa [aF 16 0 1 2,ay 17 1 16] (.block 0 (aa [aU 19 .eql 17 0,I 18 19] (aW 18 (aa [aF 20 1 1 2,ay 21 1 20,aU 22 .neq 21 0,I 23 22,aw 23 false (aF 24 2 1 2),aw 23 false (ay 25 1 24),yE 23 false 26 (.bin .neq false (.t 25) (.c (.str []))),dr 27 23 26] (aW 27 (aa [bP 4 (-1)] .ret) .skip)) (aa [aU 29 .eql 17 1,I 28 29] (aW 28 (aa [aF 30 1 1 2,ay 31 1 30,aU 32 .lss 31 0,I 33 32,aw 33 false (aF 34 1 1 2),aw 33 false (ay 35 1 34),aw 33 false (aU 36 .gtr 35 100000),dr 37 33 36,I 38 37,aw 38 false (aF 39 2 1 2),aw 38 false (ay 40 1 39),yE 38 false 41 (.bin .neq false (.t 40) (.c (.str []))),dr 42 38 41] (aW 42 (aa [bP 4 (-1)] .ret) .skip)) (aa [aU 44 .eql 17 2,I 43 44] (aW 43 (aa [aF 45 1 1 2,ay 46 1 45,aU 47 .neq 46 0,I 48 47,aw 48 false (aF 49 2 1 2),aw 48 false (ay 50 1 49),aw 48 false (cT 51 160 50),aw 48 false (cM 52 51),dr 53 48 52] (aW 53 (aa [bP 4 (-1)] .ret) .skip)) (aa [aU 55 .eql 17 3,I 54 55] (aW 54 (aa [aF 56 1 1 2,ay 57 1 56,aU 58 .lss 57 (-1000000000),I 59 58,aw 59 false (aF 60 1 1 2),aw 59 false (ay 61 1 60),aw 59 false (aU 62 .gtr 61 1000000000),dr 63 59 62,I 64 63,aw 64 false (aF 65 2 1 2),aw 64 false (ay 66 1 65),yE 64 false 67 (.bin .neq false (.t 66) (.c (.str []))),dr 68 64 67] (aW 68 (aa [bP 4 (-1)] .ret) .skip)) (aa [bP 4 (-1)] .ret))))))))))) (aa [bP 4 1] .ret))) .skip)) (.seq (aa [aF 69 1 1 2,ay 70 1 69,aU 71 .neq 70 0,I 72 71,aw 72 false (aF 73 2 1 2),aw 72 false (ay 74 1 73),yE 72 false 75 (.bin .neq false (.t 74) (.c (.str []))),dr 76 72 75,I 77 76,aw 77 false (aF 78 3 1 2),aw 77 false (ay 79 1 78),aw 77 false (cw 80 79),aw 77 false (aU 81 .neq 80 2),dr 82 77 81] (aW 82 (aa [bP 4 (-1)] .ret) .skip)) (aa [aF 83 3 1 2,ay 84 1 83,kA 85 4 84 0,bg 86 4 85,I 87 1,aU 88 .sub 87 1,b8 89 131 86 88,I 5 89] (.seq (aa [I 90 5,aU 91 .lss 90 0] (aW 91 (aa [bP 4 (-1)] .ret) .skip)) (aa [aF 92 3 1 2,ay 93 1 92,kA 94 4 93 1,bg 95 4 94,I 96 1,aU 97 .sub 96 1,I 98 5,bu 99 .sub 97 98,b8 100 131 95 99,I 6 100] (.seq (aa [I 101 6,aU 102 .lss 101 0] (aW 102 (aa [bP 4 (-1)] .ret) .skip)) (aa [I 103 5,cd 104 (.bin .add false (gT 1) (.t 103)),I 105 6,bu 106 .add 104 105,I 4 106] .ret)))))))))
def GG:C:=(aa [cW 2 0,cW 3 1,bP 4 0] (.seq (aa [aF 6 0 1 2,ay 7 1 6,aF 8 0 1 3,ay 9 1 8,bu 10 .neq 7 9] (aW 10 (aa [aF 11 0 1 2,ay 12 1 11,aF 13 0 1 3,ay 14 1 13,b8 15 190 12 14,I 4 15] .ret) .skip)) (.seq (aa [aF 16 1 1 2,ay 17 1 16,aF 18 1 1 3,ay 19 1 18,bu 20 .neq 17 19] (aW 20 (aa [aF 21 1 1 2,ay 22 1 21,aF 23 1 1 3,ay 24 1 23,b8 25 190 22 24,I 4 25] .ret) .skip)) (.seq (aa [aF 26 2 1 2,ay 27 1 26,aF 28 2 1 3,ay 29 1 28,bu 30 .neq 27 29] (aW 30 (.seq (aa [aF 31 2 1 2,ay 32 1 31,aF 33 2 1 3,ay 34 1 33,bu 35 .lss 32 34] (aW 35 (aa [bP 4 (-1)] .ret) .skip)) (aa [bP 4 1] .ret)) .skip)) (.seq (aa [aF 36 0 1 2,ay 37 1 36,aU 38 .neq 37 4] (aW 38 (aa [bP 4 0] .ret) .skip)) (.seq (.seq (.drawn true 60 [aF 39 3 1 2,ay 40 1 39,kA 41 4 40 0,bg 42 4 41,aF 43 3 1 3,ay 44 1 43,kA 45 4 44 0,bg 46 4 45,b8 47 133 42 46,I 5 47]) (aa [I 48 5,aU 49 .neq 48 0] (aW 49 (aa [I 50 5,I 4 50] .ret) .skip))) (.seq (.drawn true 60 [aF 51 3 1 2,ay 52 1 51,kA 53 4 52 1,bg 54 4 53,aF 55 3 1 3,ay 56 1 55,kA 57 4 56 1,bg 58 4 57,b8 59 133 54 58,I 4 59]) .ret)))))))
def yW:C:=(aa [cW 2 0] (.seq (aa [aF 4 0 1 2,ay 5 1 4,aU 6 .eql 5 1] (aW 6 (.region [I 7 1,aF 8 1 1 2,ay 9 1 8,hG 10 7 [.t 9]]) .skip)) (aa [aF 11 0 1 2,ay 12 1 11,aU 13 .eql 12 4] (aW 13 (aa [aF 14 3 1 2,ay 15 1 14,kA 16 4 15 0,bg 17 4 16,I 18 1,b8 19 134 17 18] (.region [aF 20 3 1 2,ay 21 1 20,kA 22 4 21 1,bg 23 4 22,I 24 1,b8 25 134 23 24])) .skip))))
def SE:C:=(aa [fo 2 1] (aa [dt (.bslm 5 (some 306) 1 3 []),I 3 5] (.seq (aa [I 6 0,dt (.range 7 none (.t 6))] (.block 0 (.loop (aa [⟨none,.next 8 (.t 7)⟩,cX 9 0 8] (.seq (aW 9 .skip (.exit 0)) (.block 1 (aa [cd 10 (.ment (.t 7)),cX 11 0 10,I 4 11] (.region [I 12 3,I 13 4,e1 14 1 3 [.t 13],dt (.appm 15 none 1 3 (.t 12) (.t 14)),I 3 15])))))))) (aa [I 16 3,cT 17 191 16] (.seq (.pub 3 (.region [I 18 3,I 2 18])) .ret)))))
def SB:C:=(aa [cW 2 0,dt (.box 3 (some 202) (.t 1)),dG 4 ez,bz 5 false] (aa [bg 7 4 2,cd 8 (.mkf 193 [.t 3]),b8 9 192 7 8,I 6 9] (.seq (aa [I 10 6,aU 11 .gtr 10 5000] (aW 11 (aa [jy 12 ez [],bV 4 4 12,bz 5 false] .ret) .skip)) (aa [bg 13 4 2,ay 14 1 3,b8 15 194 13 14,bV 4 4 15,bz 5 true] .ret))))
def SA:C:=(aa [dG 3 ez,bz 4 false] (.seq (aa [ay 6 1 1,I 7 0,b8 8 139 6 7,I 5 8] (aa [I 9 5,aU 10 .geq 9 0] (aW 10 (aa [ay 11 1 1,I 12 5,ck 13 5 11 12,hq 14 1 4 13,bg 15 4 14,bV 4 3 15,bz 4 true] .ret) .skip))) (aa [jy 16 ez [],bV 4 3 16,bz 4 false] .ret)))
def Sr:C:=(aa [dt (.box 2 (some 101) (.t 0)),dt (.box 3 (some 102) (.t 1)),bP 4 0] (aa [ay 6 1 2,cw 7 6,cd 8 (.mkf 196 [.t 2,.t 3]),b8 9 195 7 8,I 5 9] (.seq (.seq (.drawn true 24 [I 10 5,ay 11 1 2,cw 12 11,bu 13 .lss 10 12,I 14 13,aw 14 true (ay 15 1 2),cg 14 true 16 5,aw 14 true (ck 17 5 15 16),aw 14 true (aF 18 0 1 17),aw 14 true (ay 19 1 18),aw 14 true (ay 20 1 3),aw 14 true (bu 21 .eql 19 20),ei 22 14 21]) (aW 22 (aa [I 23 5,I 4 23] .ret) .skip)) (aa [bP 4 (-1)] .ret))))
def Sp:C:=(aa [cW 2 0,cW 3 1,bz 4 false] (aa [bg 5 4 2,bg 6 4 3,b8 7 133 5 6,aU 8 .eql 7 0,I 4 8] .ret))
def Dr:C:=(aa [cW 1 0,dG 2 ez] (.seq (aa [aF 3 0 1 1,ay 4 1 3,aU 5 .neq 4 4] (aW 5 (aa [aF 6 0 1 1,ay 7 1 6,aF 8 1 1 1,ay 9 1 8,aF 10 2 1 1,ay 11 1 10,jy 12 ez [(0,1,(.t 7)),(1,1,(.t 9)),(2,1,(.t 11))],bV 4 2 12] .ret) .skip)) (.seq (.drawn true 25 [aF 13 3 1 1,ay 14 1 13,kA 15 4 14 0,bg 16 4 15,cT 17 143 16,aF 18 3 1 1,ay 19 1 18,kA 20 4 19 1,bg 21 4 20,cT 22 143 21,e1 23 4 30 [.t 17,.t 22],jy 24 ez [(0,1,(gT 4)),(3,1,(.t 23))],bV 4 2 24]) .ret)))
def Sb:C:=(aa [bz 2 false] (.seq (aa [I 5 0,cw 6 5,aU 7 .gtr 6 400] (aW 7 (aa [bz 2 false] .ret) .skip)) (.seq (aa [I 8 0,cw 9 8,bP 10 0] (gw 11 10 9 (.seq (.block 1 (aa [I 12 10,ck 13 5 8 10,bg 14 5 13,dG 4 ks,I 3 12,bV 5 4 14] (.seq (.drawn true 45 [aF 15 0 1 4,ay 16 1 15,aU 17 .lss 16 0,I 18 17,aw 18 false (aF 19 0 1 4),aw 18 false (ay 20 1 19),aw 18 false (aU 21 .gtr 20 100000),dr 22 18 21,I 23 22,cg 23 false 24 3,aw 23 false (aU 25 .gtr 24 0),cg 23 false 26 25,cg 26 true 27 0,cg 26 true 28 3,aw 26 true (aU 29 .sub 28 1),aw 26 true (ck 30 5 27 29),aw 26 true (aF 31 0 1 30),aw 26 true (ay 32 1 31),aw 26 true (aF 33 0 1 4),aw 26 true (ay 34 1 33),aw 26 true (bu 35 .geq 32 34),aw 23 false (ei 36 26 35),dr 37 23 36,I 38 37,aw 38 false (hq 39 1 4 4),aw 38 false (bg 40 4 39),aw 38 false (cT 41 64 40),aw 38 false (cM 42 41),dr 43 38 42]) (aW 43 (aa [bz 2 false] .ret) .skip)))) (.region [aU 44 .add 10 1,I 10 44])))) (aa [bz 2 true] .ret))))
def R0:C:=(aa [bz 2 false] (.seq (aa [I 4 0,cd 5 (.slen (.t 4)),aU 6 .lss 5 1,I 7 6,cg 7 false 8 0,aw 7 false (cd 9 (.slen (.t 8))),aw 7 false (aU 10 .gtr 9 12),dr 11 7 10,I 12 11,cg 12 false 13 0,aw 12 false (cd 14 (.sidx (.t 13) (gT 0))),aw 12 false (cd 15 (.bin .lss false (.t 14) (.c (.int .u8 97)))),dr 16 12 15,I 17 16,cg 17 false 18 0,aw 17 false (cd 19 (.sidx (.t 18) (gT 0))),aw 17 false (cd 20 (.bin .gtr false (.t 19) (.c (.int .u8 122)))),dr 21 17 20] (aW 21 (aa [bz 2 false] .ret) .skip)) (.seq (aa [bP 3 1] (.block 0 (.loop (.seq (aa [I 22 3,I 23 0,cd 24 (.slen (.t 23)),bu 25 .lss 22 24] (aW 25 .skip (.exit 0))) (.seq (.block 1 (aa [I 28 0,I 29 3,cd 30 (.sidx (.t 28) (.t 29)),cd 31 (.bin .geq false (.t 30) (.c (.int .u8 97))),I 32 31,cg 32 true 33 0,cg 32 true 34 3,aw 32 true (cd 35 (.sidx (.t 33) (.t 34))),aw 32 true (cd 36 (.bin .leq false (.t 35) (.c (.int .u8 122)))),ei 37 32 36,I 38 37,cg 38 false 39 0,cg 38 false 40 3,aw 38 false (cd 41 (.sidx (.t 39) (.t 40))),aw 38 false (cd 42 (.bin .geq false (.t 41) (.c (.int .u8 48)))),cg 38 false 43 42,cg 43 true 44 0,cg 43 true 45 3,aw 43 true (cd 46 (.sidx (.t 44) (.t 45))),aw 43 true (cd 47 (.bin .leq false (.t 46) (.c (.int .u8 57)))),aw 38 false (ei 48 43 47),dr 49 38 48,I 50 49,cg 50 false 51 0,cg 50 false 52 3,aw 50 false (cd 53 (.sidx (.t 51) (.t 52))),aw 50 false (cd 54 (.bin .eql false (.t 53) (.c (.int .u8 45)))),dr 55 50 54,cM 56 55] (aW 56 (aa [bz 2 false] .ret) .skip))) (.region [I 26 3,aU 27 .add 26 1,I 3 27])))))) (aa [bz 2 true] .ret))))
def K9:C:=(aa [bz 2 false] (.seq (aa [I 5 0,cw 6 5,bP 7 0] (gw 8 7 6 (.seq (.block 1 (aa [ck 9 4 5 7,bg 10 4 9,dG 4 ez,bV 4 4 10] (aa [bg 11 4 4,cT 12 64 11,cM 13 12] (aW 13 (aa [bz 2 false] .ret) .skip)))) (.region [aU 14 .add 7 1,I 7 14])))) (aa [bz 2 true] .ret)))
def TC:C:=(aa [cW 2 0,cW 3 1,dG 4 ez] (aa [bg 5 4 2,bg 6 4 3,e1 7 4 30 [.t 5,.t 6],jy 8 ez [(0,1,(gT 4)),(3,1,(.t 7))],bV 4 4 8] .ret))
def Sx:C:=(aa [bP 4 0] (.seq (aa [I 5 0,I 6 1,bu 7 .lss 5 6] (aW 7 (aa [bP 4 (-1)] .ret) .skip)) (.seq (aa [I 8 0,I 9 1,bu 10 .gtr 8 9] (aW 10 (aa [bP 4 1] .ret) .skip)) (aa [bP 4 0] .ret))))
def xa:C:=(aa [cW 2 0,bP 4 0] (.seq (aa [aF 6 0 1 2,ay 7 1 6] (.block 0 (aa [aU 9 .eql 7 1,I 8 9] (aW 8 (aa [I 10 1,aF 11 1 1 2,ay 12 1 11,hG 13 10 [.t 12],cd 14 (.min2 (.t 13) (gT 5001)),I 4 14] .ret) (aa [aU 16 .eql 7 4,I 15 16] (aW 15 (aa [aF 17 3 1 2,ay 18 1 17,kA 19 4 18 0,bg 20 4 19,I 21 1,b8 22 192 20 21,I 5 22] (.seq (aa [I 23 5,aU 24 .gtr 23 5000] (aW 24 (aa [I 25 5,I 4 25] .ret) .skip)) (aa [I 26 5,cd 27 (.bin .add false (gT 1) (.t 26)),aF 28 3 1 2,ay 29 1 28,kA 30 4 29 1,bg 31 4 30,I 32 1,b8 33 192 31 32,bu 34 .add 27 33,cd 35 (.min2 (.t 34) (gT 5001)),I 4 35] .ret))) .skip)))))) (aa [bP 4 1] .ret)))
def SC:C:=(aa [bP 3 0] (.seq (aa [ay 7 1 1,I 8 0,hG 9 7 [.t 8],I 6 9,cX 10 0 6,cX 11 1 6,dG 4 ez,bV 4 4 10,I 5 11] (aa [I 12 5] (aW 12 (aa [bg 13 4 4,dS 14 131 [.t 13,(gT 5000)],I 3 14] .ret) .skip))) (aa [bP 3 1] .ret)))
def yX:C:=(aa [cW 2 0,dG 4 ez] (.seq (aa [aF 7 0 1 2,ay 8 1 7] (.block 0 (aa [aU 10 .eql 8 1,I 9 10] (aW 9 (.seq (aa [I 12 1,aF 13 1 1 2,ay 14 1 13,hG 15 12 [.t 14],I 11 15,cX 16 0 11,cX 17 1 11,dG 5 ez,bV 4 5 16,I 6 17] (aa [I 18 6] (aW 18 (aa [bg 19 4 5,cT 20 143 19,bV 4 4 20] .ret) .skip))) (aa [bg 21 4 2,bV 4 4 21] .ret)) (aa [aU 23 .eql 8 4,I 22 23] (aW 22 (.seq (.drawn false 38 [aF 24 3 1 2,ay 25 1 24,kA 26 4 25 0,bg 27 4 26,I 28 1,b8 29 194 27 28,aF 30 3 1 2,ay 31 1 30,kA 32 4 31 1,bg 33 4 32,I 34 1,b8 35 194 33 34,b8 36 221 29 35,bV 4 4 36]) .ret) .skip)))))) (aa [bg 37 4 2,bV 4 4 37] .ret)))
def S8:C:=(aa [bP 4 0] (aa [I 8 0,bP 5 0,I 6 8] (.seq (.block 0 (.loop (.seq (aa [I 9 5,I 10 6,bu 11 .lss 9 10] (aW 11 .skip (.exit 0))) (.block 1 (aa [I 12 5,I 13 6,bu 14 .add 12 13,cd 15 (.conv .u64 (.t 14)),cd 16 (.bin .shr false (.t 15) (.c (.int .u64 1))),cd 17 (.conv .i64 (.t 16)),I 7 17] (aa [I 18 1,I 19 7,hG 20 18 [.t 19],cM 21 20] (aW 21 (.region [I 22 7,aU 23 .add 22 1,I 5 23]) (.region [I 24 7,I 6 24])))))))) (aa [I 25 5,I 4 25] .ret))))
def Ss:C:=(aa [bz 4 false] (.seq (.drawn true 12 [ay 5 1 1,I 6 0,ck 7 5 5 6,aF 8 0 1 7,ay 9 1 8,ay 10 1 2,bu 11 .geq 9 10,I 4 11]) .ret))
def Sy:C:=(aa [cW 2 0,cW 3 1,dG 4 ez] (aa [bg 5 4 2,bg 6 4 3,e1 7 4 30 [.t 5,.t 6],jy 8 ez [(0,1,(gT 4)),(3,1,(.t 7))],bV 4 4 8] .ret))
def aT:List (Nat×ev):=[(3,⟨1,8,.int .i64,.int .i64 0⟩),(4,⟨1,1,.bool,.bool false⟩),(5,⟨1,1,.int .u8,.int .u8 0⟩),(9,⟨1,16,.str,.str []⟩),(22,⟨1,24,.slice 24,.slice 4 .nil []⟩),(24,⟨4,56,.struct [(0,3),(1,3),(2,9),(3,22)],.agg [.int .i64 0,.int .i64 0,.str [],.slice 4 .nil []]⟩),(27,⟨1,24,.slice 30,.slice 4 .nil []⟩),(30,⟨4,56,.struct [(0,3),(1,3),(2,9),(3,27)],.agg [.int .i64 0,.int .i64 0,.str [],.slice 4 .nil []]⟩),(38,⟨1,24,.slice 111,.slice 5 .nil []⟩),(39,⟨1,24,.slice 38,.slice 1 .nil []⟩),(40,⟨1,24,.slice 158,.slice 2 .nil []⟩),(41,⟨1,24,.slice 146,.slice 2 .nil []⟩),(43,⟨5,104,.struct [(0,3),(1,38),(2,39),(3,40),(4,41)],.agg [.int .i64 0,.slice 5 .nil [],.slice 1 .nil [],.slice 2 .nil [],.slice 2 .nil []]⟩),(46,⟨1,24,.slice 113,.slice 5 .nil []⟩),(47,⟨1,24,.slice 46,.slice 1 .nil []⟩),(48,⟨1,24,.slice 98,.slice 2 .nil []⟩),(49,⟨1,24,.slice 100,.slice 2 .nil []⟩),(51,⟨5,104,.struct [(0,3),(1,46),(2,47),(3,48),(4,49)],.agg [.int .i64 0,.slice 5 .nil [],.slice 1 .nil [],.slice 2 .nil [],.slice 2 .nil []]⟩),(76,⟨1,24,.slice 3,.slice 1 .nil []⟩),(98,⟨2,16,.struct [(0,3),(1,3)],.agg [.int .i64 0,.int .i64 0]⟩),(100,⟨2,24,.struct [(0,3),(1,9)],.agg [.int .i64 0,.str []]⟩),(111,⟨5,64,.struct [(0,3),(1,24)],.agg [.int .i64 0,.int .i64 0,.int .i64 0,.str [],.slice 4 .nil []]⟩),(113,⟨5,64,.struct [(0,3),(1,30)],.agg [.int .i64 0,.int .i64 0,.int .i64 0,.str [],.slice 4 .nil []]⟩),(136,⟨1,8,.map 3 4,.junk⟩),(141,⟨1,8,.other,.junk⟩),(143,⟨1,8,.other,.junk⟩),(144,⟨1,24,.slice 5,.slice 1 .nil []⟩),(146,⟨2,24,.struct [(0,3),(1,9)],.agg [.int .i64 0,.str []]⟩),(158,⟨2,16,.struct [(0,3),(1,3)],.agg [.int .i64 0,.int .i64 0]⟩),(165,⟨1,8,.map 100 4,.junk⟩),(181,⟨1,8,.other,.junk⟩),(185,⟨2,16,.struct [(0,143),(1,181)],.agg [.junk,.junk]⟩),(192,⟨1,8,.int .u64,.int .u64 0⟩),(194,⟨1,8,.other,.nilp⟩),(206,⟨1,4,.int .u32,.int .u32 0⟩),(208,⟨1,8,.int .u64,.int .u64 0⟩),(216,⟨1,8,.map 3 3,.junk⟩),(217,⟨1,8,.map 3 30,.junk⟩),(219,⟨6,48,.struct [(0,216),(1,217),(2,136),(3,216),(4,216),(5,217)],.agg [.junk,.junk,.junk,.junk,.junk,.junk]⟩),(222,⟨1,8,.int .u64,.int .u64 0⟩)]
def mixed:au.follows .mixedOrders=true:=bi
def bH{aT:List (Nat×ev)}(e:hX au aT=true){f:FuncId}{fn:Func}(h:au.funcs[f]? =some fn){c:C}{a:List bW}{n:Nat}(b:b3 aT c a n fn=true){args:List af}{r:af}(he:eM args->de au [] c (bZ a r) ⟨jb 0 args,[],[],0,[]⟩)(d:args.length<=n:=by simp)(g:az (fun _=>er) r:=by simp[az]):bU au f args r:=bU.mk mixed e h b d g he
def a1:hX au aT=true:=bi
def anC:b3 aT R9 [.tmp 2] 1 Tryz.f64=true:=bi
def an1:b3 aT Sz [.cell 4 true 4,.tmp 5] 2 Tryz.f69=true:=bi
def ao3:b3 aT TF [.cell 2 true 4] 1 Tryz.f114=true:=bi
def Fa:b3 aT AW [.cell 2 true 4] 1 Tryz.f130=true:=bi
def anX:b3 aT Sv [.tmp 4] 2 Tryz.f131=true:=bi
def O6:b3 aT GG [.tmp 4] 2 Tryz.f133=true:=bi
def Cp:b3 aT yW [] 2 Tryz.f134=true:=bi
def an6:b3 aT SE [.tmp 2] 1 Tryz.f136=true:=bi
def an3:b3 aT SB [.cell 4 true 4,.tmp 5] 2 Tryz.f137=true:=bi
def an2:b3 aT SA [.cell 3 true 4,.tmp 4] 2 Tryz.f138=true:=bi
def anT:b3 aT Sr [.tmp 4] 2 Tryz.f139=true:=bi
def anR:b3 aT Sp [.tmp 4] 2 Tryz.f142=true:=bi
def I1:b3 aT Dr [.cell 2 true 4] 1 Tryz.f143=true:=bi
def anE:b3 aT Sb [.tmp 2] 1 Tryz.f158=true:=bi
def ans:b3 aT R0 [.tmp 2] 1 Tryz.f160=true:=bi
def Zo:b3 aT K9 [.tmp 2] 1 Tryz.f172=true:=bi
def ao0:b3 aT TC [.cell 4 true 4] 2 Tryz.f189=true:=bi
def anZ:b3 aT Sx [.tmp 4] 2 Tryz.f190=true:=bi
def zX:b3 aT xa [.tmp 4] 2 Tryz.f192=true:=bi
def an4:b3 aT SC [.tmp 3] 2 Tryz.f193=true:=bi
def Cq:b3 aT yX [.cell 4 true 4] 2 Tryz.f194=true:=bi
def aox:b3 aT S8 [.tmp 4] 2 Tryz.f195=true:=bi
def anU:b3 aT Ss [.tmp 4] 3 Tryz.f196=true:=bi
def an0:b3 aT Sy [.cell 4 true 4] 2 Tryz.f221=true:=bi
def alH(s:List cU)(k:Nat)(st:bp):Prop:=∃i:Nat,1<=i/\i<=s.length/\k=s.length-i/\((s.drop 1).all nX=(s.drop i).all nX)/\st=⟨[(0,.str s),(3,aj i)],[],[],0,[]⟩
def vp(s:List cU):bU au 160 [.str s] (.bool (kq s)):=by
 refine bU.mk mixed a1 Tryz.func160 ans Ψ dl fun m=>?_;unfold R0;simp;(with_reducible repeat' first|((first|refine ct (fun h=>?_) fun h=>?_|refine cz (fun h=>?_) fun h=>?_|refine cy (fun h=>?_) fun h=>?_)<;>try simp at h)|refine al ?_|simp);case refine_1.refine_1.refine_1.refine_2=>
  have b:kq s=(s.drop 1).all nX:=by simp[kq,low];omega
  rw[b];refine qu (alH s) (s.length-1) _ ⟨Ψ,by simp[hz],by simp[qd],Ψ⟩ ⟨1,Ω,Ω,rfl,rfl,rfl⟩ ?_;rintro k st ⟨i,f,j,ab,c,rfl⟩ g l;rw[c];simp;refine ct (fun a=>?_) (fun e=>?_)
  ·simp at a;have d:s.drop i=s[i]?.getD 0::s.drop (i+1):=by rw[lG a];simp[a]
   simp;(with_reducible repeat' first|((first|refine ct (fun h=>?_) fun h=>?_|refine cz (fun h=>?_) fun h=>?_|refine cy (fun h=>?_) fun h=>?_)<;>try simp at h)|refine al ?_|simp);all_goals first
    |(simp[bZ,ba,bf,a6,d,nX,low];omega)
    |(simp only[Ge];refine⟨s.length-(i+1),_,Ω,⟨Ψ,by simp[hz],by simp[qd],Ψ⟩,i+1,Ω,Ω,rfl,?_,rfl⟩;rw[c,d];simp[nX,low];omega)
  ·simp at e;have:s.drop i=[]:=by simp;omega
   simp[bZ,ba,bf,a6,this]
 all_goals simp[bZ,ba,bf,a6,kq,low]
 all_goals omega
def acX(m:Nat):∀(t:Tm),t.sz<=m->∀(room:Int),0<=room/\room<=10000->bU au 131 [enc t,aj room] (aj (gr t room)):=by
 induction m with
 |zero=>intro t c;cases t;simp[Tm.sz]at c
 |succ m d=>
 rintro⟨k,n,s,args⟩ c room f;refine bH a1 Tryz.func131 anX fun p=>?_;unfold Sv;simp[Tm.kind,Tm.num,Tm.name,Tm.args];(with_reducible repeat' first|((first|refine ct (fun h=>?_) fun h=>?_|refine cz (fun h=>?_) fun h=>?_|refine cy (fun h=>?_) fun h=>?_)<;>try simp at h)|refine al ?_|simp);all_goals try refine CallDo.val Ψ (vp _) ?_
 all_goals try simp
 (with_reducible repeat' first|((first|refine ct (fun h=>?_) fun h=>?_|refine cz (fun h=>?_) fun h=>?_|refine cy (fun h=>?_) fun h=>?_)<;>try simp at h)|refine al ?_|simp);all_goals try simp[bZ,ba,bf,a6]
 case succ.refine_2.refine_2.refine_1.refine_1.refine_2=>
  rename_i l J U e;match args,h with
  |[a,b],_=>
  simp[Tm.sz,Tm.szL]at c;subst J U e;simp;(with_reducible repeat' first|((first|refine ct (fun h=>?_) fun h=>?_|refine cz (fun h=>?_) fun h=>?_|refine cy (fun h=>?_) fun h=>?_)<;>try simp at h)|refine al ?_|simp);refine CallDo.val Ψ (d a Ω (room-1) Ω) ?_;simp;have j:=OR a (room-1);have g:=E2 a (room-1);(with_reducible repeat' first|((first|refine ct (fun h=>?_) fun h=>?_|refine cz (fun h=>?_) fun h=>?_|refine cy (fun h=>?_) fun h=>?_)<;>try simp at h)|refine al ?_|simp)
  ·simp[bZ,ba,bf,a6];rw[OQ];simp;omega
  ·refine CallDo.val Ψ (d b Ω (room-1-gr a (room-1)) Ω) ?_;simp;have o:=OR b (room-1-gr a (room-1));have i:=E2 b (room-1-gr a (room-1));(with_reducible repeat' first|((first|refine ct (fun h=>?_) fun h=>?_|refine cz (fun h=>?_) fun h=>?_|refine cy (fun h=>?_) fun h=>?_)<;>try simp at h)|refine al ?_|simp);all_goals simp[bZ,ba,bf,a6]
   all_goals rw[OQ];simp;omega
 all_goals rw[OQ]
 all_goals simp_all[mj]
 all_goals first|omega|(split<;>simp at h⊢)
def Ke(t:Tm):bU au 64 [enc t] (.bool t.fits):=by refine bH a1 Tryz.func64 anC fun a=>?_;unfold R9;simp;refine CallDo.val Ψ (acX t.sz t (dP _) 5000 Ω) ?_;simp;simp[bZ,ba,bf,a6];simp[Tm.fits]
def ar5(t:T):bU au 64 [t.e] (.bool t.fit):=by have:=Ke t.tm;rwa[mA,Tm.fits_T]at this
def Kl(a b:T):bU au 221 [a.e,b.e] (T.pair a b).e:=by refine bH a1 Tryz.func221 an0 fun c=>?_;unfold Sy;simp;(with_reducible repeat' first|((first|refine ct (fun h=>?_) fun h=>?_|refine cz (fun h=>?_) fun h=>?_|refine cy (fun h=>?_) fun h=>?_)<;>try simp at h)|refine al ?_|simp);all_goals try simp[bZ,ba,bf,a6]
def Kg(a b:T):bU au 189 [a.e,b.e] (T.pair a b).e:=by refine bH a1 Tryz.func189 ao0 fun c=>?_;unfold TC;simp;(with_reducible repeat' first|((first|refine ct (fun h=>?_) fun h=>?_|refine cz (fun h=>?_) fun h=>?_|refine cy (fun h=>?_) fun h=>?_)<;>try simp at h)|refine al ?_|simp);all_goals try simp[bZ,ba,bf,a6]
def vq(t:T):bU au 143 [t.e] t.e:=by
 induction t with
 |pair a b e d=>refine bH a1 Tryz.func143 I1 fun c=>?_;unfold Dr;exact cp
 |_=>refine bH a1 Tryz.func143 I1 fun c=>?_;unfold Dr;exact cp
def ps(a b:Int):bU au 190 [aj a,aj b] (aj (fb a b)):=by
 refine bH a1 Tryz.func190 anZ fun c=>?_;unfold Sx;simp;((repeat' first|refine al ?_|simp|((first|apply ct|apply cz|apply cy)<;>intro h<;>try simp at h))<;>(try exact c3));all_goals simp[bZ,ba,bf,a6]
 all_goals simp[fb]
 all_goals omega
def C2(a:T):∀b:T,bU au 133 [a.e,b.e] (aj (e6 a b)):=by
 induction a with
 |pair g a2 e d=>
  intro b;cases b with
  |pair f i=>
   refine bH a1 Tryz.func133 O6 fun c=>?_;unfold GG;simp;((repeat' first|refine al ?_|refine aO (e _) ?_|refine aP (e _) ?_|refine aO (d _) ?_|refine aP (d _) ?_|refine aO (ps _ _) ?_|refine aP (ps _ _) ?_|simp|((first|apply ct|apply cz|apply cy)<;>intro h<;>try simp at h))<;>(try exact c3));all_goals simp[bZ,ba,bf,a6]
   all_goals simp_all[e6]
  |_=>
   refine bH a1 Tryz.func133 O6 fun c=>?_;unfold GG;simp;(repeat' first|refine al ?_|refine aO (ps _ _) ?_|refine aP (ps _ _) ?_|simp);all_goals simp[bZ,ba,bf,a6]
   all_goals simp_all[e6]
 |_=>
  intro b;cases b<;>
  (refine bH a1 Tryz.func133 O6 fun c=>?_;unfold GG
   simp
   (with_reducible repeat' first|((first|apply ct|apply cz|apply cy)<;>intro h<;>try simp at h)|refine al ?_|refine aO (ps _ _) ?_|refine aP (ps _ _) ?_|simp)
   all_goals simp[bZ,ba,bf,a6]
   all_goals simp_all[e6,lz])
def vr(a b:T):bU au 142 [a.e,b.e] (.bool (decide (a=b))):=by
 refine bH a1 Tryz.func142 anR fun c=>?_;unfold Sp;simp;(repeat' first|refine al ?_|refine aO (C2 _ _) ?_|refine aP (C2 _ _) ?_|simp);all_goals simp[bZ,ba,bf,a6]
 have:=sG a b;by_cases h:e6 a b=0<;>simp_all
open Classical in
def alL(l:List Bt)(k:Nat)(st:bp):Prop:=∃i:Nat,i<=l.length/\k=l.length-i/\(∀j,j<i->Co l j)/\st=⟨[(0,bL (l.map Bt.e)),(8,bL (l.map Bt.e)),(9,aj l.length),(10,aj i)],[],[],0,[]⟩
open Classical in
def ar7(l:List Bt):bU au 158 [bL (l.map Bt.e)] (.bool (decide (AL l))):=by
 refine bH a1 Tryz.func158 anE fun v=>?_;unfold Sb;simp;(with_reducible repeat' first|((first|apply ct|apply cz|apply cy)<;>intro h<;>try simp at h)|refine al ?_|simp)
 ·simp[bZ,ba,bf,a6];intro a;have:=a.1;omega
 ·refine qu (alL l) l.length _ ⟨Ψ,by simp[hz],by simp[qd],Ψ⟩ ⟨0,Ω,Ω,Ψ,rfl⟩ ?_;rintro k st ⟨i,hi,ab,g,rfl⟩ p q;simp;refine ct (fun d=>?_) (fun o=>?_)
  ·simp at d;obtain⟨b,f⟩:∃b,l[i]? =some b:=⟨_,cl d⟩;obtain⟨c,ax⟩:∃c,l[i-1]? =some c:=⟨_,cl Ω⟩;clear p q;simp[f,ax];((repeat' first|refine al ?_|refine aO (Ke _) ?_|refine aP (Ke _) ?_|simp[ax]|((first|apply ct|apply cz|apply cy)<;>intro h<;>try simp at h))<;>(try exact c3));all_goals first
    |(simp[bZ,ba,bf,a6];intro a;have J:=a.2 i d b f;have U:=J.2.1 c;have r:=J.2.2;first|omega|(have:=U Ω ax;omega)|(rw[r]at h;cases h)|simp_all)
    |(simp only[Ge];refine⟨l.length-(i+1),_,Ω,⟨Ψ,by simp[hz],by simp[qd],Ψ⟩,i+1,Ω,rfl,fun j s=>?_,rfl⟩
      by_cases e:j=i
      ·subst e;intro b0 n;rw[f]at n;cases n;refine⟨Ω,fun t u m=>?_,by assumption⟩;rw[ax]at m;cases m;omega
      ·exact g j Ω)
  ·simp at o;simp[bZ,ba,bf,a6];exact⟨Ω,fun j s=>g j Ω⟩
def nF(p:Nat->Bool)(i j:Nat):Nat:=if i<j then(if p ((i+j)/2)then nF p i ((i+j)/2)else nF p ((i+j)/2+1) j)else i
termination_by j-i
def alK(s:cS)(n g:Nat)(dI:List af)(p:Nat->Bool)(k:Nat)(st:bp):Prop:=∃i j:Nat,i<=j/\j<=n/\k=j-i/\nF p i j=nF p 0 n/\st=⟨[(1,.func g dI),(5,aj i),(6,aj j)],s.b,s.e,0,cJ s⟩
def aiK(s:cS)(a:eA s)(n g:Nat)(y:n<=1000000)(dI:List af)(ax:aH (aM s) dI)(dy:cf dI=dI)(p:Nat->Bool)(t:∀i:Nat,i<n->bG au g (aj i::dI) s fun r b=>r= .bool (p i)/\b=s):
  bG au 195 [aj n,.func g dI] s fun r b=>r=aj (nF p 0 n)/\b=s:=by
 refine bG.mk mixed a1 Tryz.func195 aox Ψ a.obj fun x e=>?_;unfold S8;simp;refine qu (alK s n g dI p) n _ (gn.ob a (by simp[ax]) aX aX) ⟨0,n,Ω,Ω,rfl,rfl,rfl⟩ ?_;rintro k st ⟨i,j,v,w,ab,d,rfl⟩ o e;clear o e;simp;refine ct (fun c=>?_) (fun f=>?_)
 ·simp at c;have hw:ig.wrap ((i:Int)+j)=i+j:=by simp[uh,pt,ug];omega
  obtain⟨m,hm⟩:∃m,m=(i+j)/2:=⟨_,rfl⟩;have q:Int.fdiv ((i:Int)+j) 2=(m:Int):=by rw[Int.fdiv_eq_ediv_of_nonneg _ Ω];omega
  have l:vu.wrap (m:Int)=m:=by rw[pw];omega
  have u:ig.bits=64:=rfl;simp[hw,dy,u,q,l];refine⟨by unfold tF;omega,?_⟩;refine CallDo.ob (t m Ω) a aX aX (by simp[ax]) ?_;rintro r b ⟨rfl,rfl⟩;refine⟨Same.refl _,?_⟩;simp[hF];(with_reducible repeat' first|((first|apply ct|apply cz|apply cy)<;>intro h<;>try simp at h)|refine al ?_|simp)
  ·simp only[Ge];refine⟨j-(m+1),_,Ω,gn.ob a (by simp[ax]) aX aX,m+1,j,Ω,Ω,rfl,?_,rfl⟩;rw[<-d];conv=>rhs;unfold nF
   simp[c,<-hm,h]
  ·simp only[Ge];refine⟨m-i,_,Ω,gn.ob a (by simp[ax]) aX aX,i,m,Ω,Ω,rfl,?_,rfl⟩;rw[<-d];conv=>rhs;unfold nF
   simp[c,<-hm,h]
 ·simp at f;have:nF p 0 n=i:=by rw[<-d];unfold nF;rw[if_neg Ω]
  rw[this];simp;refine c5.at s (.inl rfl) a (Same.refl s) aX aX ?_;simp[dc,ba,bf,a6]
def oy(l:List Bd)(v:Int):Int:=
 let i:=nF (fun i=>match l[i]? with|some b=>decide (v<=b.v)|none=>false) 0 l.length
 match l[i]? with|some b=>if b.v=v then i else-1|none=> -1
def aiQ(l:List Bd)(v:Int)(i:Nat)(b:Bd)(c:l[i]? =some b):bG au 196 [aj i,.ptr (.obj 101) 0,.ptr (.obj 102) 0] ⟨[(.obj 101,[bL (l.map Bd.e)]),(.obj 102,[aj v])],[]⟩ fun r d=>r= .bool (decide (v<=b.v))/\d=⟨[(.obj 101,[bL (l.map Bd.e)]),(.obj 102,[aj v])],[]⟩:=by have a:eA ⟨[(.obj 101,[bL (l.map Bd.e)]),(.obj 102,[aj v])],[]⟩:=(eA.of ⟨by intro m;simp[ae],by intro m;simp[ae]⟩ (by simp[aH,az,aM,ae]) (by simp[aH,az,aM,ae]));have f:i<l.length:=(fI.1 c).1;refine bG.mk mixed a1 Tryz.func196 anU Ψ a.obj fun g e=>?_;unfold Ss;simp[c];(repeat' first|refine al ?_|simp);refine c5.at _ (.inl rfl) a (Same.refl _) aX aX ?_;simp[dc,ba,bf,a6]
def vs(l:List Bd)(v:Int)(e:l.length<=1000000):bU au 139 [bL (l.map Bd.e),aj v] (aj (oy l v)):=by
 refine bH a1 Tryz.func139 anT fun g=>?_;unfold Sr;simp;have d:eA ⟨[(.obj 101,[bL (l.map Bd.e)]),(.obj 102,[aj v])],[]⟩:=(eA.of ⟨by intro m;simp[ae],by intro m;simp[ae]⟩ (by simp[aH,az,aM,ae]) (by simp[aH,az,aM,ae]));refine CallDo.ob (aiK ⟨[(.obj 101,[bL (l.map Bd.e)]),(.obj 102,[aj v])],[]⟩ d l.length 196 e [.ptr (.obj 101) 0,.ptr (.obj 102) 0] (by simp[aM]) Ψ (fun i=>match l[i]? with|some b=>decide (v<=b.v)|none=>false) fun i hi=>?_) d aX aX (by simp[aM]) ?_
 ·obtain⟨b,a⟩:∃b,l[i]? =some b:=⟨_,cl hi⟩;simp only[a];exact aiQ l v i b a
 rintro r f ⟨rfl,rfl⟩;refine⟨Same.refl _,?_⟩;unfold oy;generalize nF _ 0 l.length=i;cases a:l[i]? with
 |none=>
  have c:¬i<l.length:=by simpa using a
  simp[cK,c];exact cp
 |some b=>
  have c:i<l.length:=(fI.1 a).1;simp[cK,a,c];((repeat' first|refine al ?_|simp[a]|((first|apply ct|apply cz|apply cy)<;>intro h<;>try simp at h))<;>(try exact c3));all_goals simp[bZ,ba,bf,a6]
  all_goals simp_all
def tU(l:List Bd)(v:Int):bd T:=if oy l v<0 then none else(l[(oy l v).toNat]?).map (·.t)
def Vq(l:List Bd)(v:Int):oy l v<l.length/\ -1<=oy l v:=by
 unfold oy;simp only;split
 ·rename_i b a;have:=(fI.1 a).1;split<;>omega
 ·omega
def VU(l:List Bd)(v:Int)(e:l.length<=1000000)(o:bd T)(ar:o=tU l v):bG au 138 [aj v,.ptr (.obj 201) 0] ⟨[(.obj 201,[bL (l.map Bd.e)])],[]⟩ fun r f=>r= .tuple [(o.getD .nil).e,.bool o.isSome]/\f=⟨[(.obj 201,[bL (l.map Bd.e)])],[]⟩:=by
 have c:eA ⟨[(.obj 201,[bL (l.map Bd.e)])],[]⟩:=(eA.of ⟨by intro m;simp[ae],by intro m;simp[ae]⟩ (by simp[aH,az,aM,ae]) (by simp[aH,az,aM,ae]));have i:=(Vq l v).1;unfold tU at ar;refine bG.mk mixed a1 Tryz.func138 an2 Ψ c.obj fun j g=>?_;unfold SA;simp;(with_reducible repeat' first|((first|apply ct|apply cz|apply cy)<;>intro h<;>try simp at h)|refine al ?_|refine aO (vs l v e) ?_|refine aP (vs l v e) ?_|simp)
 ·obtain⟨b,d⟩:∃b,l[(oy l v).toNat]? =some b:=⟨_,cl Ω⟩;have a:o=some b.t:=by rw[ar,if_neg Ω,d];rfl
  simp[d];(with_reducible repeat' first|((first|apply ct|apply cz|apply cy)<;>intro h<;>try simp at h)|refine al ?_|simp[d]);refine c5.at _ (.inl rfl) c (Same.refl _) aX aX ?_;simp[dc,ba,bf,a6];simp[a]
 ·have a:o=none:=by rw[ar,if_pos h]
  refine c5.at _ (.inl rfl) c (Same.refl _) aX aX ?_;simp[dc,ba,bf,a6];simp[a]
def ajm(s:cS)(c:eA s)(g:Nat)(dI:List af)(ax:aH (aM s) dI)(dy:cf dI=dI)(f:Int->Int)(o:∀v,-1<=f v)(t:T)(j:∀v,t.occ v=true->bG au g (aj v::dI) s fun r e=>r=aj (f v)/\e=s):
  bG au 192 [t.e,.func g dI] s fun r e=>r=aj (ml f t)/\e=s:=by
 have d:∀m,ae (.loc m) s.b=none:=c.obj.1;have hu:∀m cs,cI (.loc m) cs s.b=s.b++[(.loc m,cs)]:=fun m cs=>kM (d m);have ar:∀m,aB.loc m∉cJ s:=kI c.obj;induction t with
 |pair a b q p=>
  have w:=JX f o a;have u:=JX f o b;refine bG.mk mixed a1 Tryz.func192 zX Ψ c.obj fun l k=>?_;unfold xa;simp[hu,ar,c6,d,dy];(repeat' first|refine al ?_|simp[hu,ar,c6,d]);refine CallDo.ob (q fun v i=>j v (by simp[T.occ,i])) c aX aX (by simp[ax]) ?_;rintro r e ⟨rfl,rfl⟩;refine⟨Same.refl _,?_⟩;simp[hF,jx,cK,d];(with_reducible repeat' first|((first|apply ct|apply cz|apply cy)<;>intro h<;>try simp at h)|refine al ?_|simp[hu,ar,c6,d])
  ·refine c5.at e (.inl rfl) c (Same.refl _) aX aX ?_;simp[dc,ba,bf,a6];simp[ml];omega
  ·rw[dy];refine CallDo.ob (p fun v i=>j v (by simp[T.occ,i])) c aX aX (by simp[ax]) ?_;rintro r s2 ⟨rfl,rfl⟩;refine⟨Same.refl _,?_⟩;simp[hF,jx,cK,d];(with_reducible repeat' first|((first|apply ct|apply cz|apply cy)<;>intro h<;>try simp at h)|refine al ?_|simp[hu,ar,c6,d]);refine c5.at s2 (.inl rfl) c (Same.refl _) aX aX ?_;simp[dc,ba,bf,a6];simp[ml];omega
 |var n=>refine bG.mk mixed a1 Tryz.func192 zX Ψ c.obj fun l k=>?_;unfold xa;simp[hu,ar,c6,d,dy];(repeat' first|refine al ?_|simp[hu,ar,c6,d]);refine CallDo.ob (j n (by simp[T.occ])) c aX aX (by simp[ax]) ?_;rintro r e ⟨rfl,rfl⟩;refine⟨Same.refl _,?_⟩;simp[hF,jx,cK,d];refine c5.at e (.inl rfl) c (Same.refl _) aX aX ?_;simp[dc,ba,bf,a6];simp[ml]
 |_=>refine bG.mk mixed a1 Tryz.func192 zX Ψ c.obj fun l k=>?_;unfold xa;simp[hu,ar,c6,d,dy];(repeat' first|refine al ?_|simp[hu,ar,c6,d]);refine c5.at s (.inl rfl) c (Same.refl _) aX aX ?_;simp[dc,ba,bf,a6];simp[ml]
def ai2(s:cS)(d:eA s)(g:Nat)(dI:List af)(ax:aH (aM s) dI)(dy:cf dI=dI)(f:Int->bd T)(t:T)(k:∀v,t.occ v=true->bG au g (aj v::dI) s fun r i=>r= .tuple [((f v).getD .nil).e,.bool (f v).isSome]/\i=s):
  bG au 194 [t.e,.func g dI] s fun r i=>r=(t.sub f).e/\i=s:=by
 have c:∀m,ae (.loc m) s.b=none:=d.obj.1;have l:∀m,ae (.loc m) s.e=none:=d.obj.2;have hu:∀m cs,cI (.loc m) cs s.b=s.b++[(.loc m,cs)]:=fun m cs=>kM (c m);have ar:∀m,aB.loc m∉cJ s:=kI d.obj;have e:∀m p r,cI (.loc m) p (s.b++r)=s.b++cI (.loc m) p r:=fun m p r=>CY (c m);induction t with
 |pair a b w u=>refine bG.mk mixed a1 Tryz.func194 Cq Ψ d.obj fun q o=>?_;unfold yX;simp[hu,ar,c6,c,l,dy,e];(repeat' first|refine al ?_|simp[hu,ar,c6,c,l,e]);refine hH.ob (w fun v j=>k v (by simp[T.occ,j])) d d (Same.refl _) aX aX (by simp[ax]) ?_;simp[hF,jx,cK,c,dy];refine hH.ob (u fun v j=>k v (by simp[T.occ,j])) d d (Same.refl _) aX aX (by simp[ax]) ?_;simp[hF,jx,cK,c,dy];(repeat' first|refine al ?_|refine aO (Kl _ _) ?_|refine aP (Kl _ _) ?_|simp);refine c5.at s (.inl rfl) d (Same.refl _) aX aX ?_;simp[dc,ba,bf,a6,c6,c];simp[T.sub]
 |var n=>
  refine bG.mk mixed a1 Tryz.func194 Cq Ψ d.obj fun q o=>?_;unfold yX;simp[hu,ar,c6,c,dy,e];(repeat' first|refine al ?_|simp[hu,ar,c6,c,e]);refine CallDo.ob (k n (by simp[T.occ])) d aX aX (by simp[ax]) ?_;rintro r i ⟨rfl,rfl⟩;refine⟨Same.refl _,?_⟩;simp[hF,jx,cK,c,hu,ar,c6];(with_reducible repeat' first|((first|apply ct|apply cz|apply cy)<;>intro h<;>try simp at h)|refine al ?_|refine aO (vq _) ?_|refine aP (vq _) ?_|simp[hu,ar,c6,c,e]);all_goals refine c5.at i (.inl rfl) d (Same.refl _) aX aX ?_
  all_goals simp[dc,ba,bf,a6,c6,c]
  all_goals cases x:f n<;>simp_all[T.sub]
 |_=>refine bG.mk mixed a1 Tryz.func194 Cq Ψ d.obj fun q o=>?_;unfold yX;simp[hu,ar,c6,c,dy,e];(with_reducible repeat' first|((first|apply ct|apply cz|apply cy)<;>intro h<;>try simp at h)|refine al ?_|simp[hu,ar,c6,c,e]);refine c5.at s (.inl rfl) d (Same.refl _) aX aX ?_;simp[dc,ba,bf,a6,c6,c];simp[T.sub]
def pF(l:List Bd):cS:=⟨[(.obj 201,[bL (l.map Bd.e)])],[]⟩
def sU(l:List Bd):cS:=⟨[(.obj 201,[bL (l.map Bd.e)]),(.obj 202,[.func 138 [.ptr (.obj 201) 0]])],[]⟩
def Dd(l:List Bd):eA (pF l):=by unfold pF;exact(eA.of ⟨by intro m;simp[ae],by intro m;simp[ae]⟩ (by simp[aH,az,aM,ae]) (by simp[aH,az,aM,ae]))
def Ky(l:List Bd):eA (sU l):=by unfold sU;exact(eA.of ⟨by intro m;simp[ae],by intro m;simp[ae]⟩ (by simp[aH,az,aM,ae]) (by simp[aH,az,aM,ae]))
def vW(l:List Bd)(v:Int):Int:=match tU l v with|some x=>gr x.tm 5000|none=>1
def aiC(l:List Bd)(v:Int): -1<=vW l v:=by
 unfold vW;split
 ·rename_i x _;rcases E2 x.tm 5000 with h|h<;>omega
 ·omega
def acY(t:T):bU au 131 [t.e,aj 5000] (aj (gr t.tm 5000)):=by have:=acX t.tm.sz t.tm (dP _) 5000 Ω;rwa[mA]at this
def ajj(l:List Bd)(v:Int)(c:l.length<=1000000):bG au 193 [aj v,.ptr (.obj 202) 0] (sU l) fun r b=>r=aj (vW l v)/\b=sU l:=by
 have a:=Ky l;unfold sU at a⊢;refine bG.mk mixed a1 Tryz.func193 an4 Ψ a.obj fun f d=>?_;unfold SC;simp;refine CallDo.ob (VU l v c _ rfl) (Dd l) aX aX (by simp[aM]) ?_;rintro r b ⟨rfl,rfl⟩;refine⟨Same.refl _,?_⟩;simp[cK];(with_reducible repeat' first|((first|apply ct|apply cz|apply cy)<;>intro h<;>try simp at h)|refine al ?_|refine aO (acY _) ?_|refine aP (acY _) ?_|simp);all_goals refine c5.at _ (.inl rfl) a (Same.refl _) aX aX ?_
 all_goals simp[dc,ba,bf,a6]
 all_goals unfold vW
 all_goals cases e:tU l v<;>simp_all
def Fo(l:List Bd)(t:T):T:=t.sub (tU l)
def vg(l:List Bd)(t:T):Bool:=decide (ml (vW l) t<=5000)
def aji(l:List Bd)(t:T)(c:l.length<=1000000):bG au 137 [t.e,.func 138 [.ptr (.obj 201) 0]] (pF l) fun r b=>r= .tuple [(if vg l t then Fo l t else .nil).e,.bool (vg l t)]/\b=pF l:=by
 have a:=Dd l;unfold pF at a⊢;refine bG.mk mixed a1 Tryz.func137 an3 Ψ a.obj fun f e=>?_;unfold SB;simp;refine CallDo.ob (ajm (sU l) (Ky l) 193 [.ptr (.obj 202) 0] (by simp[aM,sU]) Ψ (vW l) (aiC l) t fun v d=>ajj l v c) (Ky l) (by unfold sU;exact aX) (by unfold sU;exact aX) (by simp[aM,sU]) ?_;rintro r b ⟨rfl,rfl⟩;refine⟨Same.refl _,?_⟩;unfold sU;simp[cK];(with_reducible repeat' first|((first|apply ct|apply cz|apply cy)<;>intro h<;>try simp at h)|refine al ?_|simp)
 ·refine c5.at _ (.inl rfl) a (Same.refl _) aX aX ?_;simp[dc,ba,bf,a6];have:vg l t=false:=by simp[vg];omega
  simp[this]
 ·refine CallDo.ob (ai2 (pF l) (Dd l) 138 [.ptr (.obj 201) 0] (by simp[aM,pF]) Ψ (tU l) t fun v d=>VU l v c _ rfl) (Dd l) (by unfold pF;exact aX) (by unfold pF;exact aX) (by simp[aM,pF]) ?_;rintro r b ⟨rfl,rfl⟩;refine⟨Same.refl _,?_⟩;unfold pF;simp[cK];refine c5.at _ (.inl rfl) a (Same.refl _) aX aX ?_;simp[dc,ba,bf,a6];have:vg l t=true:=by simp[vg];omega
  simp[this,Fo]
def asX(l:List Bd)(t:T)(a:l.length<=1000000):bU au 69 [bL (l.map Bd.e),t.e] (.tuple [(if vg l t then Fo l t else .nil).e,.bool (vg l t)]):=by refine bH a1 Tryz.func69 an1 fun c=>?_;unfold Sz;simp;refine CallDo.ob (aji l t a) (Dd l) (by unfold pF;exact aX) (by unfold pF;exact aX) (by simp[aM,pF]) ?_;rintro r b ⟨rfl,rfl⟩;refine⟨Same.refl _,?_⟩;unfold pF;simp[cK];simp[bZ,ba,bf,a6]
def Ql(p:Nat->Bool)(n:Nat)(hm:∀k bt,k<=bt->bt<n->p k=true->p bt=true):∀(m i j:Nat),j-i<=m->i<=j->j<=n->(∀k,k<i->p k=false)->(∀k,j<=k->k<n->p k=true)->
  (i<=nF p i j/\nF p i j<=j)/\(∀k,k<nF p i j->p k=false)/\(∀k,nF p i j<=k->k<n->p k=true)
 |m,i,j,h,f,e,J,U=>by
  rw[nF];split
  ·rename_i g;obtain⟨m,rfl⟩:∃d,m=d+1:=⟨m-1,Ω⟩;split
   ·rename_i a;have:=Ql p n hm m i ((i+j)/2) Ω Ω Ω J (fun k ab c=>hm _ k ab c a);exact⟨⟨this.1.1,Ω⟩,this.2⟩
   ·rename_i a;have:=Ql p n hm m ((i+j)/2+1) j Ω Ω e (fun k ab=>by
     by_cases b:p k=true
     ·exact absurd (hm k ((i+j)/2) Ω Ω b) a
     ·simpa using b) U
    exact⟨⟨Ω,this.1.2⟩,this.2⟩
  ·obtain rfl:i=j:=Ω
   exact⟨⟨dP _,dP _⟩,J,U⟩
def Pl{l:List Bd}(F:jA l)(v:Int):tU l v=dH l v:=by
 have d:∀(i j:Nat) (x y:Bd),i<j->l[i]? =some x->l[j]? =some y->x.v<y.v:=by intro i j x y A H K;obtain⟨J,rfl⟩:=fI.1 H;obtain⟨U,rfl⟩:=fI.1 K;exact q6.1 F i j J U A
 obtain⟨p,o⟩:∃p:Nat->Bool,p=(fun i=>match l[i]? with|some b=>decide (v<=b.v)|none=>false):=⟨_,rfl⟩;have c:∀i b,l[i]? =some b->p i=decide (v<=b.v):=fun i b a=>by rw[o];simp[a]
 have hm:∀k bt,k<=bt->bt<l.length->p k=true->p bt=true:=by
  intro k bt ab B h;have q:l[k]? =some l[k]:=cl Ω;have t:l[bt]? =some l[bt]:=cl B;rw[c k _ q]at h;rw[c bt _ t];simp only[gy]at h⊢;rcases Nat.lt_or_eq_of_le ab with z|rfl
  ·have:=d k bt _ _ z q t;omega
  ·exact h
 obtain⟨⟨_,hle⟩,hbef,haft⟩:=Ql p l.length hm l.length 0 l.length Ω Ω (dP _) (fun k ab=>Ω) (fun k J U=>Ω);have m:oy l v=(match l[nF p 0 l.length]? with|some b=>if b.v=v then((nF p 0 l.length:Nat):Int)else-1|none=> -1):=by rw[o];rfl
 generalize nF p 0 l.length=r at hle hbef haft m;by_cases hex:∃(k:Nat) (b:Bd),l[k]? =some b/\b.v=v
 ·obtain⟨k,b,a,u⟩:=hex;have n:k<l.length:=(fI.1 a).1;have E:r<=k:=by
   rcases Nat.lt_or_ge k r with h|h
   ·have:=hbef k h;rw[c k b a]at this;simp at this;omega
   ·exact h
  have s:l[r]? =some l[r]:=cl Ω;have w:=haft r (dP _) Ω;rw[c r _ s]at w;simp only[gy]at w;have f:r=k:=by
   rcases Nat.lt_or_eq_of_le E with h|h
   ·have:=d r k _ _ h s a;omega
   ·exact h
  subst f;have g:oy l v=r:=by rw[m,a];simp[u]
  have J:tU l v=some b.t:=by unfold tU;rw[g,if_neg Ω];simp[a]
  have U:l.find? (fun b=>b.v==v)=some b:=by
   rw[List.find?_eq_some_iff_getElem];refine⟨by simp[u],r,n,?_,fun j G=>?_⟩
   ·rw[cl n]at a;simpa using a
   ·have:=d j r l[j] b G (cl Ω) a;simp;omega
  rw[J];simp[dH,U]
 ·have U:l.find? (fun b=>b.v==v)=none:=by rw[List.find?_eq_none];intro b a;obtain⟨k,ab,rfl⟩:=List.mem_iff_getElem.1 a;simp;intro e;exact hex ⟨k,l[k],cl ab,e⟩
  have g:oy l v= -1:=by
   rw[m];split
   ·rename_i b a;rw[if_neg (fun e=>hex ⟨r,b,a,e⟩)]
   ·rfl
  unfold tU;rw[g];simp[dH,U]
def Vr{l:List Bd}(a:jA l)(v:Int):oy l v<0↔dH l v=none:=by
 rw[<-Pl a v];unfold tU;have J:=Vq l v;by_cases h:oy l v<0
 ·simp[h]
 ·simp only[h,if_false,false_iff];intro e;rw[Option.map_eq_none_iff,List.getElem?_eq_none_iff]at e;omega
def Bh(s:List Bd):Prop:= ∀b∈s,b.t.fit=true
def aiB{l:List Bd}(a:jA l)(h:Bh l)(v:Int):vW l v=(cQ l v).size:=by
 unfold vW cQ;rw[Pl a];cases b:dH l v with
 |none=>simp[T.size]
 |some x=>have:=h _ (kP b);simp only[T.fit,cP,gy]at this;simp only[mr];rw[IU,if_pos ⟨this.1,Ω⟩]
def aq3{l:List Bd}(e:jA l)(h:Bh l)(t:T):ml (vW l) t=cut (t.ap (cQ l)).size:=by
 induction t with
 |var n=>simp only[ml,aiB e h,T.ap];rfl
 |pair a b d c=>have f:=T.size_pos (b.ap (cQ l));simp only[ml,d,c,T.ap,T.size];unfold cut;(repeat' split)<;>omega
 |_=>simp[ml,T.ap,T.size,cut]
def apB{l:List Bd}(a:jA l)(h:Bh l)(t:T):vg l t=decide ((t.ap (cQ l)).size<=5000):=by unfold vg;rw[aq3 a h];unfold cut;split<;>simp<;>omega
def apC{l:List Bd}(a:jA l)(t:T):Fo l t=t.ap (cQ l):=by unfold Fo;rw[abY];exact vJ fun v _=>by rw[Pl a];rfl
def Km(l:List Bd)(t:T)(b:l.length<=1000000)(a:jA l)(h:Bh l):bU au 69 [bL (l.map Bd.e),t.e] (.tuple [(if(t.ap (cQ l)).size<=5000 then t.ap (cQ l)else .nil).e,.bool (decide ((t.ap (cQ l)).size<=5000))]):=by have:=asX l t b;rw[apB a h,apC a]at this;simpa using this
def Yt(l:List (Int×T)):List af:=kZ (l.map fun x=>(x.1,x.2.e))
@[simp]def awo:Yt []=kZ []:=rfl
@[simp]def awY(l:List (Int×T)):gY (Yt l)=false:=rfl
end
end Go.Proofs.YtahlgcidhnjlbaaGreat
namespace Go.Proofs
section
open Go.Shelf
def Tryz.lays191_ren:Go.Shelf.Ren:=⟨fun|191=>191|189=>220|125=>213|257=>250|128=>236|129=>237|294=>261|295=>262|296=>263|297=>264|298=>265|299=>266|216=>267|300=>268|301=>269|328=>272|329=>273|330=>274|331=>275|332=>276|215=>277|343=>278|n=>n,fun|28=>76|0=>0|3=>3|46=>192|51=>206|53=>208|4=>4|183=>230|182=>229|131=>214|5=>5|9=>9|218=>238|222=>226|228=>241|229=>236|n=>n,fun|n=>n⟩
def Tryz.lays191:Go.Proofs.Lays.n191 au Tryz.lays191_ren:={
 mixed:=bi
 f125:=Tryz.func213.trans (fy some bi)
 f128:=Tryz.func236.trans (fy some bi)
 f129:=Tryz.func237.trans (fy some bi)
 f189:=Tryz.func220.trans (fy some bi)
 f191:=Tryz.func191.trans (fy some bi)
 f215:=Tryz.func277.trans (fy some bi)
 f216:=Tryz.func267.trans (fy some bi)
 f257:=Tryz.func250.trans (fy some bi)
 f294:=Tryz.func261.trans (fy some bi)
 f295:=Tryz.func262.trans (fy some bi)
 f296:=Tryz.func263.trans (fy some bi)
 f297:=Tryz.func264.trans (fy some bi)
 f298:=Tryz.func265.trans (fy some bi)
 f299:=Tryz.func266.trans (fy some bi)
 f300:=Tryz.func268.trans (fy some bi)
 f301:=Tryz.func269.trans (fy some bi)
 f328:=Tryz.func272.trans (fy some bi)
 f329:=Tryz.func273.trans (fy some bi)
 f330:=Tryz.func274.trans (fy some bi)
 f331:=Tryz.func275.trans (fy some bi)
 f332:=Tryz.func276.trans (fy some bi)
 f343:=Tryz.func278.trans (fy some bi)
 t0:=Tryz.underlying0
 a0:=Tryz.isAgg0
 z0:=Tryz.sizeOf0
 v0:=Tryz.zeroValue0
 t3:=Tryz.underlying3
 a3:=Tryz.isAgg3
 z3:=Tryz.sizeOf3
 v3:=Tryz.zeroValue3
 t4:=Tryz.underlying4
 a4:=Tryz.isAgg4
 z4:=Tryz.sizeOf4
 v4:=Tryz.zeroValue4
 t5:=Tryz.underlying5
 a5:=Tryz.isAgg5
 z5:=Tryz.sizeOf5
 v5:=Tryz.zeroValue5
 t9:=Tryz.underlying9
 a9:=Tryz.isAgg9
 z9:=Tryz.sizeOf9
 v9:=Tryz.zeroValue9
 t28:=Tryz.underlying76
 a28:=Tryz.isAgg76
 z28:=Tryz.sizeOf76
 v28:=Tryz.zeroValue76
 t46:=Tryz.underlying192
 a46:=Tryz.isAgg192
 z46:=Tryz.sizeOf192
 v46:=Tryz.zeroValue192
 t51:=Tryz.underlying206
 a51:=Tryz.isAgg206
 z51:=Tryz.sizeOf206
 v51:=Tryz.zeroValue206
 t53:=Tryz.underlying208
 a53:=Tryz.isAgg208
 z53:=Tryz.sizeOf208
 v53:=Tryz.zeroValue208
 t131:=Tryz.underlying214
 a131:=Tryz.isAgg214
 z131:=Tryz.sizeOf214
 v131:=Tryz.zeroValue214
 t182:=Tryz.underlying229
 a182:=Tryz.isAgg229
 z182:=Tryz.sizeOf229
 v182:=Tryz.zeroValue229
 t183:=Tryz.underlying230
 a183:=Tryz.isAgg230
 z183:=Tryz.sizeOf230
 v183:=Tryz.zeroValue230
 t218:=Tryz.underlying238
 a218:=Tryz.isAgg238
 z218:=Tryz.sizeOf238
 v218:=Tryz.zeroValue238
 t222:=Tryz.underlying226
 a222:=Tryz.isAgg226
 z222:=Tryz.sizeOf226
 v222:=Tryz.zeroValue226
 t228:=Tryz.underlying241
 a228:=Tryz.isAgg241
 z228:=Tryz.sizeOf241
 v228:=Tryz.zeroValue241
 t229:=Tryz.underlying236
 a229:=Tryz.isAgg236
 z229:=Tryz.sizeOf236
 v229:=Tryz.zeroValue236}
end
end Go.Proofs

namespace Go.Proofs.YtahlgcidhnjlbaaGreat
section
open Go Go.Pv
def e4(xs:List Int):List af:=xs.map (af.int .i64)
def abf{w:World}{ν:bc}:∀{xs:List Int} {us:List Value},dw w ν 1 (e4 xs) us->us=xs.map (Value.int .i64)
 |[],us,h=>by simpa[e4,dw]using h
 |x::xs,us,h=>by simp only[e4,gV,dw]at h;obtain⟨u,a,rfl,⟨J,_,_⟩,U⟩:=h;simp only[aV]at J;subst J;rw[abf U];rfl
def Xr(w:World)(ν:bc):∀xs:List Int,dw w ν 1 (e4 xs) (xs.map (Value.int .i64))
 |[]=>by simp[e4,dw]
 |x::xs=>by simp only[e4,gV,dw];exact⟨.int .i64 x,_,rfl,⟨by simp[aV],rfl,by intro c ax;simp[pz]at ax;subst ax;rfl⟩,Xr w ν xs⟩
def oo(K:Nat)(xs:List Int):cS:=⟨[],[(.obj K,⟨xs.length,3,1,some (e4 xs)⟩)]⟩
def u3(S:aB->Prop)(xs:List Int):aH S (e4 xs):=by
 induction xs with
 |nil=>simp[e4,aH]
 |cons x r a=>simp only[e4,gV,aH,az];exact⟨trivial,a⟩
def KB(K:Nat)(xs:List Int):eA (oo K xs):=by unfold oo;refine eA.of ⟨by intro m;simp[ae],by intro m;simp[ae]⟩ Ψ ?_;intro x a ys b;simp at a;subst a;simp at b;subst b;exact u3 _ xs
def sJ(xs:List Int):List Int:=xs.mergeSort fun x y=>decide (x<=y)
def abN(xs:List Int):(sJ xs).length=xs.length:=List.length_mergeSort xs
def ajr(K:Nat)(xs:List Int)(av:xs.length<=1000000):bG au 191 [.row 1 (.obj K) xs.length] (oo K xs) fun r O=>r= .tuple []/\O=oo K (sJ xs):=by
 refine bG.sem (KB K xs).obj fun w ν bm E f=>?_;refine .inl ⟨⟨Tryz.f191,Tryz.func191,by kernel_rfl,by kernel_rfl⟩,?_⟩;have b:=f.slot 0;simp only[jb,Pv.get,if_true]at b;have l:ae (.obj K) (oo K xs).e=some ⟨xs.length,3,1,some (e4 xs)⟩:=by simp[oo,ae]
 obtain⟨v,us,x,m,Z,G⟩:=f.good.own (.obj K) _ l;obtain⟨X,B,V⟩:=G _ rfl;have z:=abf B;subst z;simp only[aV]at b;obtain⟨⟨R,Q,y⟩,_,n',u,c,aC,M⟩:=b;rw[x]at c;simp only[dU,jn]at c;obtain⟨rfl,rfl⟩:=c;have s:=M rfl;have d:bm= #[v]:=by
  have J:bm.size=1:=by simpa using E
  apply Array.ext (by simpa using J);intro i U p;simp at p;subst p;rw[<-s];simp[Array.getD,J]
 have H:v≠ .slice none 0 0:=by rw[<-s,y];simp
 obtain⟨g,cap,rfl,_,A,W,N,D9,S⟩:=Lib.holds_of_ownsRow m H;have ax:=Any.sort_Ints Tryz.lays191 g 0 cap xs w S A Ω;subst d;refine ax.mono ?_;rintro e w' ⟨rfl,n,os,rfl⟩;have a:=abN xs;have h:=Lib.ownsRow_putRow (q:=n) (k:=xs.length) (ys:=sJ xs) m a (dP _);rw[iu Ω]at h;obtain⟨L,Y,_⟩:=f.setRowM (w':=Sort.putRow (Value.int .i64) (Sort.ahead w n) g 0 (sJ xs).toArray) l rfl x (bl:=g) rfl (v':= .slice (some ⟨g,0,none⟩) xs.length cap) rfl (xs':=e4 (sJ xs)) (us:=(sJ xs).map (Value.int .i64)) (.inl ⟨by simp[e4,a],rfl⟩) rfl rfl rfl
  (fun j P=>by simp[Sort.putRow,Sort.mapBlock,Sort.ahead,Array.getElem?_modify,Ne.symm P]) (by simp[Sort.putRow,Sort.mapBlock,Sort.ahead]) (by simpa[e4,a]using h) (Xr _ _ _)
 have F:=L.grown (w':=Sort.grow (Sort.putRow (Value.int .i64) (Sort.ahead w n) g 0 (sJ xs).toArray) os) ⟨rfl,rfl,rfl,Ψ,fun k ab _=>Sort.heap_grow_old _ _ ab⟩;refine⟨_,_,_,_,.tuple [],oo K (sJ xs),rfl,F,by simp[aV,c7],by simp[oo,lV],?_,?_,?_,(KB K _).obj,by simp[az,aH],rfl,rfl⟩
 ·simp[oo,lV,aM,ae]
 ·intro k cs ab;simp[oo,ae]at ab
 ·intro k o ab;have hm:=u6 ab;simp[oo]at hm;obtain⟨rfl,rfl⟩:=hm;refine⟨by simp[oo,ae,cI,e4,a],.inr (by simp[ab]),fun ys t=>?_⟩;simp at t;subst t;exact u3 _ _
def pM(l:List Int):List af:=kZ (l.map fun x=>(x,.bool true))
def n2(S:aB->Prop)(l:List Int):aH S (pM l):=by
 have:∀l:List Int,aH S (flat (l.map fun x=>(x,.bool true))):=by
  intro l;induction l with
  |nil=>simp[flat,aH]
  |cons x r a=>simp[flat,aH,a,az]
 simp[pM,kZ,aH,this,az]
def KP(v:Int)(l:List Int):List Int:=if v∈l then l else l++[v]
def RB(k:Int):∀l:List Int,qn k (.bool true) (l.map fun x=>(x,af.bool true))=if k∈l then some (l.map fun x=>(x,af.bool true))else none
 |[]=>rfl
 |i::r=>by
  by_cases h:k=i
  ·simp[qn,h]
  ·by_cases U:k∈r<;>simp[qn,h,U,RB k r]
@[simp]def awE(k:Int)(l:List Int):qR .i (aj k) (.bool true) (pM l)=some (pM (KP k l)):=by
 simp only[pM,Y3,Gt,RB,KP];split<;>rename_i h
 ·split at h
  ·simp at h;subst h;simp[*]
  ·cases h
 ·split at h
  ·cases h
  ·simp[*]
@[simp]def atS:pM []=kZ []:=rfl
@[simp]def awW(l:List Int):gY (pM l)=false:=rfl
@[simp]def aw4(m:aB)(l:List Int):Ae m (pM l)=some (cc l.length [] m):=by simp[pM]
def amB(f:aB->bd (List af))(gk mk:aB)(n:Nat)(seen:List Nat)(b:Nat)(l:List Int)(x:Int)(hi:f gk=some (cc n (seen++[b]) mk))(hm:f mk=some (pM l))(c:n=l.length)(a:l[b]? =some x):qP f (.ptr gk 0)=some (True,.tuple [aj x,.bool true]):=by rw[YE f gk mk n seen b _ hi hm (by simpa using c)];simp[a]
def afz{st:bp}{d:Nat}{K:bp->Prop}{gk mk:aB}{n:Nat}{seen:List Nat}{l:List Int}(hi:ae gk st.b=some (cc n seen mk))(hm:ae mk st.b=some (pM l))(g:n=l.length)
  (J:(∀b,b<l.length->b∈seen)->K {st with t:=Pv.put d (.tuple [.bool false]) st.t}) (U:∀b x,l[b]? =some x->b∉seen->K {st with t:=Pv.put d (.tuple [.bool true,aj x,.bool true]) st.t,b:=cI gk (cc n (seen++[b]) mk) st.b}):
  uH st d (.ptr gk 0) K:=by
 refine UJ hi hm (by simpa using g) (fun h=>J fun b a=>h b Ω) (fun b k v a f=>?_);simp only[List.getElem?_map,hr]at a;obtain⟨x,e,c⟩:=a;simp only[jn]at c;obtain⟨rfl,rfl⟩:=c;exact U b x e f
def _root_.Go.Pv.T.fold{α:Type}(f:Int->α->α):T->α->α
 | .var n,a=>f n a
 | .pair x y,a=>y.fold f (x.fold f a)
 |_,a=>a
def VH{α:Type}(S:α->cS)(dF:∀a,eA (S a))(e3:∀a b,Same (S a) (S b))(g:Nat)(dI:List af)(ax:∀a,aH (aM (S a)) dI)(dy:cf dI=dI)(f:Int->α->α)(l:∀v a,bG au g (aj v::dI) (S a) fun r e=>r= .tuple []/\e=S (f v a))(t:T):
  ∀a,bG au 134 [t.e,.func g dI] (S a) fun r e=>r= .tuple []/\e=S (t.fold f a):=by
 have c:∀a m,ae (.loc m) (S a).b=none:=fun a=>(dF a).obj.1;have hu:∀a m cs,cI (.loc m) cs (S a).b=(S a).b++[(.loc m,cs)]:=fun a m cs=>kM (c a m);have ar:∀a m,aB.loc m∉cJ (S a):=fun a=>kI (dF a).obj;induction t with
 |pair x y k j=>intro a;have d:=dF a;refine bG.mk mixed a1 Tryz.func134 Cp Ψ d.obj fun i h=>?_;unfold yW;simp[hu,ar,c6,c,dy];(repeat' first|refine al ?_|simp[hu,ar,c6,c]);refine CallDo.ob (k a) d aX aX (by simp[ax]) ?_;rintro r e ⟨rfl,rfl⟩;refine⟨e3 _ _,?_⟩;simp[hF,jx,cK,c];(repeat' first|refine al ?_|simp[hu,ar,c6,c]);rw[dy];refine CallDo.ob (j (x.fold f a)) (dF (x.fold f a)) aX aX (by simp[ax]) ?_;rintro r e ⟨rfl,rfl⟩;refine⟨e3 _ _,?_⟩;simp[hF,jx,cK,c];refine c5.at (S (y.fold f (x.fold f a))) (.inr rfl) (dF _) (e3 _ _) aX aX ?_;simp[dc,ba,bf,a6];simp[T.fold]
 |var n=>intro a;have d:=dF a;refine bG.mk mixed a1 Tryz.func134 Cp Ψ d.obj fun i h=>?_;unfold yW;simp[hu,ar,c6,c,dy];(repeat' first|refine al ?_|simp[hu,ar,c6,c]);refine CallDo.ob (l n a) d aX aX (by simp[ax]) ?_;rintro r e ⟨rfl,rfl⟩;refine⟨e3 _ _,?_⟩;simp[hF,jx,cK,c,c6];refine c5.at (S (f n a)) (.inr rfl) (dF _) (e3 _ _) aX aX ?_;simp[dc,ba,bf,a6];simp[T.fold]
 |_=>intro a;have d:=dF a;refine bG.mk mixed a1 Tryz.func134 Cp Ψ d.obj fun i h=>?_;unfold yW;simp[hu,ar,c6,c,dy];(repeat' first|refine al ?_|simp[hu,ar,c6,c]);refine c5.at (S a) (.inr rfl) d (Same.refl _) aX aX ?_;simp[dc,ba,bf,a6];simp[T.fold]
def vD(l:List Int):cS:=⟨[(.obj 304,pM l)],[]⟩
def Rk(l:List Int):eA (vD l):=by unfold vD;exact eA.of ⟨by intro m;simp[ae],by intro m;simp[ae]⟩ (by simp[n2,aH,az,aM,ae]) Ψ
def K2:C:=(aa [cW 1 0,bz 2 false] (.seq (.seq (.fz false 1 (.region [ay 6 1 1,cT 7 158 6,cM 8 7])) (aW 8 (aa [bz 2 false] .ret) .skip)) (.seq (aa [ay 9 1 1,cw 10 9,bP 11 0] (gw 12 11 10 (.seq (.block 1 (aa [ck 13 5 9 11,bg 14 5 13,dG 4 ks,bV 5 4 14] (aa [dt (.alloc 5 (some 731) (.bool false)),dt (.store 1 (.t 5) (.c (.bool true)))] (aa [hq 15 1 4 4,bg 16 4 15,cd 17 (.mkf 159 [.t 1,.t 5]),b8 18 134 16 17] (aa [ay 19 1 5,cM 20 19,I 21 20,aw 21 false (hq 22 1 4 4),aw 21 false (aF 23 0 1 22),aw 21 false (ay 24 1 23),aw 21 false (aU 25 .eql 24 1),cg 21 false 26 25,aw 26 true (hq 27 1 4 4),aw 26 true (aF 28 1 1 27),aw 26 true (ay 29 1 28),aw 26 true (aF 30 0 1 4),aw 26 true (ay 31 1 30),aw 26 true (bu 32 .geq 29 31),aw 21 false (ei 33 26 32),dr 34 21 33] (aW 34 (aa [bz 2 false] .ret) .skip)))))) (.region [aU 35 .add 11 1,I 11 35])))) (aa [bz 2 true] .ret))))
def K4:C:=(aa [ay 4 1 1,I 5 0,b8 6 139 4 5,aU 7 .geq 6 0] (aW 7 (.region [dt (.store 1 (.t 2) (.c (.bool false)))]) .skip))
def R1:C:=(aa [fo 4 5,bz 5 false] (.seq (aa [I 8 0,cT 9 86 8,cM 10 9,I 11 10,cg 11 false 12 1,aw 11 false (cT 13 86 12),aw 11 false (cM 14 13),dr 15 11 14] (aW 15 (aa [fo 4 5,bz 5 false] .ret) .skip)) (aa [I 17 1,cT 18 205 17,I 16 18,cX 19 0 16,cX 20 1 16,I 6 19,I 7 20] (aa [I 21 0,I 22 6,I 23 7,dS 24 186 [.t 21,.t 22,.t 23],cX 25 0 24,cX 26 1 24,I 4 25,I 5 26] .ret))))
def R6:C:=(aa [fo 4 5] (.seq (aa [I 8 0,cT 9 86 8,cM 10 9,I 11 10,cg 11 false 12 1,aw 11 false (cT 13 86 12),aw 11 false (cM 14 13),dr 15 11 14] (aW 15 (aa [fo 4 5] .ret) .skip)) (aa [e1 16 5 113 [],I 5 16] (.seq (aa [I 17 1,cw 18 17,bP 19 0] (gw 20 19 18 (.seq (.block 1 (aa [ck 21 5 17 19,bg 22 5 21,dG 7 ks,bV 5 7 22] (aa [I 23 0,aF 24 0 1 7,ay 25 1 24,b8 26 139 23 25,aU 27 .lss 26 0] (aW 27 (.drawn true 39 [I 28 5,aF 29 0 1 7,ay 30 1 29,hq 31 1 4 7,bg 32 4 31,cT 33 143 32,jy 34 ks [(0,1,(.t 30)),(1,4,(.t 33))],e1 35 5 113 [.t 34],h0 36 5 113 28 35,I 5 36]) .skip)))) (.region [aU 37 .add 19 1,I 19 37])))) (aa [I 38 5,I 4 38] .ret)))))
def K7:C:=(aa [fo 2 5] (aa [e1 6 5 113 [],I 3 6] (.seq (aa [I 7 0,cw 8 7,bP 9 0] (gw 10 9 8 (.seq (.block 1 (aa [ck 11 5 7 9,bg 12 5 11,dG 5 ks,bV 5 5 12] (.drawn true 24 [I 13 3,aF 14 0 1 5,ay 15 1 14,hq 16 1 4 5,bg 17 4 16,cT 18 143 17,jy 19 ks [(0,1,(.t 15)),(1,4,(.t 18))],e1 20 5 113 [.t 19],h0 21 5 113 13 20,I 3 21]))) (.region [aU 22 .add 9 1,I 9 22])))) (aa [I 23 3,I 2 23] .ret))))
def K8:C:=(aa [bz 4 false] (.seq (aa [I 6 0,cw 7 6,I 8 1,cw 9 8,bu 10 .neq 7 9] (aW 10 (aa [bz 4 false] .ret) .skip)) (.seq (aa [I 11 0,cw 12 11,bP 13 0] (gw 14 13 12 (.seq (.block 1 (aa [I 15 13,I 5 15] (.seq (.drawn true 42 [I 16 0,I 17 5,ck 18 5 16 17,aF 19 0 1 18,ay 20 1 19,I 21 1,I 22 5,ck 23 5 21 22,aF 24 0 1 23,ay 25 1 24,bu 26 .neq 20 25,I 27 26,cg 27 false 28 0,cg 27 false 29 5,aw 27 false (ck 30 5 28 29),aw 27 false (hq 31 1 4 30),aw 27 false (bg 32 4 31),cg 27 false 33 1,cg 27 false 34 5,aw 27 false (ck 35 5 33 34),aw 27 false (hq 36 1 4 35),aw 27 false (bg 37 4 36),aw 27 false (b8 38 142 32 37),aw 27 false (cM 39 38),dr 40 27 39]) (aW 40 (aa [bz 4 false] .ret) .skip)))) (.region [aU 41 .add 13 1,I 13 41])))) (aa [bz 4 true] .ret))))
def Sq:C:=(aa [fo 2 4,fo 3 4] (aa [e1 8 4 30 [],I 4 8] (aa [e1 9 4 30 [],I 5 9] (.seq (aa [I 10 0,cw 11 10,bP 12 0] (gw 13 12 11 (.seq (.block 1 (aa [ck 14 5 10 12,bg 15 5 14,dG 7 ks,bV 5 7 15] (aa [I 16 4,aF 17 0 1 7,ay 18 1 17,cT 19 116 18,e1 20 4 30 [.t 19],h0 21 4 30 16 20,I 4 21] (.region [I 22 5,hq 23 1 4 7,bg 24 4 23,e1 25 4 30 [.t 24],h0 26 4 30 22 25,I 5 26])))) (.region [aU 27 .add 12 1,I 12 27])))) (aa [I 28 4,I 29 5,I 2 28,I 3 29] .ret)))))
def Sw:C:=(aa [bP 4 0] (.seq (aa [bP 5 0] (.block 0 (.loop (.seq (aa [I 8 5,I 9 0,cw 10 9,bu 11 .lss 8 10,I 12 11,cg 12 true 13 5,cg 12 true 14 1,aw 12 true (cw 15 14),aw 12 true (bu 16 .lss 13 15),ei 17 12 16] (aW 17 .skip (.exit 0))) (.seq (.block 1 (.seq (.seq (.drawn true 53 [I 20 0,I 21 5,ck 22 5 20 21,aF 23 0 1 22,ay 24 1 23,I 25 1,I 26 5,ck 27 5 25 26,aF 28 0 1 27,ay 29 1 28,b8 30 190 24 29,I 6 30]) (aa [I 31 6,aU 32 .neq 31 0] (aW 32 (aa [I 33 6,I 4 33] .ret) .skip))) (.seq (.drawn true 53 [I 34 0,I 35 5,ck 36 5 34 35,hq 37 1 4 36,bg 38 4 37,I 39 1,I 40 5,ck 41 5 39 40,hq 42 1 4 41,bg 43 4 42,b8 44 133 38 43,I 7 44]) (aa [I 45 7,aU 46 .neq 45 0] (aW 46 (aa [I 47 7,I 4 47] .ret) .skip))))) (.region [I 18 5,aU 19 .add 18 1,I 5 19])))))) (aa [I 48 0,cw 49 48,I 50 1,cw 51 50,b8 52 190 49 51,I 4 52] .ret)))
def St:C:=(aa [bz 4 false] (.seq (aa [I 11 0,cw 12 11,bP 13 0] (gw 14 13 12 (.seq (.block 1 (aa [ck 15 5 11 13,bg 16 5 15,dG 6 ks,bV 5 6 16] (aa [I 18 1,aF 19 0 1 6,ay 20 1 19,cT 21 116 20,b8 22 69 18 21,I 17 22,cX 23 0 17,cX 24 1 17,dG 7 ez,bV 4 7 23,I 8 24] (aa [I 26 1,hq 27 1 4 6,bg 28 4 27,b8 29 69 26 28,I 25 29,cX 30 0 25,cX 31 1 25,dG 9 ez,bV 4 9 30,I 10 31] (aa [I 32 8,cM 33 32,I 34 33,cg 34 false 35 10,aw 34 false (cM 36 35),dr 37 34 36,I 38 37,aw 38 false (bg 39 4 7),aw 38 false (bg 40 4 9),aw 38 false (b8 41 142 39 40),aw 38 false (cM 42 41),dr 43 38 42] (aW 43 (aa [bz 4 false] .ret) .skip)))))) (.region [aU 44 .add 13 1,I 13 44])))) (aa [bz 4 true] .ret)))
def Zi:b3 aT K2 [.tmp 2] 1 Tryz.f86=true:=bi
def Zj:b3 aT K4 [] 3 Tryz.f159=true:=bi
def ant:b3 aT R1 [.tmp 4,.tmp 5] 2 Tryz.f165=true:=bi
def anz:b3 aT R6 [.tmp 4] 2 Tryz.f166=true:=bi
def Zm:b3 aT K7 [.tmp 2] 1 Tryz.f168=true:=bi
def Zn:b3 aT K8 [.tmp 4] 2 Tryz.f169=true:=bi
def anS:b3 aT Sq [.tmp 2,.tmp 3] 1 Tryz.f205=true:=bi
def anY:b3 aT Sw [.tmp 4] 2 Tryz.f207=true:=bi
def anV:b3 aT St [.tmp 4] 2 Tryz.f208=true:=bi
def SF:C:=(aa [dG 2 ez] (aa [I 3 0,jy 4 ez [(0,1,(gT 1)),(1,1,(.t 3))],bV 4 2 4] .ret))
def Su:C:=(aa [cd 0 (.mov (.c (.nilp)))] (aa [dt (.mkmap 1 (some 702)),dt (.mkmap 2 (some 703)),dt (.mkmap 3 (some 704)),dt (.mkmap 4 (some 705)),dt (.mkmap 5 (some 706)),dt (.mkmap 6 (some 707)),cd 7 (.build [.junk,.junk,.junk,.junk,.junk,.junk] [(0,1,(.t 1)),(1,1,(.t 2)),(2,1,(.t 3)),(3,1,(.t 4)),(4,1,(.t 5)),(5,1,(.t 6))]),cW 8 7,I 0 8] (.fz true 0 .ret)))
def Sj:C:=(aa [bP 4 0] (.seq (aa [I 8 0,gv 9 8,aF 10 0 1 9,ay 11 1 10,I 12 1,cd 13 (.mget .i (.int .i64 0) true (.t 11) (.t 12)),I 7 13,cX 14 0 7,cX 15 1 7,I 5 14,I 6 15] (aa [I 16 6,cM 17 16] (aW 17 (.region [I 18 0,gv 19 18,aF 20 0 1 19,ay 21 1 20,I 22 1,I 23 1,dt (.mput .i (.t 21) (.t 22) (.t 23))]) .skip))) (.seq (.block 0 (.loop (.seq (aa [I 24 0,gv 25 24,aF 26 0 1 25,ay 27 1 26,I 28 1,cd 29 (.mget .i (.int .i64 0) false (.t 27) (.t 28)),I 30 1,bu 31 .neq 29 30] (aW 31 .skip (.exit 0))) (.block 1 (.seq (.drawn true 55 [I 32 0,gv 33 32,aF 34 0 1 33,ay 35 1 34,I 36 1,I 37 0,gv 38 37,aF 39 0 1 38,ay 40 1 39,I 41 0,gv 42 41,aF 43 0 1 42,ay 44 1 43,I 45 1,cd 46 (.mget .i (.int .i64 0) false (.t 44) (.t 45)),cd 47 (.mget .i (.int .i64 0) false (.t 40) (.t 46)),dt (.mput .i (.t 35) (.t 36) (.t 47))]) (.region [I 48 0,gv 49 48,aF 50 0 1 49,ay 51 1 50,I 52 1,cd 53 (.mget .i (.int .i64 0) false (.t 51) (.t 52)),I 1 53])))))) (aa [I 54 1,I 4 54] .ret))))
def Sf:C:=(aa [cW 2 0,cW 3 1] (.fz false 2 (.region [bg 4 4 3,cd 5 (.mkf 245 [.t 2]),b8 6 134 4 5])))
def w9:C:=(aa [cW 4 1,cW 5 2,bz 6 false] (.seq (.block 0 (aa [aF 12 0 1 4,ay 13 1 12,aU 14 .eql 13 1,I 15 14,aw 15 true (aF 16 0 1 5),aw 15 true (ay 17 1 16),aw 15 true (aU 18 .eql 17 1),ei 19 15 18,I 11 19] (aW 11 (aa [I 20 0,aF 21 1 1 4,ay 22 1 21,b8 23 216 20 22,I 7 23] (aa [I 24 0,aF 25 1 1 5,ay 26 1 25,b8 27 216 24 26,I 8 27] (.seq (aa [I 28 7,I 29 8,bu 30 .eql 28 29] (aW 30 (aa [bz 6 true] .ret) .skip)) (.seq (aa [I 31 8,I 32 7,bu 33 .lss 31 32] (aW 33 (.region [I 34 8,I 35 7,I 7 34,I 8 35]) .skip)) (aa [I 36 0,gv 37 36,aF 38 0 1 37,ay 39 1 38,I 40 8,I 41 7,dt (.mput .i (.t 39) (.t 40) (.t 41))] (.seq (aa [I 42 0,gv 43 42,aF 44 2 1 43,ay 45 1 44,I 46 8,cd 47 (.mget .i (.bool false) false (.t 45) (.t 46)),cM 48 47] (aW 48 (aa [I 49 0,gv 50 49,aF 51 2 1 50,ay 52 1 51,I 53 7,cd 54 (.mget .i (.bool false) false (.t 52) (.t 53)),cM 55 54,I 56 55,cg 56 false 57 0,cg 56 false 58 0,aw 56 false (gv 59 58),aw 56 false (aF 60 1 1 59),aw 56 false (ay 61 1 60),cg 56 false 62 7,yE 56 false 63 (.mget .i (.agg ez) false (.t 61) (.t 62)),cg 56 false 64 7,ys 56 false (.mkmap 65 (some 715)),aw 56 false (dS 66 246 [.t 57,.t 63,.t 64,.t 65]),aw 56 false (cM 67 66),dr 68 56 67,I 6 68] .ret) .skip)) (aa [I 69 0,gv 70 69,aF 71 1 1 70,ay 72 1 71,I 73 8,cd 74 (.mget .i (.agg ez) false (.t 72) (.t 73)),dG 9 ez,bV 4 9 74] (.seq (aa [I 75 0,gv 76 75,aF 77 2 1 76,ay 78 1 77,I 79 7,cd 80 (.mget .i (.bool false) false (.t 78) (.t 79)),cM 81 80] (aW 81 (aa [I 82 0,I 83 7,bg 84 4 9,dS 85 247 [.t 82,.t 83,.t 84],I 6 85] .ret) .skip)) (.seq (.drawnW [715,716] 198 [I 86 0,bg 87 4 9,I 88 7,dt (.mkmap 89 (some 715)),dS 90 246 [.t 86,.t 87,.t 88,.t 89],cM 91 90,I 92 91,cg 92 true 93 0,cg 92 true 94 0,aw 92 true (gv 95 94),aw 92 true (aF 96 1 1 95),aw 92 true (ay 97 1 96),cg 92 true 98 7,yE 92 true 99 (.mgetB .i (.agg ez) false (.t 97) (.t 98)),cg 92 true 100 7,ys 92 true (.mkmap 101 (some 716)),aw 92 true (dS 102 246 [.t 93,.t 99,.t 100,.t 101]),aw 92 true (cM 103 102),ei 104 92 103,I 105 104,cg 105 true 106 0,cg 105 true 107 0,aw 105 true (gv 108 107),aw 105 true (aF 109 1 1 108),aw 105 true (ay 110 1 109),cg 105 true 111 7,yE 105 true 112 (.mgetB .i (.agg ez) false (.t 110) (.t 111)),aw 105 true (bg 113 4 9),aw 105 true (dS 114 218 [.t 106,.t 112,.t 113]),ei 115 105 114,I 6 115]) .ret))))))))) (aa [aF 117 0 1 4,ay 118 1 117,aU 119 .eql 118 1,I 116 119] (aW 116 (aa [I 120 0,aF 121 1 1 4,ay 122 1 121,b8 123 216 120 122,I 10 123] (.seq (aa [I 124 0,gv 125 124,aF 126 2 1 125,ay 127 1 126,I 128 10,cd 129 (.mget .i (.bool false) false (.t 127) (.t 128)),cM 130 129] (aW 130 (aa [I 131 0,I 132 10,bg 133 4 5,dS 134 247 [.t 131,.t 132,.t 133],I 6 134] .ret) .skip)) (.seq (.drawn false 198 [I 135 0,I 136 0,gv 137 136,aF 138 1 1 137,ay 139 1 138,I 140 10,cd 141 (.mgetB .i (.agg ez) false (.t 139) (.t 140)),bg 142 4 5,dS 143 218 [.t 135,.t 141,.t 142],I 6 143]) .ret))) (aa [aF 145 0 1 5,ay 146 1 145,aU 147 .eql 146 1,I 144 147] (aW 144 (aa [I 148 0,bg 149 4 5,bg 150 4 4,dS 151 218 [.t 148,.t 149,.t 150],I 6 151] .ret) (aa [aF 153 0 1 4,ay 154 1 153,aF 155 0 1 5,ay 156 1 155,bu 157 .neq 154 156,I 158 157,aw 158 false (aF 159 1 1 4),aw 158 false (ay 160 1 159),aw 158 false (aF 161 1 1 5),aw 158 false (ay 162 1 161),aw 158 false (bu 163 .neq 160 162),dr 164 158 163,I 165 164,aw 165 false (aF 166 2 1 4),aw 165 false (ay 167 1 166),aw 165 false (aF 168 2 1 5),aw 165 false (ay 169 1 168),aw 165 false (bu 170 .neq 167 169),dr 171 165 170,I 152 171] (aW 152 (aa [bz 6 false] .ret) (aa [aF 173 0 1 4,ay 174 1 173,aU 175 .eql 174 4,I 172 175] (aW 172 (.seq (.drawn false 198 [I 176 0,aF 177 3 1 4,ay 178 1 177,kA 179 4 178 0,bg 180 4 179,aF 181 3 1 5,ay 182 1 181,kA 183 4 182 0,bg 184 4 183,dS 185 218 [.t 176,.t 180,.t 184],I 186 185,cg 186 true 187 0,aw 186 true (aF 188 3 1 4),aw 186 true (ay 189 1 188),aw 186 true (kA 190 4 189 1),aw 186 true (bg 191 4 190),aw 186 true (aF 192 3 1 5),aw 186 true (ay 193 1 192),aw 186 true (kA 194 4 193 1),aw 186 true (bg 195 4 194),aw 186 true (dS 196 218 [.t 187,.t 191,.t 195]),ei 197 186 196,I 6 197]) .ret) .skip))))))))))) (aa [bz 6 true] .ret)))
def Sg:C:=(.region [ay 3 1 1,I 4 0,b8 5 216 3 4])
def Sh:C:=(aa [cW 4 0,cW 5 1,cW 6 2,cW 7 3,bz 8 false] (aa [dt (.alloc 9 (some 712) (.bool false)),dt (.store 1 (.t 9) (.c (.bool false)))] (.seq (.fz false 7 (.fz false 6 (.fz false 4 (.region [bg 10 4 5,cd 11 (.mkf 257 [.t 4,.t 9,.t 6,.t 7]),b8 12 134 10 11])))) (aa [ay 13 1 9,I 8 13] .ret))))
def Se:C:=(aa [cW 5 2,bz 6 false] (.seq (.drawn true 24 [I 7 0,gv 8 7,aF 9 1 1 8,ay 10 1 9,I 11 1,bg 12 4 5,dt (.mput .i (.t 10) (.t 11) (.t 12))]) (aa [I 13 0,gv 14 13,aF 15 2 1 14,ay 16 1 15,I 17 1,dt (.mput .i (.t 16) (.t 17) (.c (.bool true)))] (aa [I 18 0,bg 19 4 5,I 20 1,dt (.mkmap 21 (some 715)),dS 22 246 [.t 18,.t 19,.t 20,.t 21],cM 23 22,I 6 23] .ret))))
def AU:C:=(aa [cW 2 0,bz 4 false] (.seq (.seq (.fz false 2 (.region [ay 6 1 2,gv 7 6,aF 8 3 1 7,ay 9 1 8,I 10 1,cd 11 (.mget .i (.int .i64 0) false (.t 9) (.t 10)),aU 12 .eql 11 2])) (aW 12 (aa [bz 4 true] .ret) .skip)) (.seq (aa [ay 13 1 2,gv 14 13,aF 15 3 1 14,ay 16 1 15,I 17 1,cd 18 (.mget .i (.int .i64 0) false (.t 16) (.t 17)),aU 19 .eql 18 1] (aW 19 (aa [bz 4 false] .ret) .skip)) (aa [ay 20 1 2,gv 21 20,aF 22 3 1 21,ay 23 1 22,I 24 1,dt (.mput .i (.t 23) (.t 24) (gT 1))] (aa [ay 25 1 2,gv 26 25,aF 27 4 1 26,ay 28 1 27,I 29 1,dt (.mput .i (.t 28) (.t 29) (gT 1))] (.seq (aa [ay 30 1 2,gv 31 30,aF 32 2 1 31,ay 33 1 32,I 34 1,cd 35 (.mget .i (.bool false) false (.t 33) (.t 34))] (aW 35 (aa [dt (.alloc 5 (some 712) (.bool false)),dt (.store 1 (.t 5) (.c (.bool true)))] (aa [ay 36 1 2,gv 37 36,aF 38 1 1 37,ay 39 1 38,I 40 1,cd 41 (.mget .i (.agg ez) false (.t 39) (.t 40)),cd 42 (.mkf 258 [.t 5,.t 2]),b8 43 134 41 42] (.seq (aa [ay 44 1 5,cM 45 44] (aW 45 (aa [bz 4 false] .ret) .skip)) (.drawn false 64 [ay 46 1 2,gv 47 46,aF 48 4 1 47,ay 49 1 48,I 50 1,ay 51 1 2,gv 52 51,aF 53 1 1 52,ay 54 1 53,I 55 1,cd 56 (.mgetB .i (.agg ez) false (.t 54) (.t 55)),cd 57 (.mkf 259 [.t 2]),b8 58 192 56 57,dt (.mput .i (.t 49) (.t 50) (.t 58))])))) .skip)) (aa [ay 59 1 2,gv 60 59,aF 61 3 1 60,ay 62 1 61,I 63 1,dt (.mput .i (.t 62) (.t 63) (gT 2))] (aa [bz 4 true] .ret))))))))
def GC:C:=(aa [cW 2 0,dG 4 ez] (.seq (.seq (.fz false 2 (.region [ay 9 1 2,gv 10 9,aF 11 5 1 10,ay 12 1 11,I 13 1,cd 14 (.mget .i (.agg ez) true (.t 12) (.t 13)),I 8 14,cX 15 0 8,cX 16 1 8,dG 5 ez,bV 4 5 15,I 6 16])) (aa [I 17 6] (aW 17 (aa [bg 18 4 5,bV 4 4 18] .ret) .skip))) (aa [I 19 1,cT 20 116 19,dG 7 ez,bV 4 7 20] (.seq (aa [ay 21 1 2,gv 22 21,aF 23 2 1 22,ay 24 1 23,I 25 1,cd 26 (.mget .i (.bool false) false (.t 24) (.t 25))] (aW 26 (.region [ay 27 1 2,gv 28 27,aF 29 1 1 28,ay 30 1 29,I 31 1,cd 32 (.mget .i (.agg ez) false (.t 30) (.t 31)),cd 33 (.mkf 260 [.t 2]),b8 34 194 32 33,bV 4 7 34]) .skip)) (.seq (.drawn true 42 [ay 35 1 2,gv 36 35,aF 37 5 1 36,ay 38 1 37,I 39 1,bg 40 4 7,dt (.mput .i (.t 38) (.t 39) (.t 40))]) (aa [bg 41 4 7,bV 4 4 41] .ret))))))
def Si:C:=(aa [ay 7 1 1,I 8 0,b8 9 216 7 8,I 6 9] (.seq (aa [ay 10 1 2,I 11 10,cg 11 false 12 6,aw 11 false (ay 13 1 3),aw 11 false (bu 14 .eql 12 13),dr 15 11 14] (aW 15 (aa [dt (.store 1 (.t 2) (.c (.bool true)))] .ret) .skip)) (aa [ay 16 1 4,I 17 6,cd 18 (.mget .i (.bool false) false (.t 16) (.t 17)),cM 19 18,I 20 19,aw 20 true (ay 21 1 1),aw 20 true (gv 22 21),aw 20 true (aF 23 2 1 22),aw 20 true (ay 24 1 23),cg 20 true 25 6,aw 20 true (cd 26 (.mget .i (.bool false) false (.t 24) (.t 25))),ei 27 20 26] (aW 27 (aa [ay 28 1 4,I 29 6,dt (.mput .i (.t 28) (.t 29) (.c (.bool true)))] (.drawn false 40 [ay 30 1 1,ay 31 1 1,gv 32 31,aF 33 1 1 32,ay 34 1 33,I 35 6,cd 36 (.mgetB .i (.agg ez) false (.t 34) (.t 35)),ay 37 1 3,ay 38 1 4,dS 39 246 [.t 30,.t 36,.t 37,.t 38],bV 1 2 39])) .skip))))
def K6:C:=(.seq (.drawn false 13 [cd 4 (.loadB false 1 (.t 1)),I 5 4,aw 5 true (ay 6 1 2),aw 5 true (ay 7 1 2),cg 5 true 8 0,aw 5 true (b8 9 216 7 8),aw 5 true (b8 10 248 6 9),aw 5 true (cM 11 10),ei 12 5 11]) (aW 12 (.region [dt (.store 1 (.t 1) (.c (.bool false)))]) .skip))
def Sm:C:=(aa [bP 3 0] (.seq (.drawn false 12 [ay 4 1 1,gv 5 4,aF 6 4 1 5,ay 7 1 6,ay 8 1 1,I 9 0,b8 10 216 8 9,cd 11 (.mgetB .i (.int .i64 0) false (.t 7) (.t 10)),I 3 11]) .ret))
def Sl:C:=(aa [dG 3 ez,bz 4 false] (.seq (.drawn false 10 [ay 5 1 1,ay 6 1 1,I 7 0,b8 8 216 6 7,b8 9 249 5 8,bV 4 3 9,bz 4 true]) .ret))
def an7:b3 aT SF [.cell 2 true 4] 1 Tryz.f116=true:=bi
def anW:b3 aT Su [.tmp 0] 0 Tryz.f215=true:=bi
def anM:b3 aT Sj [.tmp 4] 2 Tryz.f216=true:=bi
def anI:b3 aT Sf [] 2 Tryz.f217=true:=bi
def zW:b3 aT w9 [.tmp 6] 3 Tryz.f218=true:=bi
def anJ:b3 aT Sg [] 2 Tryz.f245=true:=bi
def anK:b3 aT Sh [.tmp 8] 4 Tryz.f246=true:=bi
def anH:b3 aT Se [.tmp 6] 3 Tryz.f247=true:=bi
def E8:b3 aT AU [.tmp 4] 2 Tryz.f248=true:=bi
def O3:b3 aT GC [.cell 4 true 4] 2 Tryz.f249=true:=bi
def anL:b3 aT Si [] 5 Tryz.f257=true:=bi
def Zl:b3 aT K6 [] 3 Tryz.f258=true:=bi
def anP:b3 aT Sm [.tmp 3] 2 Tryz.f259=true:=bi
def anO:b3 aT Sl [.cell 3 true 4,.tmp 4] 2 Tryz.f260=true:=bi
end
section
open Go Go.Pv
section
variable {α:Type} (S:α->cS) (dF:∀a,eA (S a)) (e3:∀a b,Same (S a) (S b)) (g:Nat) (dI:List af) (ax:∀a,aH (aM (S a)) dI) (dy:cf dI=dI)
include dF e3 ax dy in
theorem VJ(e:α->Prop)(f:Int->α->bd α)(o:∀v a br,e a->f v a=some br->e br/\bG au g (aj v::dI) (S a) fun r d=>r= .tuple []/\d=S br)(t:T):
  ∀a br,e a->t.foldO f a=some br->e br/\bG au 134 [t.e,.func g dI] (S a) fun r d=>r= .tuple []/\d=S br:=by
 have b:∀a m,ae (.loc m) (S a).b=none:=fun a=>(dF a).obj.1;have hu:∀a m cs,cI (.loc m) cs (S a).b=(S a).b++[(.loc m,cs)]:=fun a m cs=>kM (b a m);have ar:∀a m,aB.loc m∉cJ (S a):=fun a=>kI (dF a).obj;induction t with
 |pair x y l k=>intro a br hi he;have c:=dF a;simp only[T.foldO,mV]at he;obtain⟨h,J,U⟩:=he;obtain⟨i1,g1⟩:=l a h hi J;obtain⟨i2,g2⟩:=k h br i1 U;refine⟨i2,?_⟩;refine bG.mk mixed a1 Tryz.func134 Cp Ψ c.obj fun j i=>?_;unfold yW;simp[hu,ar,c6,b,dy];(repeat' first|refine al ?_|simp[hu,ar,c6,b]);refine CallDo.ob g1 c aX aX (by simp[ax]) ?_;rintro r d ⟨rfl,rfl⟩;refine⟨e3 _ _,?_⟩;simp[hF,jx,cK,b];(repeat' first|refine al ?_|simp[hu,ar,c6,b]);rw[dy];refine CallDo.ob g2 (dF h) aX aX (by simp[ax]) ?_;rintro r d ⟨rfl,rfl⟩;refine⟨e3 _ _,?_⟩;simp[hF,jx,cK,b];refine c5.at (S br) (.inr rfl) (dF _) (e3 _ _) aX aX ?_;simp[dc,ba,bf,a6]
 |var n=>intro a br hi he;have c:=dF a;simp only[T.foldO]at he;obtain⟨i1,g1⟩:=o n a br hi he;refine⟨i1,?_⟩;refine bG.mk mixed a1 Tryz.func134 Cp Ψ c.obj fun j i=>?_;unfold yW;simp[hu,ar,c6,b,dy];(repeat' first|refine al ?_|simp[hu,ar,c6,b]);refine CallDo.ob g1 c aX aX (by simp[ax]) ?_;rintro r d ⟨rfl,rfl⟩;refine⟨e3 _ _,?_⟩;simp[hF,jx,cK,b,c6];refine c5.at (S br) (.inr rfl) (dF _) (e3 _ _) aX aX ?_;simp[dc,ba,bf,a6]
 |_=>intro a br hi he;have c:=dF a;simp only[T.foldO,dU]at he;subst he;refine⟨hi,?_⟩;refine bG.mk mixed a1 Tryz.func134 Cp Ψ c.obj fun j i=>?_;unfold yW;simp[hu,ar,c6,b,dy];(repeat' first|refine al ?_|simp[hu,ar,c6,b]);refine c5.at (S a) (.inr rfl) c (Same.refl _) aX aX ?_;simp[dc,ba,bf,a6]
include dF e3 ax dy in
theorem Mo(f:Int->α->bd α)(c:∀v a br,f v a=some br->bG au g (aj v::dI) (S a) fun r b=>r= .tuple []/\b=S br)(t:T)(a br:α)(h:t.foldO f a=some br):bG au 134 [t.e,.func g dI] (S a) fun r b=>r= .tuple []/\b=S br:=(VJ S dF e3 g dI ax dy (fun _=>True) f (fun v a br _ h=>⟨trivial,c v a br h⟩) t a br trivial h).2
include dF e3 ax dy in
theorem ai3(f:Int->α->bd (T×α))(s:∀v a p,f v a=some p->bG au g (aj v::dI) (S a) fun r h=>r= .tuple [p.1.e,.bool true]/\h=S p.2)(t:T):
  ∀a p,t.mapO f a=some p->bG au 194 [t.e,.func g dI] (S a) fun r h=>r=p.1.e/\h=S p.2:=by
 have b:∀a m,ae (.loc m) (S a).b=none:=fun a=>(dF a).obj.1;have j:∀a m,ae (.loc m) (S a).e=none:=fun a=>(dF a).obj.2;have hu:∀a m cs,cI (.loc m) cs (S a).b=(S a).b++[(.loc m,cs)]:=fun a m cs=>kM (b a m);have ar:∀a m,aB.loc m∉cJ (S a):=fun a=>kI (dF a).obj;have c:∀a m p r,cI (.loc m) p ((S a).b++r)=(S a).b++cI (.loc m) p r:=fun a m p r=>CY (b a m);induction t with
 |pair x y q o=>intro a p he;have d:=dF a;simp only[T.mapO,mV,hr]at he;obtain⟨e,J,i,U,rfl⟩:=he;refine bG.mk mixed a1 Tryz.func194 Cq Ψ d.obj fun l k=>?_;unfold yX;simp[hu,ar,c6,b,j,dy,c];(repeat' first|refine al ?_|simp[hu,ar,c6,b,j,c]);refine hH.ob (q a e J) d (dF e.2) (e3 _ _) aX aX (by simp[ax]) ?_;simp[hF,jx,cK,b,dy];(repeat' first|refine al ?_|simp[hu,ar,c6,b,j,c]);refine hH.ob (o e.2 i U) (dF e.2) (dF i.2) (e3 _ _) aX aX (by simp[ax,dy]) ?_;simp[hF,jx,cK,b,dy];(repeat' first|refine al ?_|refine aO (Kl _ _) ?_|refine aP (Kl _ _) ?_|simp[c6,b,c]);refine c5.at (S i.2) (.inl rfl) (dF _) (e3 _ _) aX aX ?_;simp[dc,ba,bf,a6,c6,b]
 |var n=>
  intro a p he;have d:=dF a;simp only[T.mapO]at he;refine bG.mk mixed a1 Tryz.func194 Cq Ψ d.obj fun l k=>?_;unfold yX;simp[hu,ar,c6,b,dy,c];(repeat' first|refine al ?_|simp[hu,ar,c6,b,c]);refine CallDo.ob (s n a p he) d aX aX (by simp[ax]) ?_;rintro r h ⟨rfl,rfl⟩;refine⟨e3 _ _,?_⟩;simp[hF,jx,cK,b,hu,ar,c6];(repeat' first|refine al ?_|refine aO (vq _) ?_|refine aP (vq _) ?_|simp[hu,ar,c6,b,c]);all_goals refine c5.at (S p.2) (.inl rfl) (dF _) (e3 _ _) aX aX ?_
  all_goals simp[dc,ba,bf,a6,c6,b]
 |_=>intro a p he;have d:=dF a;simp only[T.mapO,dU]at he;subst he;refine bG.mk mixed a1 Tryz.func194 Cq Ψ d.obj fun l k=>?_;unfold yX;simp[hu,ar,c6,b,dy,c];(repeat' first|refine al ?_|simp[hu,ar,c6,b,c]);refine c5.at (S a) (.inl rfl) d (Same.refl _) aX aX ?_;simp[dc,ba,bf,a6,c6,b]
include dF e3 ax dy in
theorem ajn(i:α->Prop)(f:Int->α->bd (Int×α))(A:∀v a p,i a->f v a=some p->i p.2/\0<=p.1/\p.1<=1000000)(z:∀v a p,i a->f v a=some p->bG au g (aj v::dI) (S a) fun r e=>r=aj p.1/\e=S p.2)(t:T):
  ∀a p,i a->t.sizeO f a=some p->i p.2/\(0<=p.1/\p.1<=5001)/\bG au 192 [t.e,.func g dI] (S a) fun r e=>r=aj p.1/\e=S p.2:=by
 have b:∀a m,ae (.loc m) (S a).b=none:=fun a=>(dF a).obj.1;have hu:∀a m cs,cI (.loc m) cs (S a).b=(S a).b++[(.loc m,cs)]:=fun a m cs=>kM (b a m);have ar:∀a m,aB.loc m∉cJ (S a):=fun a=>kI (dF a).obj;induction t with
 |pair x y s q=>
  intro a p hi he;have c:=dF a;simp only[T.sizeO,mV]at he;obtain⟨d,J,U⟩:=he;obtain⟨i1,u,g1⟩:=s a d hi J;by_cases o:5000<d.1
  ·rw[if_pos o]at U;cases U;refine⟨i1,u,?_⟩;refine bG.mk mixed a1 Tryz.func192 zX Ψ c.obj fun k j=>?_;unfold xa;simp[hu,ar,c6,b,dy];(repeat' first|refine al ?_|simp[hu,ar,c6,b]);refine CallDo.ob g1 c aX aX (by simp[ax]) ?_;rintro r e ⟨rfl,rfl⟩;refine⟨e3 _ _,?_⟩;simp[hF,jx,cK,b];((with_reducible repeat' first|((first|apply ct|apply cz|apply cy)<;>intro h<;>try simp at h)|refine al ?_|simp[hu,ar,c6,b])<;>(try contradiction));all_goals first|omega|(refine c5.at (S p.2) (.inl rfl) (dF _) (e3 _ _) aX aX ?_;simp[dc,ba,bf,a6])
  ·rw[if_neg o,hr]at U;obtain⟨l,U,rfl⟩:=U;obtain⟨i2,B,g2⟩:=q d.2 l i1 U;refine⟨i2,by simp only;split<;>omega,?_⟩;refine bG.mk mixed a1 Tryz.func192 zX Ψ c.obj fun k j=>?_;unfold xa;simp[hu,ar,c6,b,dy];(with_reducible repeat' first|((first|apply ct|apply cz|apply cy)<;>intro h<;>try simp at h)|refine al ?_|simp[hu,ar,c6,b]);refine CallDo.ob g1 c aX aX (by simp[ax]) ?_;rintro r e ⟨rfl,rfl⟩;refine⟨e3 _ _,?_⟩;simp[hF,jx,cK,b];((repeat' first|refine al ?_|simp[hu,ar,c6,b]|((first|apply ct|apply cz|apply cy)<;>intro h<;>try simp at h))<;>(try exact c3));all_goals first|omega|skip
   rw[dy];refine CallDo.ob g2 (dF d.2) aX aX (by simp[ax]) ?_;rintro r s2 ⟨rfl,rfl⟩;refine⟨e3 _ _,?_⟩;simp[hF,jx,cK,b];(repeat' first|refine al ?_|simp[hu,ar,c6,b]);refine c5.at (S l.2) (.inl rfl) (dF _) (e3 _ _) aX aX ?_;simp[dc,ba,bf,a6]
 |var n=>intro a p hi he;have c:=dF a;simp only[T.sizeO,hr]at he;obtain⟨d,J,rfl⟩:=he;have w:=A n a d hi J;refine⟨w.1,by simp only;split<;>omega,?_⟩;refine bG.mk mixed a1 Tryz.func192 zX Ψ c.obj fun k j=>?_;unfold xa;simp[hu,ar,c6,b,dy];(repeat' first|refine al ?_|simp[hu,ar,c6,b]);refine CallDo.ob (z n a d hi J) c aX aX (by simp[ax]) ?_;rintro r e ⟨rfl,rfl⟩;refine⟨e3 _ _,?_⟩;simp[hF,jx,cK,b];refine c5.at (S d.2) (.inl rfl) (dF _) (e3 _ _) aX aX ?_;simp[dc,ba,bf,a6]
 |_=>intro a p hi he;have c:=dF a;simp only[T.sizeO,dU]at he;subst he;refine⟨hi,Ψ,?_⟩;refine bG.mk mixed a1 Tryz.func192 zX Ψ c.obj fun k j=>?_;unfold xa;simp[hu,ar,c6,b,dy];(repeat' first|refine al ?_|simp[hu,ar,c6,b]);refine c5.at (S a) (.inl rfl) c (Same.refl _) aX aX ?_;simp[dc,ba,bf,a6]
end
end
end Go.Proofs.YtahlgcidhnjlbaaGreat
namespace Go.Pv
section
open Go Go.RowKit
section
variable {P:cH} {ob:List aB} {st:bp} {Q:Exit->bp->Prop} {c:C} {α:Type}
def eZ(b:List Nat)(cs:Nat->α->List (Nat×af))(n:Nat)(d:Nat->α->Prop)(a0:α)(hw:gn ob st (qQ st b (cs 0 a0)))(g:d 0 a0)(e:∀a,d n a->(∀i,eV (get i (qQ st b (cs n a)).t))->de P ob c (bY ob (AG (fun i a=>qQ st b (cs i a)) n d) 0 Q) (qQ st b (cs n a)))
  (f:∀i a,i<n->d i a->(∀j,eV (get j (qQ st b (cs i a)).t))->de P ob c (bY ob (AG (fun i a=>qQ st b (cs i a)) n d) (n-i) Q) (qQ st b (cs i a))):de P ob (.loop c) Q st:=
 fT (fun i a=>qQ st b (cs i a)) n d a0 hw g e f
def xi(b:List Nat)(cs:α->List (Nat×af))(μ:α->Nat)(d:α->Prop)(a0:α)(hw:gn ob st (qQ st b (cs a0)))(f:d a0)
  (e:∀a,d a->(∀j,eV (get j (qQ st b (cs a)).t))->de P ob c (bY ob (C9 (fun a=>qQ st b (cs a)) μ d) (μ a) Q) (qQ st b (cs a))):de P ob (.loop c) Q st:=
 o7 (fun a=>qQ st b (cs a)) μ d a0 hw f e
end
attribute [simp] amX
end
end Go.Pv
namespace Go.Proofs.YtahlgcidhnjlbaaGreat
section
open Go Go.Pv
def Oi{α β:Type}(k:aB):∀{l:List (aB×α)} {a:List (aB×β)},l.map (·.1)=a.map (·.1)->(ae k l).isSome=(ae k a).isSome
 |[],[],_=>rfl
 |[],_::_,h=>by simp at h
 |_::_,[],h=>by simp at h
 |(i,x)::r,(j,y)::b,h=>by
  simp only[gV,rX]at h;simp only[ae];obtain⟨rfl,h⟩:=h;split
  ·rfl
  ·exact Oi k h
def _root_.Go.Pv.Same.keys{s a:cS}(b:s.b.map (·.1)=a.b.map (·.1))(he:s.e.map (·.1)=a.e.map (·.1)):Same s a:=⟨fun k=>Oi k b,fun k=>Oi k he⟩
section
variable {α:Type} (e:α->af)
def tM(l:List (Int×α)):List af:=kZ (l.map fun x=>(x.1,e x.2))
def Rw(k:Int):∀l:List (Int×α),yS k (l.map fun x=>(x.1,e x.2))=(dp k l).map e
 |[]=>rfl
 |(i,v)::r=>by
  simp only[gV,yS,dp];split
  ·rfl
  ·exact Rw k r
def RD(k:Int)(v:α):∀l:List (Int×α),qn k (e v) (l.map fun x=>(x.1,e x.2))=if(dp k l).isSome then some ((fB k v l).map fun x=>(x.1,e x.2))else none
 |[]=>rfl
 |(i,w)::r=>by
  simp only[gV,qn,dp,fB];by_cases h:k=i
  ·subst h;simp
  ·simp only[h,if_false,RD k v r];cases (dp k r).isSome<;>simp
def acq{k:Int}{v:α}:∀{l:List (Int×α)},dp k l=none->fB k v l=l++[(k,v)]
 |[],_=>rfl
 |(i,w)::r,h=>by
  simp only[dp]at h;split at h
  ·cases h
  ·rename_i a;simp[fB,a,acq h]
def OG(k:Int)(v:α)(l:List (Int×α)):qR .i (aj k) (e v) (tM e l)=some (tM e (fB k v l)):=by
 simp only[tM,Y3,Gt,RD];cases h:dp k l with
 |some w=>simp
 |none=>simp[acq h]
def OB(f:aB->bd (List af))(m:aB)(l:List (Int×α))(z:af)(ok:Bool)(k:Int)(hm:f m=some (tM e l)):pe f .i z ok (.gmap m) (aj k)=some (True,if ok then .tuple [((dp k l).map e).getD z,.bool (dp k l).isSome]else((dp k l).map e).getD z):=by rw[amH f m _ z ok k hm,Rw];cases dp k l<;>rfl
@[simp]def aw2(l:List (Int×α)):gY (tM e l)=false:=rfl
def N3(S:aB->Prop)(he:∀x,az S (e x))(l:List (Int×α)):aH S (tM e l):=by
 have:∀l:List (Int×α),aH S (flat (l.map fun x=>(x.1,e x.2))):=by
  intro l;induction l with
  |nil=>simp[flat,aH]
  |cons x r a=>simp[flat,aH,a,he]
 simp[tM,kZ,aH,this,az]
end
def oJ:List (Int×Int)->List af:=tM (af.int .i64)
def rE:List (Int×Bool)->List af:=tM af.bool
def vb:List (Int×T)->List af:=tM T.e
@[simp]def awZ(l):gY (oJ l)=false:=rfl
@[simp]def awX(l):gY (rE l)=false:=rfl
@[simp]def aw1(l):gY (vb l)=false:=rfl
@[simp]def avH(S:aB->Prop)(l):aH S (oJ l)=True:=h1 (N3 _ S (fun _=>by simp) l)
@[simp]def avG(S:aB->Prop)(l):aH S (rE l)=True:=h1 (N3 _ S (fun _=>by simp) l)
@[simp]def avI(S:aB->Prop)(l):aH S (vb l)=True:=h1 (N3 _ S (fun _=>by simp) l)
@[simp]def awG(k v:Int)(l):qR .i (aj k) (aj v) (oJ l)=some (oJ (fB k v l)):=OG _ k v l
@[simp]def awF(k:Int)(v:Bool)(l):qR .i (aj k) (.bool v) (rE l)=some (rE (fB k v l)):=OG _ k v l
@[simp]def awI(k:Int)(v:T)(l):qR .i (aj k) v.e (vb l)=some (vb (fB k v l)):=OG _ k v l
def EX(a:kf)(z:af)(ok:Bool)(o:bd (List af))(k:af):bd (Prop×af):=pe (fun _=>o) a z ok (.gmap (.loc 0)) k
@[simp]def awD(f:aB->bd (List af))(a:kf)(z:af)(ok:Bool)(m:aB)(k:af):pe f a z ok (.gmap m) k=EX a z ok (f m) k:=by simp only[EX,YI]
def amJ(f:aB->bd (List af))(m:aB)(l:List (Int×Int))(ok:Bool)(k:Int)(hm:f m=some (oJ l)):pe f .i (aj 0) ok (.gmap m) (aj k)=some (True,if ok then .tuple [aj (jR l k),.bool (dp k l).isSome]else aj (jR l k)):=by rw[OB _ f m l _ ok k hm];unfold jR;cases dp k l<;>rfl
def amI(f:aB->bd (List af))(m:aB)(l:List (Int×Bool))(ok:Bool)(k:Int)(hm:f m=some (rE l)):pe f .i (.bool false) ok (.gmap m) (aj k)=some (True,if ok then .tuple [.bool ((dp k l).getD false),.bool (dp k l).isSome]else .bool ((dp k l).getD false)):=by rw[OB _ f m l _ ok k hm];cases dp k l<;>rfl
def aca:af:= .agg [aj 0,aj 0,.str [],.slice 4 .nil []]
def yx(o:bd T):af:=(o.map T.e).getD aca
def amK(f:aB->bd (List af))(m:aB)(l:List (Int×T))(ok:Bool)(k:Int)(hm:f m=some (vb l)):pe f .i (.agg [aj 0,aj 0,.str [],.slice 4 .nil []]) ok (.gmap m) (aj k)=some (True,if ok then .tuple [yx (dp k l),.bool (dp k l).isSome]else yx (dp k l)):=by rw[OB _ f m l _ ok k hm];rfl
@[simp]def awB(l:List (Int×Int))(ok:Bool)(k:Int):EX .i (aj 0) ok (some (oJ l)) (aj k)=some (True,if ok then .tuple [aj (jR l k),.bool (dp k l).isSome]else aj (jR l k)):=amJ _ _ l ok k rfl
@[simp]def awA(l:List (Int×Bool))(ok:Bool)(k:Int):EX .i (.bool false) ok (some (rE l)) (aj k)=some (True,if ok then .tuple [.bool ((dp k l).getD false),.bool (dp k l).isSome]else .bool ((dp k l).getD false)):=amI _ _ l ok k rfl
@[simp]def awC(l:List (Int×T))(ok:Bool)(k:Int):EX .i (.agg [aj 0,aj 0,.str [],.slice 4 .nil []]) ok (some (vb l)) (aj k)=some (True,if ok then .tuple [yx (dp k l),.bool (dp k l).isSome]else yx (dp k l)):=amK _ _ l ok k rfl
@[simp]def ax1(o:bd T):b7 (yx o)=(o.getD .nil).e:=by cases o<;>simp[yx,aca,b7,cf]
@[simp]def awp:[af.hdm 0 []]=kZ []:=rfl
def aE:af:= .eptr (.agg [.gmap (.obj 702),.gmap (.obj 703),.gmap (.obj 704),.gmap (.obj 705),.gmap (.obj 706),.gmap (.obj 707)])
def aD(c:bJ):List (aB×List af):=[(.obj 702,oJ c.up),(.obj 703,vb c.shape),(.obj 704,rE c.shaped),(.obj 705,oJ c.color),(.obj 706,oJ c.size),(.obj 707,vb c.full)]
def aQ(c:bJ):cS:=⟨aD c,[]⟩
def cx(c:bJ):eA (aQ c):=by unfold aQ aD;exact eA.of ⟨by intro m;simp[ae],by intro m;simp[ae]⟩ Ψ Ψ
def Gk(c a:bJ):Same (aQ c) (aQ a):=by
 refine⟨fun k=>?_,fun k=>rfl⟩;simp only[aQ,aD,ae];repeat' split
 all_goals rfl
def s8(c:bJ)(v r:Int)(d:bJ)(he:rt c v=some (r,d)):bG au 216 [aE,aj v] (aQ c) fun g j=>g=aj r/\j=aQ d:=by
 have f:=cx c;have e:=cx d;have e3:=Gk c d;simp only[rt,hr,jn]at he;obtain⟨⟨i,m1⟩,he,rfl,rfl⟩:=he;unfold aQ aD at f e e3⊢;simp only at e e3⊢;unfold aE;refine bG.mk mixed a1 Tryz.func216 anM Ψ f.obj fun o l=>?_;unfold Sj;simp;(with_reducible repeat' first|((first|apply ct|apply cz|apply cy)<;>intro h<;>try simp at h)|refine al ?_|simp);all_goals
  refine o7 (α:=Nat×Int×List (Int×Int)) (fun a=>⟨[(0,aE),(1,aj a.2.1)],[(.obj 702,oJ a.2.2),(.obj 703,vb c.shape),(.obj 704,rE c.shaped),(.obj 705,oJ c.color),(.obj 706,oJ c.size),(.obj 707,vb c.full)],[],0,[.obj 702,.obj 703,.obj 704,.obj 705,.obj 706,.obj 707]⟩) (fun a=>a.1) (fun a=>yn a.1 a.2.2 a.2.1=some (i,m1)) (v.toNat+1,v,AM v c.up) (by simp[AM,h,aE];exact⟨by simp[fresh,aH,az,cc,aM,ae,aE],eo (by simp[fresh,aH,az,cc,aM,ae,aE]),ep (by simp[fresh,aH,az,dV,aM,ae,aE]),Ψ⟩) he ?_
  rintro⟨n,u,m⟩ b k
  simp only at b k⊢
  cases n with
  |zero=>simp[yn]at b
  |succ n=>
   simp only[yn]at b
   simp[aE]
   (with_reducible repeat' first|((first|apply ct|apply cz|apply cy)<;>intro h<;>try simp at h)|refine al ?_|simp)
   ·rw[if_neg h]at b
    refine bY.whl (n,jR (fB u (jR m (jR m u)) m) u,fB u (jR m (jR m u)) m) (Nat.lt_succ_self n) b ?_
    simp[aE]
    exact⟨by simp[fresh,aH,az,cc,aM,ae,aE],eo (by simp[fresh,aH,az,cc,aM,ae,aE]),ep (by simp[fresh,aH,az,dV,aM,ae,aE]),Ψ⟩
   ·rw[if_pos h]at b
    cases b
    refine c5.at _ (.inl rfl) e e3 aX aX ?_
    simp[dc,ba,bf,a6]
end
section
open Go Go.Pv
def ajb(c:bJ)(v r:Int)(a:bJ)(he:rt c v=some (r,a)):bG au 245 [aj v,.eptr aE] (aQ c) fun e b=>e= .tuple []/\b=aQ a:=by have d:=cx c;simp only[aQ,aD]at d⊢;refine bG.mk mixed a1 Tryz.func245 anJ Ψ d.obj fun g f=>?_;unfold Sg;simp[aE];(refine CallDo.ob (s8 c v r a he) ci bv bv d7 ?_;rintro r b ⟨rfl,rfl⟩;refine⟨(Same.keys co co),?_⟩;simp[cK,aQ,aD,aE]);(refine c5.at (aQ a) Ψ ci (Same.keys co co) bv bv ?_;simp[dc,ba,bf,a6,aM,ae,aQ,aD,aE])
def Mr(c:bJ)(t:T)(b:bJ)(he:Ca t c=some b):bG au 217 [aE,t.e] (aQ c) fun f d=>f= .tuple []/\d=aQ b:=by
 have e:=cx c;have key:=Mo aQ cx Gk 245 [.eptr aE] (fun a=>by simp[aQ,aD,aE,aM,ae]) rfl (fun(v:Int) (c:bJ)=>(rt c v).map Prod.snd) (fun v a br h=>by rw[hr]at h;obtain⟨⟨r,g⟩,J,rfl⟩:=h;exact ajb a v r g J) t c b he
 simp only[aQ,aD]at e⊢;refine bG.mk mixed a1 Tryz.func217 anI Ψ e.obj fun j i=>?_;unfold Sf;simp[aE];(refine CallDo.ob (key) ci bv bv d7 ?_;rintro r d ⟨rfl,rfl⟩;refine⟨(Same.keys co co),?_⟩;simp[cK,aQ,aD,aE]);(refine c5.at (aQ b) Ψ ci (Same.keys co co) bv bv ?_;simp[dc,ba,bf,a6,aM,ae,aQ,aD,aE])
def fe(K:Nat)(a:bJ×List (Int×Bool)):cS:=⟨aD a.1++[(.obj K,rE a.2)],[]⟩
def gW(K:Nat)(a:vC):cS:=⟨aD a.c++[(.obj K,rE a.seen),(.obj 712,[.bool a.found])],[]⟩
def zU(K:Nat):Prop:=K=715\/K=716
def jd{K:Nat}(b:zU K)(a):eA (fe K a):=by unfold fe aD;rcases b with rfl|rfl;all_goals exact eA.of ⟨by intro m;simp[ae],by intro m;simp[ae]⟩ Ψ Ψ
def q9{K:Nat}(b:zU K)(a):eA (gW K a):=by unfold gW aD;rcases b with rfl|rfl;all_goals exact eA.of ⟨by intro m;simp[ae],by intro m;simp[ae]⟩ Ψ Ψ
def KA{K:Nat}(a b):Same (gW K a) (gW K b):=by
 refine⟨fun k=>?_,fun k=>rfl⟩;simp only[gW,aD,b5,cb,ae];repeat' split
 all_goals rfl
def ajh{K:Nat}(k:zU K)(n:Nat)(x:Int)(m:∀t c seen a,qT n x t c seen=some a->bG au 246 [aE,t.e,aj x,.gmap (.obj K)] (fe K (c,seen)) fun r g=>r= .bool a.found/\g=fe K (a.c,a.seen))
  (v:Int) (a br:vC) (he:yl (qT n x) x v a=some br):bG au 257 [aj v,.eptr aE,.ptr (.obj 712) 0,.eptr (aj x),.eptr (.gmap (.obj K))] (gW K a) fun r g=>r= .tuple []/\g=gW K br:=by
 have l:=q9 k a;simp only[yl,mV]at he;obtain⟨⟨r,b⟩,J,U⟩:=he;simp only at U;have ab:=k;rcases ab with rfl|rfl;all_goals
  simp only[gW,aD,b5,cb]at l⊢
  refine bG.mk mixed a1 Tryz.func257 anL Ψ l.obj fun s q=>?_;unfold Si
  simp[aE]
  (refine CallDo.ob (s8 a.c v r b J) ci bv bv d7 ?_;rintro r g ⟨rfl,rfl⟩;refine⟨(Same.keys co co),?_⟩;simp[cK,aQ,aD,aE])
  obtain⟨ac,e,p⟩:=a
  cases p with
  |true=>
   simp at U;subst U
   (repeat' first|refine al ?_|simp)
   (refine c5.at (gW _ ⟨b,e,true⟩) Ψ (by first|exact q9 _|exact q9 ‹_› _) (Same.keys (by simp[gW,aD,aE]) (by simp[gW,aD,aE])) d9 d9 ?_;simp[dc,ba,bf,a6,aM,ae,gW,aD,aE])
  |false=>
   by_cases h:r=x
   ·simp[h]at U;subst U
    (repeat' first|refine al ?_|simp[h])
    (refine c5.at (gW _ ⟨b,e,true⟩) Ψ (by first|exact q9 _|exact q9 ‹_› _) (Same.keys (by simp[gW,aD,aE]) (by simp[gW,aD,aE])) d9 d9 ?_;simp[dc,ba,bf,a6,aM,ae,gW,aD,aE])
   ·have i:(r==x)=false:=by simp[h]
    simp only[h,hQ,or_self,if_false]at U
    cases d:(dp r e).getD false with
    |true=>
     simp[d]at U;subst U
     (repeat' first|refine al ?_|simp[i,d])
     (refine c5.at (gW _ ⟨b,e,false⟩) Ψ (by first|exact q9 _|exact q9 ‹_› _) (Same.keys (by simp[gW,aD,aE]) (by simp[gW,aD,aE])) d9 d9 ?_;simp[dc,ba,bf,a6,aM,ae,gW,aD,aE])
    |false=>
     cases f:b.shd r with
     |false=>
      have j:(dp r b.shaped).getD false=false:=f
      simp[d,f]at U;subst U
      (repeat' first|refine al ?_|simp[i,d,j])
      (refine c5.at (gW _ ⟨b,e,false⟩) Ψ (by first|exact q9 _|exact q9 ‹_› _) (Same.keys (by simp[gW,aD,aE]) (by simp[gW,aD,aE])) d9 d9 ?_;simp[dc,ba,bf,a6,aM,ae,gW,aD,aE])
     |true=>
      have j:(dp r b.shaped).getD false=true:=f
      simp[d,f]at U
      have o:=m _ _ _ _ U
      (repeat' first|refine al ?_|simp[i,d,j])
      (refine hH.ob (o) d8 d8 (Same.keys (by simp[fe,aD,aE]) (by simp[fe,aD,aE])) (by simp only[fe,aD,aE,b5,cb];exact aX) (by simp only[fe,aD,aE,b5,cb];exact aX) (by simp[aM,ae,fe,aD,aE]) ?_;simp[cK,fe,aD,aE])
      (repeat' first|refine al ?_|simp)
      (refine c5.at (gW _ br) Ψ (by first|exact q9 _|exact q9 ‹_› _) (Same.keys (by simp[gW,aD,aE]) (by simp[gW,aD,aE])) d9 d9 ?_;simp[dc,ba,bf,a6,aM,ae,gW,aD,aE])
def Hs{K:Nat}(b:zU K)(x:Int)(n:Nat):∀(t:T) (c:bJ) (seen:List (Int×Bool)) (a:vC),qT n x t c seen=some a->bG au 246 [aE,t.e,aj x,.gmap (.obj K)] (fe K (c,seen)) fun r d=>r= .bool a.found/\d=fe K (a.c,a.seen):=by
 induction n with
 |zero=>intro t c seen a h;simp[qT]at h
 |succ n f=>
  intro t c seen a h;simp only[qT]at h;have e:=jd b (c,seen);have key:=Mo (gW K) (q9 b) KA 257 [.eptr aE,.ptr (.obj 712) 0,.eptr (aj x),.eptr (.gmap (.obj K))] (fun a=>by rcases b with rfl|rfl<;>simp[gW,aD,aE,aM,ae]) rfl (yl (qT n x) x) (fun v a br h=>ajh b n x f v a br h) t ⟨c,seen,false⟩ a h;have ab:=b;rcases ab with rfl|rfl;all_goals
   simp only[fe,aD,b5,cb]at e⊢
   refine bG.mk mixed a1 Tryz.func246 anK Ψ e.obj fun i g=>?_;unfold Sh
   simp[aE]
   refine CallDo.new key (q9 b _) d9 d9 (by simp[aM,ae,gW,aD,aE]) ?_
   rintro r d ⟨rfl,rfl⟩
   refine⟨fun m hm=>.inl ⟨?_,KA _ _⟩,?_⟩
   ·exact((KA _ _).inObs _).2 hm
   simp[cK,gW,aD]
   (repeat' first|refine al ?_|simp)
   (refine c5.at (fe _ (a.c,a.seen)) Ψ d8 (Same.keys (by simp[fe,aD,aE]) (by simp[fe,aD,aE])) (by simp only[fe,aD,aE,b5,cb];exact aX) (by simp only[fe,aD,aE,b5,cb];exact aX) ?_;simp[dc,ba,bf,a6,aM,ae,fe,aD,aE])
@[simp]def Ol:rE []=kZ []:=rfl
@[simp]def ax4(t:T):yx (some t)=t.e:=rfl
@[simp]def ax3:yx none= .agg [aj 0,aj 0,.str [],.slice 4 .nil []]:=rfl
def VO(n:Nat)(x:Int)(t:T)(c:bJ)(p:Bool×bJ)(he:wB n x t c=some p):bG au 247 [aE,aj x,t.e] (aQ c) fun r b=>r= .bool p.1/\b=aQ p.2:=by have d:=cx c;simp only[wB,hr]at he;obtain⟨a,J,rfl⟩:=he;have e:zU 715:= .inl rfl;have key:=Hs e x n t (c.know x t) [] a J;simp only[aQ,aD]at d⊢;refine bG.mk mixed a1 Tryz.func247 anH Ψ d.obj fun g f=>?_;unfold Se;simp[aE];(refine CallDo.ob (key) d8 (by simp only[fe,aD,aE,bJ.know,b5,cb];exact aX) (by simp only[fe,aD,aE,bJ.know,b5,cb];exact aX) (by simp[aM,ae,fe,aD,aE,bJ.know]) ?_;rintro r b ⟨rfl,rfl⟩;refine⟨(Same.keys (by simp[fe,aD,aE,bJ.know]) (by simp[fe,aD,aE,bJ.know])),?_⟩;simp[cK,fe,aD,aE,bJ.know]);(refine c5.at (aQ a.c) Ψ ci (Same.keys co co) bv bv ?_;simp[dc,ba,bf,a6,aM,ae,aQ,aD,aE])
def VK(n:Nat):∀(a b:T) (c:bJ) (p:Bool×bJ),hs n a b c=some p->bG au 218 [aE,a.e,b.e] (aQ c) fun r w=>r= .bool p.1/\w=aQ p.2:=by
 induction n with
 |zero=>intro a b c p h;simp[hs]at h
 |succ n L=>
  intro a b c p he;have t:=cx c;have Ex:∀i j,a= .var i->b= .var j->bG au 218 [aE,a.e,b.e] (aQ c) fun r w=>r= .bool p.1/\w=aQ p.2:=by
   rintro i j rfl rfl;simp only[hs,mV]at he;obtain⟨⟨x,A⟩,J,⟨y,s⟩,U,E⟩:=he;simp only at U E;simp only[aQ,aD]at t⊢;refine bG.mk mixed a1 Tryz.func218 zW Ψ t.obj fun M K=>?_;unfold w9;simp[aE];(refine CallDo.ob (s8 c i x A J) ci bv bv d7 ?_;rintro r w ⟨rfl,rfl⟩;refine⟨(Same.keys co co),?_⟩;simp[cK,aQ,aD,aE]);(repeat' first|refine al ?_|simp);(refine CallDo.ob (s8 A j y s U) ci bv bv d7 ?_;rintro r w ⟨rfl,rfl⟩;refine⟨(Same.keys co co),?_⟩;simp[cK,aQ,aD,aE]);by_cases V:x=y
   ·rw[if_pos V]at E;cases E;(repeat' first|refine al ?_|simp[V]);(refine c5.at (aQ s) Ψ ci (Same.keys co co) bv bv ?_;simp[dc,ba,bf,a6,aM,ae,aQ,aD,aE])
   ·rw[if_neg V]at E;have O:(x==y)=false:=by simp[V]
    have V9:zU 715:= .inl rfl;have Z:zU 716:= .inr rfl;obtain⟨u,v,P,z⟩:∃u v,((u=y/\v=x/\y<x)\/(u=x/\v=y/\¬y<x))/\s6 (hs n) n u v (s.join u v)=some p:=by
     by_cases q:y<x
     ·rw[if_pos q]at E;exact⟨y,x,.inl ⟨rfl,rfl,q⟩,E⟩
     ·rw[if_neg q]at E;exact⟨x,y,.inr ⟨rfl,rfl,q⟩,E⟩
    clear E;obtain⟨d,H⟩:∃d,d=s.join u v:=⟨_,rfl⟩;have m:d.up=fB v u s.up:=by rw[H];rfl
    have f:d.shape=s.shape:=by rw[H];rfl
    have e:d.shaped=s.shaped:=by rw[H];rfl
    have l:d.color=s.color:=by rw[H];rfl
    have k:d.size=s.size:=by rw[H];rfl
    have g:d.full=s.full:=by rw[H];rfl
    rw[<-H]at z;simp only[s6]at z;cases N:d.shd v with
    |false=>
     have F:(dp v s.shaped).getD false=false:=by rw[<-e];exact N
     rw[if_pos N]at z;cases hu:d.shd u with
     |false=>
      have B:(dp u s.shaped).getD false=false:=by rw[<-e];exact hu
      rw[if_pos hu]at z;cases z;rcases P with⟨rfl,rfl,q⟩|⟨rfl,rfl,q⟩;all_goals
       (repeat' first|refine al ?_|simp[O,q,F,B])
       (refine c5.at (aQ d) Ψ ci (Same.keys (by simp[aQ,aD,aE,m,f,e,l,k,g]) (by simp[aQ,aD,aE,m,f,e,l,k,g])) (by simp only[aQ,aD,aE,m,f,e,l,k,g,b5,cb];exact aX) (by simp only[aQ,aD,aE,m,f,e,l,k,g,b5,cb];exact aX) ?_;simp[dc,ba,bf,a6,aM,ae,aQ,aD,aE,m,f,e,l,k,g])
     |true=>
      have B:(dp u s.shaped).getD false=true:=by rw[<-e];exact hu
      rw[if_neg (by simp[hu]),hr]at z;obtain⟨a,Y,rfl⟩:=z;have key:=Hs V9 u n _ _ _ _ Y;rw[show d.shp u=(dp u s.shape).getD .nil from by rw[<-f];rfl]at key;rcases P with⟨rfl,rfl,q⟩|⟨rfl,rfl,q⟩;all_goals
       (repeat' first|refine al ?_|simp[O,q,F,B])
       (refine CallDo.ob (key) d8 (by simp only[fe,aD,aE,m,f,e,l,k,g,b5,cb];exact aX) (by simp only[fe,aD,aE,m,f,e,l,k,g,b5,cb];exact aX) (by simp[aM,ae,fe,aD,aE,m,f,e,l,k,g]) ?_;rintro r w ⟨rfl,rfl⟩;refine⟨(Same.keys (by simp[fe,aD,aE,m,f,e,l,k,g]) (by simp[fe,aD,aE,m,f,e,l,k,g])),?_⟩;simp[cK,fe,aD,aE,m,f,e,l,k,g])
       (repeat' first|refine al ?_|simp)
       (refine c5.at (aQ a.c) Ψ ci (Same.keys co co) bv bv ?_;simp[dc,ba,bf,a6,aM,ae,aQ,aD,aE])
    |true=>
     have F:(dp v s.shaped).getD false=true:=by rw[<-e];exact N
     rw[if_neg (by simp[N])]at z;rw[show d.shp v=(dp v s.shape).getD .nil from by rw[<-f];rfl]at z;cases hu:d.shd u with
     |false=>
      have B:(dp u s.shaped).getD false=false:=by rw[<-e];exact hu
      rw[if_pos hu]at z;have key:=VO n u _ d p z;cases G:dp v s.shape;all_goals
       rw[G]at key
       simp only[mr,mW]at key
       rcases P with⟨rfl,rfl,q⟩|⟨rfl,rfl,q⟩
       all_goals
        (repeat' first|refine al ?_|simp[O,q,F,B,G])
        (refine CallDo.ob (key) ci (by simp only[aQ,aD,aE,m,f,e,l,k,g,b5,cb];exact aX) (by simp only[aQ,aD,aE,m,f,e,l,k,g,b5,cb];exact aX) (by simp[aM,ae,aQ,aD,aE,m,f,e,l,k,g]) ?_;rintro r w ⟨rfl,rfl⟩;refine⟨(Same.keys (by simp[aQ,aD,aE,m,f,e,l,k,g]) (by simp[aQ,aD,aE,m,f,e,l,k,g])),?_⟩;simp[cK,aQ,aD,aE,m,f,e,l,k,g])
        (repeat' first|refine al ?_|simp)
        (refine c5.at (aQ p.2) Ψ ci (Same.keys co co) bv bv ?_;simp[dc,ba,bf,a6,aM,ae,aQ,aD,aE])
     |true=>
      have B:(dp u s.shaped).getD false=true:=by rw[<-e];exact hu
      rw[if_neg (by simp[hu]),mV]at z;obtain⟨a,Y,R⟩:=z;have key:=Hs V9 u n _ _ _ _ Y;obtain⟨o,G⟩:∃o,dp v s.shape=o:=⟨_,rfl⟩;rw[G]at key R;obtain⟨ac,CR,KQ⟩:=a;cases KQ with
      |true=>
       simp at R;subst R;cases o;all_goals
        simp only[mr,mW]at key
        rcases P with⟨rfl,rfl,q⟩|⟨rfl,rfl,q⟩
        all_goals
         (repeat' first|refine al ?_|simp[O,q,F,B,G])
         (refine hH.ob (key) d8 d8 (Same.keys (by simp[fe,aD,aE,m,f,e,l,k,g]) (by simp[fe,aD,aE,m,f,e,l,k,g])) (by simp only[fe,aD,aE,m,f,e,l,k,g,b5,cb];exact aX) (by simp only[fe,aD,aE,m,f,e,l,k,g,b5,cb];exact aX) (by simp[aM,ae,fe,aD,aE,m,f,e,l,k,g]) ?_;simp[cK,fe,aD,aE,m,f,e,l,k,g])
         (repeat' first|refine al ?_|simp)
         (refine c5.at (aQ ac) Ψ ci (Same.keys co co) bv bv ?_;simp[dc,ba,bf,a6,aM,ae,aQ,aD,aE])
      |false=>
       simp only[hQ,if_false,mV]at R;obtain⟨b,eb,S⟩:=R;have Q:=Hs Z u n _ _ _ _ eb;rw[show ac.shp u=(dp u ac.shape).getD .nil from rfl]at Q;obtain⟨KW,atV,aee⟩:=b;cases aee with
       |true=>
        simp at S;subst S;cases o;all_goals
         simp only[mr,mW]at key
         rcases P with⟨rfl,rfl,q⟩|⟨rfl,rfl,q⟩
         all_goals
          (repeat' first|refine al ?_|simp[O,q,F,B,G])
          (refine hH.ob (key) d8 d8 (Same.keys (by simp[fe,aD,aE,m,f,e,l,k,g]) (by simp[fe,aD,aE,m,f,e,l,k,g])) (by simp only[fe,aD,aE,m,f,e,l,k,g,b5,cb];exact aX) (by simp only[fe,aD,aE,m,f,e,l,k,g,b5,cb];exact aX) (by simp[aM,ae,fe,aD,aE,m,f,e,l,k,g]) ?_;simp[cK,fe,aD,aE,m,f,e,l,k,g])
          (repeat' first|refine al ?_|simp)
          (refine hH.ob (Q) d8 d8 (Same.keys (by simp[fe,aD,aE]) (by simp[fe,aD,aE])) (by simp only[fe,aD,aE,b5,cb];exact aX) (by simp only[fe,aD,aE,b5,cb];exact aX) (by simp[aM,ae,fe,aD,aE]) ?_;simp[cK,fe,aD,aE])
          (repeat' first|refine al ?_|simp)
          (refine c5.at (aQ KW) Ψ ci (Same.keys co co) bv bv ?_;simp[dc,ba,bf,a6,aM,ae,aQ,aD,aE])
       |false=>
        simp only[hQ,if_false]at S;have NX:=L _ _ _ _ S;rw[show KW.shp u=(dp u KW.shape).getD .nil from rfl]at NX;cases o;all_goals
         simp only[mr,mW]at key NX
         rcases P with⟨rfl,rfl,q⟩|⟨rfl,rfl,q⟩
         all_goals
          (repeat' first|refine al ?_|simp[O,q,F,B,G])
          (refine hH.ob (key) d8 d8 (Same.keys (by simp[fe,aD,aE,m,f,e,l,k,g]) (by simp[fe,aD,aE,m,f,e,l,k,g])) (by simp only[fe,aD,aE,m,f,e,l,k,g,b5,cb];exact aX) (by simp only[fe,aD,aE,m,f,e,l,k,g,b5,cb];exact aX) (by simp[aM,ae,fe,aD,aE,m,f,e,l,k,g]) ?_;simp[cK,fe,aD,aE,m,f,e,l,k,g])
          (repeat' first|refine al ?_|simp)
          (refine hH.ob (Q) d8 d8 (Same.keys (by simp[fe,aD,aE]) (by simp[fe,aD,aE])) (by simp only[fe,aD,aE,b5,cb];exact aX) (by simp only[fe,aD,aE,b5,cb];exact aX) (by simp[aM,ae,fe,aD,aE]) ?_;simp[cK,fe,aD,aE])
          (repeat' first|refine al ?_|simp)
          (refine hH.ob (NX) ci ci (Same.keys co co) bv bv d7 ?_;simp[cK,aQ,aD,aE])
          (repeat' first|refine al ?_|simp)
          (refine c5.at (aQ p.2) Ψ ci (Same.keys co co) bv bv ?_;simp[dc,ba,bf,a6,aM,ae,aQ,aD,aE])
  have N:∀i,a= .var i->b.kind≠1->bG au 218 [aE,a.e,b.e] (aQ c) fun r w=>r= .bool p.1/\w=aQ p.2:=by
   rintro i rfl ag;have xx:((rt c i).bind fun p=>if p.2.shd p.1=false then wB n p.1 b p.2 else hs n (p.2.shp p.1) b p.2)=some p:=by cases b<;>first|exact he|simp at ag
   simp only[mV]at xx;obtain⟨⟨x,A⟩,J,U⟩:=xx;simp only at U;have dZ:(b.kind==1)=false:=by simp[ag]
   simp only[aQ,aD]at t⊢;refine bG.mk mixed a1 Tryz.func218 zW Ψ t.obj fun M K=>?_;unfold w9;simp[aE];(repeat' first|refine al ?_|simp[dZ,ag]);(refine CallDo.ob (s8 c i x A J) ci bv bv d7 ?_;rintro r w ⟨rfl,rfl⟩;refine⟨(Same.keys co co),?_⟩;simp[cK,aQ,aD,aE]);cases W:A.shd x with
   |false=>have X:(dp x A.shaped).getD false=false:=W;rw[if_pos W]at U;(repeat' first|refine al ?_|simp[X]);(refine CallDo.ob (VO n x b A p U) ci bv bv d7 ?_;rintro r w ⟨rfl,rfl⟩;refine⟨(Same.keys co co),?_⟩;simp[cK,aQ,aD,aE]);(refine c5.at (aQ p.2) Ψ ci (Same.keys co co) bv bv ?_;simp[dc,ba,bf,a6,aM,ae,aQ,aD,aE])
   |true=>have X:(dp x A.shaped).getD false=true:=W;rw[if_neg (by simp[W])]at U;have key:=L _ _ _ _ U;(repeat' first|refine al ?_|simp[X]);(refine hH.ob (key) ci ci (Same.keys co co) bv bv d7 ?_;simp[cK,aQ,aD,aE]);(repeat' first|refine al ?_|simp);(refine c5.at (aQ p.2) Ψ ci (Same.keys co co) bv bv ?_;simp[dc,ba,bf,a6,aM,ae,aQ,aD,aE])
  cases a with
  |var i=>
   cases b with
   |var j=>exact Ex i j rfl rfl
   |_=>exact N i rfl Ψ
  |pair bq a2=>
   cases b with
   |var j=>simp only[hs]at he;have key:=L _ _ _ _ he;simp only[aQ,aD]at t⊢;refine bG.mk mixed a1 Tryz.func218 zW Ψ t.obj fun M K=>?_;unfold w9;simp[aE];(refine CallDo.ob (key) ci bv bv d7 ?_;rintro r w ⟨rfl,rfl⟩;refine⟨(Same.keys co co),?_⟩;simp[cK,aQ,aD,aE]);(refine c5.at (aQ p.2) Ψ ci (Same.keys co co) bv bv ?_;simp[dc,ba,bf,a6,aM,ae,aQ,aD,aE])
   |pair cm b9=>
    simp only[hs,mV]at he;obtain⟨⟨f1,A⟩,J,U⟩:=he;have key:=L _ _ _ _ J;simp only[aQ,aD]at t⊢;refine bG.mk mixed a1 Tryz.func218 zW Ψ t.obj fun M K=>?_;unfold w9;simp[aE];(repeat' first|refine al ?_|simp);(refine hH.ob (key) ci ci (Same.keys co co) bv bv d7 ?_;simp[cK,aQ,aD,aE]);cases f1 with
    |false=>simp at U;subst U;(repeat' first|refine al ?_|simp);(refine c5.at (aQ A) Ψ ci (Same.keys co co) bv bv ?_;simp[dc,ba,bf,a6,aM,ae,aQ,aD,aE])
    |true=>simp at U;have Q:=L _ _ _ _ U;(repeat' first|refine al ?_|simp);(refine hH.ob (Q) ci ci (Same.keys co co) bv bv d7 ?_;simp[cK,aQ,aD,aE]);(repeat' first|refine al ?_|simp);(refine c5.at (aQ p.2) Ψ ci (Same.keys co co) bv bv ?_;simp[dc,ba,bf,a6,aM,ae,aQ,aD,aE])
   |_=>simp[hs]at he;subst he;simp only[aQ,aD]at t⊢;refine bG.mk mixed a1 Tryz.func218 zW Ψ t.obj fun M K=>?_;unfold w9;simp[aE];(refine c5.at (aQ c) Ψ ci (Same.keys co co) bv bv ?_;simp[dc,ba,bf,a6,aM,ae,aQ,aD,aE])
  |_=>
   cases b with
   |var j=>simp only[hs]at he;have key:=L _ _ _ _ he;simp only[aQ,aD]at t⊢;refine bG.mk mixed a1 Tryz.func218 zW Ψ t.obj fun M K=>?_;unfold w9;simp[aE];(refine CallDo.ob (key) ci bv bv d7 ?_;rintro r w ⟨rfl,rfl⟩;refine⟨(Same.keys co co),?_⟩;simp[cK,aQ,aD,aE]);(refine c5.at (aQ p.2) Ψ ci (Same.keys co co) bv bv ?_;simp[dc,ba,bf,a6,aM,ae,aQ,aD,aE])
   |_=>
    simp[hs]at he;subst he;simp only[aQ,aD]at t⊢;refine bG.mk mixed a1 Tryz.func218 zW Ψ t.obj fun M K=>?_;unfold w9;simp[aE];((repeat' first|refine al ?_|simp|((first|apply ct|apply cz|apply cy)<;>intro h<;>try simp at h))<;>(try exact c3));all_goals(refine c5.at (aQ c) Ψ ci (Same.keys co co) bv bv ?_;simp[dc,ba,bf,a6,aM,ae,aQ,aD,aE])
    all_goals simp_all
def nK(c:bJ):Prop:= ∀x,0<=c.sz x/\c.sz x<=5001
def nK.rt{c:bJ}(h:nK c){v r:Int}{a:bJ}(he:rt c v=some (r,a)):nK a:=by simp only[Pv.rt,hr,jn]at he;obtain⟨p,_,_,rfl⟩:=he;exact h
def nK.put{c:bJ}(h:nK c){x k:Int}(ab:0<=k/\k<=5001)(m:List (Int×Int)):nK {c with size:=fB x k c.size,color:=m}:=fun z=>by
 show 0<=(dp z (fB x k c.size)).getD 0/\(dp z (fB x k c.size)).getD 0<=5001;rw[oR];split
 ·exact ab
 ·exact h z
def ajz(c:bJ)(v:Int)(p:Int×bJ)(he:Ap v c=some p):bG au 259 [aj v,.eptr aE] (aQ c) fun r d=>r=aj p.1/\d=aQ p.2:=by have b:=cx c;simp only[Ap,hr]at he;obtain⟨⟨r,a⟩,J,rfl⟩:=he;simp only[aQ,aD]at b⊢;refine bG.mk mixed a1 Tryz.func259 anP Ψ b.obj fun f e=>?_;unfold Sm;simp[aE];(refine hH.ob (s8 c v r a J) ci ci (Same.keys co co) bv bv d7 ?_;simp[cK,aQ,aD,aE]);(repeat' first|refine al ?_|simp);(refine c5.at (aQ a) Ψ ci (Same.keys co co) bv bv ?_;simp[dc,ba,bf,a6,aM,ae,aQ,aD,aE]);all_goals rfl
def hk(a:bJ×Bool):cS:=⟨aD a.1++[(.obj 712,[.bool a.2])],[]⟩
def r6(a):eA (hk a):=by unfold hk aD;exact eA.of ⟨by intro m;simp[ae],by intro m;simp[ae]⟩ Ψ Ψ
def adH(a b):Same (hk a) (hk b):=Same.keys (by simp[hk,aD]) (by simp[hk,aD])
def ajy(n:Nat)(h:∀x c p,rV n x c=some p->nK c->nK p.2/\bG au 248 [aE,aj x] (aQ c) fun r d=>r= .bool p.1/\d=aQ p.2)
  (v:Int) (a br:bJ×Bool) (g:nK a.1) (he:Az (rV n) v a=some br):nK br.1/\bG au 258 [aj v,.ptr (.obj 712) 0,.eptr aE] (hk a) fun r d=>r= .tuple []/\d=hk br:=by
 have b:=r6 a;obtain⟨c,f⟩:=a;cases f with
 |false=>simp[Az]at he;subst he;refine⟨g,?_⟩;simp only[hk,aD,b5,cb]at b⊢;refine bG.mk mixed a1 Tryz.func258 Zl Ψ b.obj fun k i=>?_;unfold K6;simp[aE];(repeat' first|refine al ?_|simp);(refine c5.at (hk (c,false)) Ψ (by first|exact r6 _|exact r6 ‹_› _) (Same.keys (by simp[hk,aD,aE]) (by simp[hk,aD,aE])) (by simp only[hk,aD,aE,b5,cb];exact aX) (by simp only[hk,aD,aE,b5,cb];exact aX) ?_;simp[dc,ba,bf,a6,aM,ae,hk,aD,aE])
 |true=>
  simp only[Az,if_true,mV,hr]at he;obtain⟨⟨r,j⟩,J,⟨f2,e⟩,U,rfl⟩:=he;obtain⟨z2,key⟩:=h _ _ _ U (g.rt J);refine⟨z2,?_⟩;simp only[hk,aD,b5,cb]at b⊢;refine bG.mk mixed a1 Tryz.func258 Zl Ψ b.obj fun k i=>?_;unfold K6;simp[aE];(repeat' first|refine al ?_|simp);(refine hH.ob (s8 c v r j J) ci ci (Same.keys co co) bv bv d7 ?_;simp[cK,aQ,aD,aE]);(repeat' first|refine al ?_|simp);(refine hH.ob (key) ci ci (Same.keys co co) bv bv d7 ?_;simp[cK,aQ,aD,aE]);cases f2 with
  |true=>(repeat' first|refine al ?_|simp);(refine c5.at (hk (e,true)) Ψ (by first|exact r6 _|exact r6 ‹_› _) (Same.keys (by simp[hk,aD,aE]) (by simp[hk,aD,aE])) (by simp only[hk,aD,aE,b5,cb];exact aX) (by simp only[hk,aD,aE,b5,cb];exact aX) ?_;simp[dc,ba,bf,a6,aM,ae,hk,aD,aE])
  |false=>(repeat' first|refine al ?_|simp);(refine c5.at (hk (e,false)) Ψ (by first|exact r6 _|exact r6 ‹_› _) (Same.keys (by simp[hk,aD,aE]) (by simp[hk,aD,aE])) (by simp only[hk,aD,aE,b5,cb];exact aX) (by simp only[hk,aD,aE,b5,cb];exact aX) ?_;simp[dc,ba,bf,a6,aM,ae,hk,aD,aE])
def ajx(n:Nat):∀(x:Int) (c:bJ) (p:Bool×bJ),rV n x c=some p->nK c->nK p.2/\bG au 248 [aE,aj x] (aQ c) fun r t=>r= .bool p.1/\t=aQ p.2:=by
 induction n with
 |zero=>intro x c p h;simp[rV]at h
 |succ n B=>
  intro x c p he d;have b:=cx c;simp only[rV]at he;by_cases U:c.col x=2
  ·rw[if_pos U]at he;cases he;have l:jR c.color x=2:=U;refine⟨d,?_⟩;simp only[aQ,aD]at b⊢;refine bG.mk mixed a1 Tryz.func248 E8 Ψ b.obj fun s q=>?_;unfold AU;simp[aE];(repeat' first|refine al ?_|simp[l]);(refine c5.at (aQ c) Ψ ci (Same.keys co co) bv bv ?_;simp[dc,ba,bf,a6,aM,ae,aQ,aD,aE])
  rw[if_neg U]at he;have l:(jR c.color x==2)=false:=by simp;exact U
  by_cases J:c.col x=1
  ·rw[if_pos J]at he;cases he;have g:jR c.color x=1:=J;refine⟨d,?_⟩;simp only[aQ,aD]at b⊢;refine bG.mk mixed a1 Tryz.func248 E8 Ψ b.obj fun s q=>?_;unfold AU;simp[aE];(repeat' first|refine al ?_|simp[g]);(refine c5.at (aQ c) Ψ ci (Same.keys co co) bv bv ?_;simp[dc,ba,bf,a6,aM,ae,aQ,aD,aE])
  rw[if_neg J]at he;have g:(jR c.color x==1)=false:=by simp;exact J
  have y:nK (c.grey x):=d.put Ω _;cases o:(c.grey x).shd x with
  |false=>rw[if_pos o]at he;cases he;have m:(dp x c.shaped).getD false=false:=o;refine⟨y,?_⟩;simp only[aQ,aD]at b⊢;refine bG.mk mixed a1 Tryz.func248 E8 Ψ b.obj fun s q=>?_;unfold AU;simp[aE];(repeat' first|refine al ?_|simp[l,g,m]);(refine c5.at (aQ ((c.grey x).black x)) Ψ ci (Same.keys (by simp[aQ,aD,aE,bJ.grey,bJ.black]) (by simp[aQ,aD,aE,bJ.grey,bJ.black])) (by simp only[aQ,aD,aE,bJ.grey,bJ.black,b5,cb];exact aX) (by simp only[aQ,aD,aE,bJ.grey,bJ.black,b5,cb];exact aX) ?_;simp[dc,ba,bf,a6,aM,ae,aQ,aD,aE,bJ.grey,bJ.black])
  |true=>
   rw[if_neg (by simp[o]),mV]at he;have m:(dp x c.shaped).getD false=true:=o;obtain⟨⟨e,f⟩,E,j⟩:=he;simp only at j;obtain⟨i,key⟩:=VJ hk r6 adH 258 [.ptr (.obj 712) 0,.eptr aE] (fun a=>by simp[hk,aD,aE,aM,ae]) rfl (fun a=>nK a.1) (Az (rV n)) (fun v a br d h=>ajy n B v a br d h) _ _ _ y E;rw[show(c.grey x).shp x=(dp x c.shape).getD .nil from rfl]at key;cases f with
   |false=>simp at j;subst j;refine⟨i,?_⟩;simp only[aQ,aD]at b⊢;refine bG.mk mixed a1 Tryz.func248 E8 Ψ b.obj fun s q=>?_;unfold AU;simp[aE];(repeat' first|refine al ?_|simp[l,g,m]);(refine CallDo.ob (key) (by first|exact r6 _|exact r6 ‹_› _) (by simp only[hk,aD,aE,bJ.grey,b5,cb];exact aX) (by simp only[hk,aD,aE,bJ.grey,b5,cb];exact aX) (by simp[aM,ae,hk,aD,aE,bJ.grey]) ?_;rintro r t ⟨rfl,rfl⟩;refine⟨(Same.keys (by simp[hk,aD,aE,bJ.grey]) (by simp[hk,aD,aE,bJ.grey])),?_⟩;simp[cK,hk,aD,aE,bJ.grey]);(repeat' first|refine al ?_|simp);(refine c5.at (aQ e) Ψ ci (Same.keys co co) bv bv ?_;simp[dc,ba,bf,a6,aM,ae,aQ,aD,aE])
   |true=>
    rw[if_neg Ψ,hr]at j;obtain⟨⟨k,w⟩,z,rfl⟩:=j;obtain⟨z2,A,u⟩:=ajn aQ cx Gk 259 [.eptr aE] (fun a=>by simp[aQ,aD,aE,aM,ae]) rfl nK Ap (fun v a p d h=>by simp only[Ap,hr]at h;obtain⟨⟨r,F⟩,J,rfl⟩:=h;exact⟨d.rt J,(d.rt J r).1,Int.le_trans (d.rt J r).2 Ω⟩) (fun v a p _ h=>ajz a v p h) _ _ _ i z
    rw[show bJ.shp e x=(dp x e.shape).getD .nil from rfl]at u;refine⟨z2.put A _,?_⟩;simp only[aQ,aD]at b⊢;refine bG.mk mixed a1 Tryz.func248 E8 Ψ b.obj fun s q=>?_;unfold AU;simp[aE];(repeat' first|refine al ?_|simp[l,g,m]);(refine CallDo.ob (key) (by first|exact r6 _|exact r6 ‹_› _) (by simp only[hk,aD,aE,bJ.grey,b5,cb];exact aX) (by simp only[hk,aD,aE,bJ.grey,b5,cb];exact aX) (by simp[aM,ae,hk,aD,aE,bJ.grey]) ?_;rintro r t ⟨rfl,rfl⟩;refine⟨(Same.keys (by simp[hk,aD,aE,bJ.grey]) (by simp[hk,aD,aE,bJ.grey])),?_⟩;simp[cK,hk,aD,aE,bJ.grey]);(repeat' first|refine al ?_|simp);(refine hH.ob (u) ci ci (Same.keys co co) bv bv d7 ?_;simp[cK,aQ,aD,aE]);(repeat' first|refine al ?_|simp);(refine c5.at (aQ (({w with size:=fB x k w.size}:bJ).black x)) Ψ ci (Same.keys (by simp[aQ,aD,aE,bJ.black]) (by simp[aQ,aD,aE,bJ.black])) (by simp only[aQ,aD,aE,bJ.black,b5,cb];exact aX) (by simp only[aQ,aD,aE,bJ.black,b5,cb];exact aX) ?_;simp[dc,ba,bf,a6,aM,ae,aQ,aD,aE,bJ.black])
def ajw(n:Nat)(d:∀x c p,rU n x c=some p->bG au 249 [aE,aj x] (aQ c) fun r a=>r=p.1.e/\a=aQ p.2)
  (v:Int) (c:bJ) (p:T×bJ) (he:C4 (rU n) v c=some p):bG au 260 [aj v,.eptr aE] (aQ c) fun r a=>r= .tuple [p.1.e,.bool true]/\a=aQ p.2:=by
 have b:=cx c;simp only[C4,mV]at he;obtain⟨⟨r,e⟩,J,U⟩:=he;have key:=d _ _ _ U;simp only[aQ,aD]at b⊢;refine bG.mk mixed a1 Tryz.func260 anO Ψ b.obj fun g f=>?_;unfold Sl;simp[aE];(repeat' first|refine al ?_|simp);(refine hH.ob (s8 c v r e J) ci ci (Same.keys co co) bv bv d7 ?_;simp[cK,aQ,aD,aE]);(repeat' first|refine al ?_|simp);(refine hH.ob (key) ci ci (Same.keys co co) bv bv d7 ?_;simp[cK,aQ,aD,aE]);(repeat' first|refine al ?_|simp);(refine c5.at (aQ p.2) Ψ ci (Same.keys co co) bv bv ?_;simp[dc,ba,bf,a6,aM,ae,aQ,aD,aE])
def l2(n:Int):bU au 116 [aj n] (T.var n).e:=by refine bH a1 Tryz.func116 an7 fun a=>?_;unfold SF;exact cp
def ajv(n:Nat):∀(x:Int) (c:bJ) (p:T×bJ),rU n x c=some p->bG au 249 [aE,aj x] (aQ c) fun r j=>r=p.1.e/\j=aQ p.2:=by
 induction n with
 |zero=>intro x c p h;simp[rU]at h
 |succ n l=>
  intro x c p he;have b:=cx c;simp only[rU]at he;cases d:dp x c.full with
  |some t=>rw[d]at he;cases he;simp only[aQ,aD]at b⊢;refine bG.mk mixed a1 Tryz.func249 O3 Ψ b.obj fun k g=>?_;unfold GC;simp[aE];(repeat' first|refine al ?_|simp[d]);(refine c5.at (aQ c) Ψ ci (Same.keys co co) bv bv ?_;simp[dc,ba,bf,a6,aM,ae,aQ,aD,aE])
  |none=>
   rw[d]at he;simp only at he;cases e:c.shd x with
   |false=>have f:(dp x c.shaped).getD false=false:=e;rw[if_pos e]at he;cases he;simp only[aQ,aD]at b⊢;refine bG.mk mixed a1 Tryz.func249 O3 Ψ b.obj fun k g=>?_;unfold GC;simp[aE];(repeat' first|refine al ?_|refine aO (l2 _) ?_|refine aP (l2 _) ?_|simp[d,f]);(refine c5.at (aQ {c with full:=fB x (.var x) c.full}) Ψ ci (Same.keys co co) bv bv ?_;simp[dc,ba,bf,a6,aM,ae,aQ,aD,aE])
   |true=>have f:(dp x c.shaped).getD false=true:=e;rw[if_neg (by simp[e]),hr]at he;obtain⟨⟨t,i⟩,J,rfl⟩:=he;have key:=ai3 aQ cx Gk 260 [.eptr aE] (fun a=>by simp[aQ,aD,aE,aM,ae]) rfl (C4 (rU n)) (fun v a p h=>ajw n l v a p h) _ _ _ J;rw[show c.shp x=(dp x c.shape).getD .nil from rfl]at key;simp only[aQ,aD]at b⊢;refine bG.mk mixed a1 Tryz.func249 O3 Ψ b.obj fun k g=>?_;unfold GC;simp[aE];(repeat' first|refine al ?_|refine aO (l2 _) ?_|refine aP (l2 _) ?_|simp[d,f]);(refine CallDo.ob (key) ci bv bv d7 ?_;rintro r j ⟨rfl,rfl⟩;refine⟨(Same.keys co co),?_⟩;simp[cK,aQ,aD,aE]);(repeat' first|refine al ?_|simp);(refine c5.at (aQ {i with full:=fB x t i.full}) Ψ ci (Same.keys co co) bv bv ?_;simp[dc,ba,bf,a6,aM,ae,aQ,aD,aE])
def ajc:bG au 215 [] ⟨[],[]⟩ fun r a=>r=aE/\a=aQ bJ.new:=by have b:eA ⟨[],[]⟩:=eA.of sE Ψ Ψ;refine bG.mk mixed a1 Tryz.func215 anW Ψ b.obj fun d c=>?_;unfold Su;simp;refine c5.new (aQ bJ.new) (.inl rfl) (cx _) ⟨trivial,trivial⟩ (by simp only[aQ,aD,bJ.new];exact aX) (by simp only[aQ,aD,bJ.new];exact aX) ?_;simp[dc,ba,bf,a6,aM,ae,aQ,aD,aE]
def abO{a b:List Int}(h:a.Perm b):sJ a=sJ b:=by
 have e:∀a b c:Int,(decide (a<=b))=true->(decide (b<=c))=true->(decide (a<=c))=true:=by intro a b c;simp;omega
 have d:∀a b:Int,(decide (a<=b)||decide (b<=a))=true:=by intro a b;simp;omega
 have J:=List.pairwise_mergeSort e d a;have U:=List.pairwise_mergeSort e d b;refine Rb (le:=fun x y:Int=>(decide (x<=y))=true) (fun x y _ _ J U=>by simp at J U;omega) J U ?_;exact(List.mergeSort_perm a _).trans (h.trans (List.mergeSort_perm b _).symm)
def alJ(l:List Int)(k:Nat)(st:bp):Prop:=∃(seen:List Nat) (xs:List Int),seen.Nodup/\(∀b∈seen,b<l.length)/\k=l.length-seen.length/\xs=seen.filterMap (fun b=>l[b]?)/\xs.length=seen.length/\st=⟨[(3,.row 1 (.obj 306) xs.length),(7,.ptr (.loc 0) 0)],[(.obj 304,pM l),(.loc 0,cc l.length seen (.obj 304))],[(.obj 306,⟨xs.length,3,1,some (e4 xs)⟩)],1,[.obj 306,.obj 304]⟩
@[simp]def avq(xs:List Int):(e4 xs).length=xs.length:=by simp[e4]
@[simp]def axV(xs:List Int):cf (e4 xs)=e4 xs:=by
 induction xs with
 |nil=>rfl
 |cons x r a=>simp only[e4,gV,cf,b7]at a⊢;rw[a]
@[simp]def avr:e4 []=[]:=rfl
def alE(xs:List Int)(x:Int):e4 xs++[af.int .i64 x]=e4 (xs++[x]):=by simp[e4]
def aju(l:List Int)(v:l.length<=1000000):bG au 136 [.gmap (.obj 304)] (vD l) fun r n=>r=cZ (e4 (sJ l))/\n=vD l:=by
 have e:=Rk l;unfold vD at e⊢;refine bG.mk mixed a1 Tryz.func136 an6 Ψ e.obj fun w m=>?_;unfold SE;simp;refine qu (alJ l) l.length _ ⟨by simp[fresh,aH,az,cc,aM,ae,n2,u3],eo (by simp[fresh,aH,az,cc,aM,ae,n2,u3]),ep (by simp[fresh,aH,az,dV,aM,ae,n2,u3]),Ψ⟩ ⟨[],[],Ψ,Ψ,Ψ,Ψ,Ψ,rfl⟩ ?_;rintro k st ⟨seen,xs,d,a,ab,i,s,rfl⟩ q m;clear q m;have hle:=JT d a;simp;refine afz (mk:= .obj 304) (seen:=seen) (l:=l) Ψ Ψ rfl (fun p=>?_) (fun b x g o=>?_)
 ·simp;have h:=Qe d a p;rw[<-i]at h;refine CallDo.ob (ajr 306 xs Ω) (KB 306 xs) (by unfold oo;exact aX) (by unfold oo;exact aX) (by simp[oo,aM,ae]) ?_;rintro r n ⟨rfl,rfl⟩;refine⟨⟨fun _=>rfl,fun k=>by simp only[oo,ae];split<;>rfl⟩,?_⟩;unfold oo;simp[cK,abN];refine c5.at _ (.inl rfl) e (Same.refl _) aX aX ?_;simp[dc,ba,bf,a6];rw[abO h];simp[az,u3]
 ·have t:∀f:aB->bd (List af),f (.loc 0)=some (cc l.length (seen++[b]) (.obj 304))->f (.obj 304)=some (pM l)->qP f (.ptr (.loc 0) 0)=some (True,.tuple [aj x,.bool true]):=fun f J U=>amB f (.loc 0) (.obj 304) l.length seen b l x J U rfl g;have j:b<l.length:=(fI.1 g).1;have u:=Qf d a j o;simp[t,alE];refine⟨by unfold lim;omega,?_⟩;refine bY.next (l.length-(seen.length+1)) Ω ⟨seen++[b],xs++[x],OT d o,(by simp;intro c ax;rcases ax with ax|rfl;exact a c ax;exact j),Ψ,by rw[List.filterMap_append,<-i];simp[g],by simp[s],rfl⟩ ⟨by simp[fresh,aH,az,cc,aM,ae,n2,u3],eo (by simp[fresh,aH,az,cc,aM,ae,n2,u3]),ep (by simp[fresh,aH,az,dV,aM,ae,n2,u3]),Ψ⟩
@[simp]def avF(S:aB->Prop)(xs:List Int):aH S (e4 xs)=True:=h1 (u3 S xs)
@[simp]def aud:cells .junk=[.junk]:=rfl
def SD:C:=(aa [fo 6 5,bz 7 false] (aa [dS 12 215 [],I 8 12] (.seq (aa [I 13 0,cw 14 13,bP 15 0] (gw 16 15 14 (.seq (.block 1 (aa [ck 17 5 13 15,bg 18 5 17,dG 10 ks,bV 5 10 18] (aa [I 19 8,aF 20 0 1 10,ay 21 1 20,b8 22 216 19 21] (aa [I 23 8,hq 24 1 4 10,bg 25 4 24,b8 26 217 23 25] (.seq (.drawn false 69 [I 27 8,aF 28 0 1 10,ay 29 1 28,cT 30 116 29,hq 31 1 4 10,bg 32 4 31,dS 33 218 [.t 27,.t 30,.t 32],cM 34 33]) (aW 34 (aa [fo 6 5,bz 7 false] .ret) .skip)))))) (.region [aU 35 .add 15 1,I 15 35])))) (.seq (aa [I 36 1,cw 37 36,bP 38 0] (.block 2 (.loop (aa [bu 39 .lss 38 37] (.seq (aW 39 .skip (.exit 2)) (.seq (.block 3 (aa [I 40 38,I 11 40] (aa [I 41 8,I 42 1,I 43 11,ck 44 4 42 43,bg 45 4 44,b8 46 217 41 45] (aa [I 47 8,I 48 2,I 49 11,ck 50 4 48 49,bg 51 4 50,b8 52 217 47 51] (.seq (.drawn false 69 [I 53 8,I 54 1,I 55 11,ck 56 4 54 55,bg 57 4 56,I 58 2,I 59 11,ck 60 4 58 59,bg 61 4 60,dS 62 218 [.t 53,.t 57,.t 61],cM 63 62]) (aW 63 (aa [fo 6 5,bz 7 false] .ret) .skip)))))) (.region [aU 64 .add 38 1,I 38 64]))))))) (aa [I 65 8,cT 66 219 65,cX 67 0 66,cX 68 1 66,I 6 67,I 7 68] .ret)))))
def Sk:C:=(aa [fo 2 5,bz 3 false] (aa [dt (.mkmap 12 (some 304)),I 4 12] (.seq (aa [I 13 0,gv 14 13,aF 15 0 1 14,ay 16 1 15,dt (.range 17 none (.t 16))] (.block 0 (.loop (aa [⟨none,.next 18 (.t 17)⟩,cX 19 0 18] (.seq (aW 19 .skip (.exit 0)) (.block 1 (aa [cd 20 (.ment (.t 17)),cX 21 0 20,I 5 21] (.region [I 22 4,I 23 5,dt (.mput .i (.t 22) (.t 23) (.c (.bool true)))])))))))) (aa [I 24 4,cT 25 136 24,I 6 25] (aa [dt (.bslm 26 none 5 113 []),I 7 26] (.seq (aa [I 27 6,cw 28 27,bP 29 0] (.block 2 (.loop (aa [bu 30 .lss 29 28] (.seq (aW 30 .skip (.exit 2)) (.seq (.block 3 (aa [ck 31 1 27 29,ay 32 1 31,I 9 32] (aa [I 33 0,I 34 9,b8 35 216 33 34,I 10 35] (.seq (aa [I 36 0,I 37 10,b8 38 248 36 37,cM 39 38] (aW 39 (aa [fo 2 5,bz 3 false] .ret) .skip)) (.seq (aa [I 40 10,I 41 9,bu 42 .eql 40 41,I 43 42,cg 43 true 44 0,aw 43 true (gv 45 44),aw 43 true (aF 46 2 1 45),aw 43 true (ay 47 1 46),cg 43 true 48 10,aw 43 true (cd 49 (.mget .i (.bool false) false (.t 47) (.t 48))),aw 43 true (cM 50 49),ei 51 43 50] (aW 51 (.exit 3) .skip)) (aa [I 52 7,I 53 9,jy 54 ks [(0,1,(.t 53))],e1 55 5 113 [.t 54],dt (.appm 56 none 5 113 (.t 52) (.t 55)),I 7 56] (aa [I 57 0,gv 58 57,aF 59 4 1 58,ay 60 1 59,I 61 10,cd 62 (.mget .i (.int .i64 0) false (.t 60) (.t 61)),aU 63 .gtr 62 5000,I 64 63,cg 64 false 65 7,aw 64 false (cw 66 65),aw 64 false (aU 67 .gtr 66 400),dr 68 64 67] (aW 68 (aa [fo 2 5,bz 3 false] .ret) .skip)))))))) (.region [aU 69 .add 29 1,I 29 69]))))))) (.seq (aa [I 70 7,cw 71 70,bP 72 0] (.block 4 (.loop (aa [bu 73 .lss 72 71] (.seq (aW 73 .skip (.exit 4)) (.seq (.block 5 (aa [I 74 72,I 11 74] (.region [I 75 7,I 76 11,I 77 0,I 78 0,I 79 7,I 80 11,ck 81 5 79 80,aF 82 0 1 81,ay 83 1 82,b8 84 216 78 83,b8 85 249 77 84,cT 86 143 85,ck 87 5 75 76,hq 88 1 4 87,bV 4 88 86]))) (.region [aU 89 .add 72 1,I 72 89]))))))) (.seq (.pub 7 (.region [I 90 7,I 2 90,bz 3 true])) .ret))))))))
def an5:b3 aT SD [.tmp 6,.tmp 7] 3 Tryz.f186=true:=bi
def anN:b3 aT Sk [.tmp 2,.tmp 3] 1 Tryz.f219=true:=bi
def gB(o:bd (List Bd)):af:= .tuple [bL ((o.getD []).map Bd.e),.bool o.isSome]
def amD(f:aB->bd (List af))(gk mk:aB)(n:Nat)(seen:List Nat)(b:Nat)(l:List (Int×Int))(x:Int×Int)(hi:f gk=some (cc n (seen++[b]) mk))(hm:f mk=some (oJ l))(c:n=l.length)(a:l[b]? =some x):qP f (.ptr gk 0)=some (True,.tuple [aj x.1,aj x.2]):=by rw[YE f gk mk n seen b _ hi hm (by simpa using c)];simp[a]
def afA{st:bp}{d:Nat}{K:bp->Prop}{gk mk:aB}{n:Nat}{seen:List Nat}{l:List (Int×Int)}(hi:ae gk st.b=some (cc n seen mk))(hm:ae mk st.b=some (oJ l))(g:n=l.length)
  (J:(∀b,b<l.length->b∈seen)->K {st with t:=Pv.put d (.tuple [.bool false]) st.t}) (U:∀b x,l[b]? =some x->b∉seen->K {st with t:=Pv.put d (.tuple [.bool true,aj x.1,aj x.2]) st.t,b:=cI gk (cc n (seen++[b]) mk) st.b}):
  uH st d (.ptr gk 0) K:=by
 refine UJ hi hm (by simpa using g) (fun h=>J fun b a=>h b Ω) (fun b k v a f=>?_);simp only[List.getElem?_map,hr]at a;obtain⟨x,e,c⟩:=a;simp only[jn]at c;obtain⟨rfl,rfl⟩:=c;exact U b x e f
@[simp]def aw5(m:aB)(l:List (Int×Int)):Ae m (oJ l)=some (cc l.length [] m):=by simp[oJ,tM]
def o1(v:Int):af:= .agg [aj v,aj 0,aj 0,.str [],.slice 4 .nil []]
@[simp]def al5(S:aB->Prop)(l:List Int):aH S (l.map o1)=True:=by
 apply h1;induction l with
 |nil=>simp[aH]
 |cons x r a=>simp only[gV,aH];exact⟨by simp[o1,az,aH],a⟩
@[simp]def avT(S:aB->Prop)(v:Int):az S (o1 v)=True:=by simp[o1,az,aH]
@[simp]def axg(v:Int):eT (o1 v)=true:=rfl
@[simp]def atY(v:Int):cells (o1 v)=[aj v,aj 0,aj 0,.str [],.slice 4 .nil []]:=rfl
def aqH(v:Int)(f:Nat)(cs:List af):od (o1 v) f cs= .agg (nE [aj v,aj 0,aj 0,.str [],.slice 4 .nil []] f cs):=rfl
def jZ{S:aB->Prop}:∀{a b:List af},aH S (a++b)↔(aH S a/\aH S b)
 |[],b=>by simp[aH]
 |x::a,b=>by simp[aH,jZ (a:=a),and_assoc]
@[simp]def avE(S:aB->Prop)(k:Nat)(l:List Int):aH S (oU k (l.map o1))=True:=by rw[<-List.map_drop];exact al5 S _
@[simp]def av9(S:aB->Prop)(o:bd (List Bd)):az S (gB o)=True:=by simp[gB]
def KV(l:List Int)(v:Int):l.map o1++[.agg [aj v,aj 0,aj 0,.str [],.slice 4 .nil []]]=(l++[v]).map o1:=by simp[o1]
def alF(c:bJ)(k:Nat)(st:bp):Prop:=∃(seen:List Nat) (xs:List Int),seen.Nodup/\(∀b∈seen,b<c.up.length)/\k=c.up.length-seen.length/\xs=seen.filterMap (fun b=>(c.up[b]?).map (·.1))/\xs.length=seen.length/\st=⟨[(0,aE),(4,.gmap (.obj 304)),(17,.ptr (.loc 0) 0)],aD c++[(.obj 304,pM xs),(.loc 0,cc c.up.length seen (.obj 702))],[],1,[.obj 304,.obj 702,.obj 703,.obj 704,.obj 705,.obj 706,.obj 707]⟩
def aqR{c:bJ}{seen:List Nat}(e:seen.Nodup)(d:∀b∈seen,b<c.up.length)(a:∀b,b<c.up.length->b∈seen):(seen.filterMap fun b=>(c.up[b]?).map (·.1)).Perm (cG c.up):=by have:=Qe (l:=cG c.up) e (by simpa[cG]using d) (by simpa[cG]using a);simpa[cG]using this
def aqS{c:bJ}(g:(cG c.up).Nodup){seen:List Nat}{b:Nat}(j:b∉seen){x:Int×Int}(k:c.up[b]? =some x):x.1∉seen.filterMap fun b=>(c.up[b]?).map (·.1):=by
 intro hm;rw[List.mem_filterMap]at hm;obtain⟨b0,J,U⟩:=hm;obtain⟨y,i,l⟩:=hr.1 U;have e:(cG c.up)[b]? =some x.1:=by simp[cG,k]
 have f:(cG c.up)[b0]? =some x.1:=by simp[cG,i,l]
 have d:=(fI.1 e).1;have a:=(fI.1 f).1;have f1:=(fI.1 e).2;have f2:=(fI.1 f).2;rcases Nat.lt_trichotomy b b0 with h|h|h
 ·exact q6.1 g b b0 d a h (f1.trans f2.symm)
 ·subst h;exact j J
 ·exact q6.1 g b0 b a d h (f2.trans f1.symm)
def ajp(n:Nat)(c:bJ)(o:bd (List Bd))(he:FM n (sK (cG c.up)) c=some o)(Ej:(cG c.up).Nodup)(hlen:c.up.length<=1000000)(bC:nK c):bG au 219 [aE] (aQ c) fun r A=>r=gB o/\∃cC,A=aQ cC:=by
 have ai:=cx c;simp only[aQ,aD]at ai⊢;refine bG.mk mixed a1 Tryz.func219 anN Ψ ai.obj fun aR c4=>?_;unfold Sk;simp[aE];have O:∀S:aB->Prop,aH S (kZ []):=fun S=>n2 S [];refine qu (alF c) c.up.length _ ⟨by simp[fresh,aH,az,cc,aM,ae,n2,aE,aD,O],eo (by simp[fresh,aH,az,cc,aM,ae,n2,aE,aD,O]),ep (by simp[fresh,aH,az,dV,aM,ae,n2,aE,aD,O]),Ψ⟩ ⟨[],[],Ψ,Ψ,Ψ,Ψ,Ψ,rfl⟩ ?_;rintro k st ⟨seen,xs,s,K,ab,P,kV,rfl⟩ lP c4;clear lP c4;have hle:=JT s K;simp[aD,aE];refine afA (mk:= .obj 702) (seen:=seen) (l:=c.up) Ψ Ψ rfl (fun mC=>?_) (fun b x N p=>?_);rotate_left
 ·have BF:∀f:aB->bd (List af),f (.loc 0)=some (cc c.up.length (seen++[b]) (.obj 702))->f (.obj 702)=some (oJ c.up)->qP f (.ptr (.loc 0) 0)=some (True,.tuple [aj x.1,aj x.2]):=fun f J U=>amD f (.loc 0) (.obj 702) c.up.length seen b c.up x J U rfl N;have gg:b<c.up.length:=(fI.1 N).1;have qG:=Qf s K gg p;have jX:=aqS Ej p N;rw[<-P]at jX;simp[BF,KP,jX];refine bY.next (c.up.length-(seen.length+1)) Ω ⟨seen++[b],xs++[x.1],OT s p,(by simp;intro c ax;rcases ax with ax|rfl;exact K c ax;exact gg),Ψ,by rw[List.filterMap_append,<-P];simp[N],by simp[kV],rfl⟩ ⟨by simp[fresh,aH,az,cc,aM,ae,n2,aE,aD],eo (by simp[fresh,aH,az,cc,aM,ae,n2,aE,aD]),ep (by simp[fresh,aH,az,dV,aM,ae,n2,aE,aD]),Ψ⟩
 ·simp;have xJ:=aqR s K mC;rw[<-P]at xJ;have X:xs.length<=1000000:=Ω
  refine CallDo.ob (aju xs X) (Rk _) (by simp only[vD];exact aX) (by simp only[vD];exact aX) (by simp[aM,vD,ae]) ?_;rintro r A ⟨rfl,rfl⟩;refine⟨Same.refl _,?_⟩;have BM:sJ xs=sK (cG c.up):=abO xJ;rw[BM];obtain⟨bm,lr⟩:∃bm,bm=sK (cG c.up):=⟨_,rfl⟩;rw[<-lr]at he⊢;simp[vD,cK];simp only[FM,mV]at he;obtain⟨res,Bx,y⟩:=he;have p0:bm.length<=1000000:=by rw[lr,(FP _).length_eq];simpa[cG]using hlen
  refine fT (α:=bJ×List Int) (fun i a=>⟨[(0,aE),(27,cZ (e4 bm)),(28,aj bm.length),(7,.row 5 (.loc 1) a.2.length),(29,aj i)],aD a.1,[(.loc 1,⟨a.2.length,113,5,some (a.2.map o1)⟩)],2,[.obj 702,.obj 703,.obj 704,.obj 705,.obj 706,.obj 707]⟩) bm.length (fun i a=>ua n (bm.drop i) a.1 a.2=some res/\nK a.1/\a.2.length<=400) (c,[]) (by simp[aE,aD];exact⟨by simp[fresh,aH,az,cc,aM,ae,n2,aE,aD],eo (by simp[fresh,aH,az,cc,aM,ae,n2,aE,aD]),ep (by simp[fresh,aH,az,dV,aM,ae,n2,aE,aD]),Ψ⟩) ⟨by simpa using Bx,bC,Ψ⟩ ?_ ?_
  ·rintro⟨Q,out⟩ ⟨J,U,M⟩ p;simp only at J U M p⊢;simp[ua]at J;subst J;simp only[hr]at y;obtain⟨⟨L,aew⟩,Z,rfl⟩:=y;simp[aE,aD];refine fT (α:=bJ×List Bd) (fun j a=>⟨[(0,aE),(7,.row 5 (.loc 1) out.length),(71,aj out.length),(72,aj j)],aD a.1,[(.loc 1,⟨out.length,113,5,some (a.2.map Bd.e++(out.drop j).map o1)⟩)],2,[.obj 702,.obj 703,.obj 704,.obj 705,.obj 706,.obj 707]⟩) out.length (fun j a=>a.2.length=j/\∃rest,Aq n (out.drop j) a.1=some (rest,aew)/\a.2++rest=L) (Q,[]) (by simp[aE,aD];exact⟨by simp[fresh,aH,az,cc,aM,ae,aE,aD],eo (by simp[fresh,aH,az,cc,aM,ae,aE,aD]),ep (by simp[fresh,aH,az,dV,aM,ae,aE,aD]),Ψ⟩) ⟨rfl,L,by simpa using Z,rfl⟩ ?_ ?_
   ·rintro⟨w,done⟩ ⟨q,rest,m,g⟩ p;simp only at q m g p⊢;simp[Aq]at m;obtain⟨rfl,rfl⟩:=m;simp at g;subst g;simp[aE,aD,q];refine c5.at (aQ w) Ψ (cx _) (Same.keys (by simp[aQ,aD]) (by simp[aQ,aD])) (by simp only[aQ,aD];exact aX) (by simp only[aQ,aD];exact aX) ?_;simp[dc,ba,bf,a6,aQ,aD,gB];exact⟨w,Ψ⟩
   ·rintro j ⟨w,done⟩ B ⟨q,rest,m,g⟩ p;simp only at q m g p⊢;obtain⟨v,u⟩:∃v,out[j]? =some v:=⟨_,cl B⟩;have s:out.drop j=v::out.drop (j+1):=by rw[lG B];rw[cl B]at u;cases u;rfl
    rw[s]at m;simp only[Aq,mV,hr,jn]at m;obtain⟨⟨x,d⟩,eb,⟨t,h4⟩,lM,⟨V,aup⟩,uL,rfl,rfl⟩:=m;simp only at lM uL;have key:=ajv n x d _ lM;rw[s];have iI:∀R,(done.map Bd.e++o1 v::R)[j]? =some (o1 v):=fun R=>by rw[vv d6];simp[q]
    have xO:∀R x,(done.map Bd.e++o1 v::R).set j x=done.map Bd.e++x::R:=fun R x=>by rw[List.set_append_right _ _ d6];simp[q]
    simp[aE,aD];(repeat' first|refine al ?_|simp[iI,B]);(refine CallDo.ob (s8 w v x d eb) ci bv bv d7 ?_;rintro r A ⟨rfl,rfl⟩;refine⟨(Same.keys co co),?_⟩;simp[cK,aQ,aD,aE]);(repeat' first|refine al ?_|simp);(refine CallDo.ob (key) ci bv bv d7 ?_;rintro r A ⟨rfl,rfl⟩;refine⟨(Same.keys co co),?_⟩;simp[cK,aQ,aD,aE]);(repeat' first|refine al ?_|refine aO (vq _) ?_|refine aP (vq _) ?_|simp[iI,xO,B,aqH,-od]);refine bY.rng (h4,done++[⟨v,t⟩]) B ⟨by simp[q],V,uL,by simpa using g⟩ ?_;simp[aE,aD];exact⟨by simp[fresh,aH,az,cc,aM,ae,aE,aD,jZ],eo (by simp[fresh,aH,az,cc,aM,ae,aE,aD,jZ]),ep (by simp[fresh,aH,az,dV,aM,ae,aE,aD,jZ]),Ψ⟩
  ·rintro i ⟨Q,out⟩ hi ⟨J,U,M⟩ p;simp only at J U M p⊢;obtain⟨v,u⟩:∃v,bm[i]? =some v:=⟨_,cl hi⟩;have s:bm.drop i=v::bm.drop (i+1):=by rw[lG hi];rw[cl hi]at u;cases u;rfl
   rw[s]at J;simp only[ua,mV]at J;obtain⟨⟨x,w⟩,q,⟨f,d⟩,m,g⟩:=J;simp only at m g;obtain⟨z3,key⟩:=ajx n x w _ m (U.rt q);have Y:∀h,(e4 bm)[i]'h=aj v:=fun h=>by rw[cl hi]at u;simp only[dU]at u;simp[e4,u]
   simp[aE,aD];(repeat' first|refine al ?_|simp[Y,hi]);(refine CallDo.ob (s8 Q v x w q) ci bv bv d7 ?_;rintro r A ⟨rfl,rfl⟩;refine⟨(Same.keys co co),?_⟩;simp[cK,aQ,aD,aE]);(repeat' first|refine al ?_|simp);(refine CallDo.ob (key) ci bv bv d7 ?_;rintro r A ⟨rfl,rfl⟩;refine⟨(Same.keys co co),?_⟩;simp[cK,aQ,aD,aE]);cases f with
   |false=>simp at g;subst g;simp at y;subst y;(repeat' first|refine al ?_|simp);refine c5.at (aQ d) Ψ (cx _) (Same.keys (by simp[aQ,aD]) (by simp[aQ,aD])) (by simp only[aQ,aD];exact aX) (by simp only[aQ,aD];exact aX) ?_;simp[dc,ba,bf,a6,aQ,aD,gB];exact⟨d,Ψ⟩
   |true=>
    simp only[Bool.true_eq_false,if_false]at g;by_cases ax:x=v/\d.shd x=false
    ·rw[if_pos ax]at g;obtain⟨W,nt⟩:=ax;subst W;have uW:(dp x d.shaped).getD false=false:=nt;(repeat' first|refine al ?_|simp[uW]);refine bY.rng (d,out) hi ⟨g,z3,M⟩ ?_;exact⟨by simp[fresh,aH,az,cc,aM,ae,aE,aD],eo (by simp[fresh,aH,az,cc,aM,ae,aE,aD]),ep (by simp[fresh,aH,az,dV,aM,ae,aE,aD]),Ψ⟩
    ·rw[if_neg ax]at g;have WW:(x==v)=false\/((x==v)=true/\(dp x d.shaped).getD false=true):=by
      by_cases e:x=v
      ·right;refine⟨by simp[e],?_⟩;cases aC:d.shd x with
       |false=>exact absurd ⟨e,aC⟩ ax
       |true=>exact aC
      ·left;simp[e]
     by_cases H:5000<d.sz x\/400<out.length+1
     ·rw[if_pos H]at g;cases g;simp at y;subst y;have oD:(decide (5000<jR d.size x))=true\/(decide (5000<jR d.size x)=false/\400<out.length+1):=by
       by_cases e:5000<jR d.size x
       ·left;simp[e]
       ·right;exact⟨by simp[e],H.resolve_left e⟩
      have E:True:=trivial;have F:True:=trivial;rcases WW with z|⟨z,E⟩;all_goals
       rcases oD with G|⟨G,F⟩
       all_goals
        ((repeat' first|refine al ?_|simp[z,E,G,F]|((first|apply ct|apply cz|apply cy)<;>intro h<;>try simp at h))<;>(try exact c3))
        refine c5.at (aQ d) Ψ (cx _) (Same.keys (by simp[aQ,aD]) (by simp[aQ,aD])) (by simp only[aQ,aD];exact aX) (by simp only[aQ,aD];exact aX) ?_
        simp[dc,ba,bf,a6,aQ,aD,gB]
        exact⟨d,Ψ⟩
     ·rw[if_neg H]at g;have G:decide (5000<jR d.size x)=false:=by simp;exact Int.not_lt.1 fun h=>H (.inl h)
      have F:¬400<out.length+1:=fun h=>H (.inr h);have E:True:=trivial;rcases WW with z|⟨z,E⟩;all_goals
       ((repeat' first|refine al ?_|simp[z,E,G,F]|((first|apply ct|apply cz|apply cy)<;>intro h<;>try simp at h))<;>(try exact c3))
       all_goals try refine⟨by unfold lim;omega,?_⟩
       ((repeat' first|refine al ?_|simp[z,E,G,F]|((first|apply ct|apply cz|apply cy)<;>intro h<;>try simp at h))<;>(try exact c3))
       refine bY.rng (d,out++[v]) hi ⟨g,z3,by simp;omega⟩ ?_
       exact⟨by simp[fresh,aH,az,cc,aM,ae,aE,aD,KV,jZ],eo (by simp[fresh,aH,az,cc,aM,ae,aE,aD,KV,jZ]),ep (by simp[fresh,aH,az,dV,aM,ae,aE,aD,KV,jZ]),Ψ⟩
def QH:∀{a b:T},a.tm=b.tm->a=b:=by
 intro a;induction a with
 |pair x y d c=>intro b h;cases b<;>simp[T.tm]at h;rw[d h.1,c h.2]
 |_=>intro b h;cases b<;>simp[T.tm]at h⊢ <;>exact h
def adQ(l:List Bt):Prop:= ∃s:List Bd,l=s.map Bd.b/\rK s/\jA s/\iv s
def KG(l:List Bt):Prop:= ∃s:List Bd,l=s.map Bd.b/\rK s/\gD s/\iv s
def RO:∀{l:List Bt},(∀b∈l,b.t.fits=true)->∃s:List Bd,l=s.map Bd.b/\Bh s
 |[],_=>⟨[],rfl,fun b d=>by simp at d⟩
 |b::l,h=>by
  obtain⟨s,J,U⟩:=RO (l:=l) fun c ax=>h c (by simp[ax]);obtain⟨x,a,e⟩:=Tm.fits_ex (h b Ψ);refine⟨⟨b.v,x⟩::s,by rw[J];simp[Bd.b,a],fun c ax=>?_⟩;rcases gI.1 ax with rfl|ax
  ·exact e
  ·exact U c ax
def Kn{l:List Bt}:AL l↔adQ l:=by
 constructor
 ·rintro⟨J,U⟩;obtain⟨s,rfl,f⟩:=RO (l:=l) fun b a=>by obtain⟨i,hi,e⟩:=pB a;exact(U i hi b (by rw[cl hi,e])).2.2
  have n:∀b∈s,b.t.ok=true/\b.t.size<=5000:=fun b a=>by have:=f b a;simpa[T.fit]using this
  refine⟨s,rfl,fun b a=>⟨?_,(n b a).1⟩,?_,by simpa using J,fun b a=>(n b a).2⟩
  ·obtain⟨i,hi,e⟩:=pB a;have:=(U i (by simpa using hi) b.b (by simp[cl hi,e])).1;exact this
  ·rw[jA,q6];have g:∀i (h:i+1<s.length),s[i].v<s[i+1].v:=fun i h=>by have:=(U (i+1) (by simpa using h) s[i+1].b (by simp[cl h])).2.1 s[i].b Ω (by simp[cl (show i<s.length by omega)]);exact this
   have:∀(d i:Nat) (h:i+d+1<s.length),s[i].v<s[i+d+1].v:=by
    intro d;induction d with
    |zero=>intro i h;exact g i h
    |succ d q=>intro i h;have o:=q i Ω;have a2:=g (i+d+1) Ω;simp only[Nat.add_assoc]at o a2⊢;omega
   intro i j hi w u;have:=this (j-i-1) i Ω;simpa[show i+(j-i-1)+1=j from by omega]using this
 ·rintro⟨s,rfl,ar,p,m⟩;refine⟨by simpa using m.1,fun i hi b a=>?_⟩;simp only[List.getElem?_map,hr]at a;obtain⟨c,ax,rfl⟩:=a;have hm:=fu ax;refine⟨(ar c hm).1,fun d v k=>?_,?_⟩
  ·simp only[List.getElem?_map,hr]at k;obtain⟨e,he,rfl⟩:=k;obtain⟨J,r⟩:=fI.1 he;obtain⟨U,t⟩:=fI.1 ax;have:=q6.1 p (i-1) i J U Ω;rw[r,t]at this;exact this
  ·show c.t.tm.fits=true;rw[Tm.fits_T];simp[T.fit,(ar c hm).2,m.2 c hm]
def xe(s:List Bd)(v:Int)(f:Bool):Bool:=if 0<=oy s v then false else f
def nM(s:List Bd)(b:Bd):Bool:=b.t.fold (xe s) true&& !(b.t.kind==1&&decide (b.v<=b.t.int))
def Vv{s:List Bd}(e:jA s)(t:T):∀f:Bool,t.fold (xe s) f=true↔f=true/\∀w,t.occ w=true->dH s w=none:=by
 induction t with
 |var n=>
  intro f;simp only[T.fold,T.occ,ey,xe];have:=Vr e n;by_cases h:0<=oy s n
  ·rw[if_pos h];constructor
   ·intro h;cases h
   ·rintro⟨_,U⟩;have:=this.2 (U n rfl);omega
  ·rw[if_neg h];exact⟨fun i=>⟨i,fun w hw=>by subst hw;exact this.1 Ω⟩,fun h=>h.1⟩
 |pair a b d c=>
  intro f;simp only[T.fold,d,c,T.occ,og];constructor
  ·rintro⟨⟨J,U⟩,g⟩;exact⟨J,fun w hw=>hw.elim (U w) (g w)⟩
  ·rintro⟨J,U⟩;exact⟨⟨J,fun w hw=>U w (.inl hw)⟩,fun w hw=>U w (.inr hw)⟩
 |_=>intro f;simp[T.fold,T.occ]
def KX{s:List Bd}(a:jA s)(b:Bd):nM s b=true↔(∀w,b.t.occ w=true->dH s w=none)/\∀w,b.t= .var w->w<b.v:=by
 unfold nM;rw[cP,Vv a];simp only[true_and];refine and_congr_right fun _=>?_;constructor
 ·intro h w hw;have ab:(b.t.kind==1)=true:=by rw[hw];rfl
  have hi:b.t.int=w:=by rw[hw];rfl
  rw[ab,hi]at h;simpa using h
 ·intro h;cases ab:(b.t.kind==1)with
  |false=>rfl
  |true=>
   obtain⟨w,hw⟩:∃w,b.t= .var w:=by
    cases e:b.t with
    |var w=>exact⟨w,rfl⟩
    |_=>rw[e]at ab;simp at ab
   have hi:b.t.int=w:=by rw[hw];rfl
   have:=h w hw;rw[hi];simpa using this
def abM{s:List Bd}(c:jA s):gD s↔∀b∈s,nM s b=true:=by
 constructor
 ·intro h b a;exact(KX c b).2 ⟨h.free b a,h.ori b a⟩
 ·intro h;exact⟨c,fun b a=>((KX c b).1 (h b a)).1,fun b a=>((KX c b).1 (h b a)).2⟩
def qN{α:Type}(p:α->Bool)(s:List α)(i:Nat)(_:Unit):Prop:= ∀k b,k<i->s[k]? =some b->p b=true
def qN.step{α:Type}{p:α->Bool}{s:List α}{i:Nat}(h:qN p s i ()){b:α}(d:s[i]? =some b)(a:p b=true):qN p s (i+1) ():=fun k c ab ax=>by
 rcases(by omega:k<i\/k=i)with J|rfl
 ·exact h k c J ax
 ·rw[d]at ax;cases ax;exact a
open Classical in
noncomputable def hz(l:List Bt):Bool:=decide (KG l)
def sM{l:List Bt}:hz l=true↔KG l:=by unfold hz;simp
def jC(f:Bool):cS:=⟨[(.obj 731,[.bool f])],[]⟩
def w2(f:Bool):eA (jC f):=by unfold jC;exact eA.of ⟨by intro m;simp[ae],by intro m;simp[ae]⟩ Ψ Ψ
def adF(a b:Bool):Same (jC a) (jC b):=Same.keys (by simp[jC]) (by simp[jC])
def aiM(s:List Bd)(a:s.length<=1000000)(v:Int)(f:Bool):bG au 159 [aj v,.eptr (bL (s.map Bd.e)),.ptr (.obj 731) 0] (jC f) fun r d=>r= .tuple []/\d=jC (xe s v f):=by
 have b:=w2 f;simp only[jC]at b⊢;by_cases h:0<=oy s v
 ·rw[xe,if_pos h];refine bG.mk mixed a1 Tryz.func159 Zj Ψ b.obj fun e c=>?_;unfold K4;simp;(repeat' first|refine al ?_|refine aO (vs s v a) ?_|refine aP (vs s v a) ?_|simp[h]);(refine c5.at (jC false) Ψ (by first|exact w2 _|exact w2 ‹_› _) (Same.keys (by simp[jC]) (by simp[jC])) (by simp only[jC,b5,cb];exact aX) (by simp only[jC,b5,cb];exact aX) ?_;simp[dc,ba,bf,a6,aM,ae,jC])
 ·rw[xe,if_neg h];refine bG.mk mixed a1 Tryz.func159 Zj Ψ b.obj fun e c=>?_;unfold K4;simp;(repeat' first|refine al ?_|refine aO (vs s v a) ?_|refine aP (vs s v a) ?_|simp[h]);(refine c5.at (jC f) Ψ (by first|exact w2 _|exact w2 ‹_› _) (Same.keys (by simp[jC]) (by simp[jC])) (by simp only[jC,b5,cb];exact aX) (by simp only[jC,b5,cb];exact aX) ?_;simp[dc,ba,bf,a6,aM,ae,jC])
def QO(l:List Bt):bU au 86 [bL (l.map Bt.e)] (.bool (hz l)):=by
 have p:=ar7 l;by_cases h:AL l;rotate_left
 ·have m:hz l=false:=by unfold hz;simp only[iM];rintro⟨s,J,U,f,A⟩;exact h (Kn.2 ⟨s,J,U,f.asc,A⟩)
  rw[m];refine bH a1 Tryz.func86 Zi fun K=>?_;unfold K2;exact cp
 ·obtain⟨s,rfl,ar,E,B⟩:=Kn.1 h;have G:s.length<=1000000:=by have:=B.1;omega
  have H:(s.map Bd.b).map Bt.e=s.map Bd.e:=by rw[List.map_map];exact List.map_congr_left fun b _=>Bd.b_e b
  have m:hz (s.map Bd.b)=s.all (nM s):=by
   rw[q3,j4,sM,<-abM E];constructor
   ·rintro⟨z,J,U,f,A⟩;have:z=s:=by
     have n:∀a b:List Bd,a.map Bd.b=b.map Bd.b->a=b:=by
      intro a;induction a with
      |nil=>intro b c;cases b<;>simp at c⊢
      |cons x a F=>
       intro b c;cases b with
       |nil=>simp at c
       |cons y b=>simp only[gV,rX,Bd.b,Bt.mk.injEq]at c;rw[F b c.2];have:=QH c.1.2;obtain⟨⟨L,_⟩,_⟩:=c;cases x;cases y;simp_all
     exact(n _ _ J).symm
    rw[<-this];exact f
   ·intro f;exact⟨s,rfl,ar,f,B⟩
  rw[m];rw[H]at p⊢;refine bH a1 Tryz.func86 Zi fun K=>?_;unfold K2;simp;(repeat' first|refine al ?_|refine aO p ?_|refine aP p ?_|simp[h]);refine fT (α:=Unit) (fun i _=>⟨[(1,.eptr (bL (s.map Bd.e))),(9,bL (s.map Bd.e)),(10,aj s.length),(11,aj i)],[],[],1,[]⟩) s.length (qN (nM s) s) () ca (fun k b ab=>Ω) (fun _ j _=>?_) (fun i _ hi j _=>?_)
  ·have:s.all (nM s)=true:=by rw[j4];intro b c;obtain⟨k,ab,e⟩:=pB c;exact j k b ab (by rw[cl ab,e])
   rw[this];exact cp
  ·obtain⟨b,d⟩:∃b,s[i]? =some b:=⟨_,cl hi⟩;have u:∀h,(s[i]'h)=b:=fun h=>by rw[cl hi]at d;exact e8 d
   have key:=VH jC w2 adF 159 [.eptr (bL (s.map Bd.e)),.ptr (.obj 731) 0] (fun a=>by simp[jC,aM,ae]) Ψ (xe s) (fun v a=>aiM s G v a) b.t true;have t:nM s b=false->s.all (nM s)=false:=fun h=>by rw[Bool.eq_false_iff];intro w;rw[j4]at w;rw[w b (fu d)]at h;cases h
   simp[hi,u];(repeat' first|refine al ?_|simp[u,hi]);(refine CallDo.ob (key) (by first|exact w2 _|exact w2 ‹_› _) (by simp only[jC,b5,cb];exact aX) (by simp only[jC,b5,cb];exact aX) (by simp[aM,ae,jC]) ?_;rintro r z ⟨rfl,rfl⟩;refine⟨(Same.keys (by simp[jC]) (by simp[jC])),?_⟩;simp[cK,jC]);generalize o:b.t.fold (xe s) true=q;have g:nM s b=(q&& !(b.t.kind==1&&decide (b.v<=b.t.int))):=by unfold nM;rw[o]
   cases q with
   |false=>rw[t (by rw[g];rfl)];exact cp
   |true=>
    cases ab:(b.t.kind==1)with
    |false=>(repeat' first|refine al ?_|simp[ab]);refine bY.rng () hi (j.step d (by rw[g,ab];rfl)) ?_;exact ca
    |true=>
     by_cases hle:b.v<=b.t.int
     ·rw[t (by rw[g,ab];simp[hle])];exact cp
     ·(repeat' first|refine al ?_|simp[ab,hle]);refine bY.rng () hi (j.step d (by rw[g,ab];simp[hle])) ?_;exact ca
@[simp]def avM(S:aB->Prop):aH S (kZ [])=True:=h1 (n2 S [])
def ajo(n:Nat)(s:List Bd)(l r:List T)(P:l.length=r.length)(V:s.length<=1000000)(S:l.length<=1000000)(o:bd (List Bd))(he:CS n (iH s++l.zip r)=some o)
  (hinv:∀c,re n (iH s++l.zip r) bJ.new=some (true,c)->(cG c.up).Nodup/\c.up.length<=1000000/\nK c):bU au 186 [bL (s.map Bd.e),dx (l.map T.e),dx (r.map T.e)] (gB o):=by
 obtain⟨E,t⟩:∃E,E=iH s++l.zip r:=⟨_,rfl⟩;rw[<-t]at he hinv;simp only[CS,mV]at he;obtain⟨fin,L,g⟩:=he;have hlen:E.length=s.length+l.length:=by rw[t];simp[iH,P]
 have G:∀i b,s[i]? =some b->E.drop i=(.var b.v,b.t)::E.drop (i+1):=fun i b e=>by
  have hi:=(fI.1 e).1;have be:E[i]? =some (.var b.v,b.t):=by rw[t,rY (by simp[iH];exact hi)];simp[iH,e]
  rw[lG Ω];rw[cl Ω]at be;simp only[dU]at be;rw[be]
 have H:∀i a b,l[i]? =some a->r[i]? =some b->E.drop (s.length+i)=(a,b)::E.drop (s.length+(i+1)):=fun i a b j e=>by
  have hi:=(fI.1 j).1;have be:E[s.length+i]? =some (a,b):=by rw[t,vv (by simp[iH])];simp[iH,List.getElem?_zip_eq_some,j,e]
  rw[lG Ω];rw[cl Ω]at be;simp only[dU]at be;rw[be];rfl
 refine bH a1 Tryz.func186 an5 fun X=>?_;unfold SD;simp;refine CallDo.new ajc (eA.of sE Ψ Ψ) (fun k cs h=>by simp[ae]at h) (fun k cs h=>by simp[ae]at h) Ψ ?_;rintro r0 s0 ⟨rfl,rfl⟩;refine⟨fun m hm=>.inr Ψ,?_⟩;simp[aQ,aD,cK,aE];refine fT (α:=bJ) (fun i c=>⟨[(1,dx (l.map T.e)),(2,dx (r.map T.e)),(8,aE),(13,bL (s.map Bd.e)),(14,aj s.length),(15,aj i)],aD c,[],0,[.obj 702,.obj 703,.obj 704,.obj 705,.obj 706,.obj 707]⟩) s.length (fun i c=>re n (E.drop i) c=some fin) bJ.new (by simp[aE,aD];exact⟨by simp[fresh,aH,az,cc,aM,ae,aE,aD,bJ.new],eo (by simp[fresh,aH,az,cc,aM,ae,aE,aD,bJ.new]),ep (by simp[fresh,aH,az,dV,aM,ae,aE,aD,bJ.new]),Ψ⟩) (by simpa using L) ?_ ?_
 ·rintro c J e;simp[aE,aD];refine fT (α:=bJ) (fun i c=>⟨[(1,dx (l.map T.e)),(2,dx (r.map T.e)),(8,aE),(37,aj l.length),(38,aj i)],aD c,[],0,[.obj 702,.obj 703,.obj 704,.obj 705,.obj 706,.obj 707]⟩) l.length (fun i c=>re n (E.drop (s.length+i)) c=some fin) c (by simp[aE,aD];exact⟨by simp[fresh,aH,az,cc,aM,ae,aE,aD],eo (by simp[fresh,aH,az,cc,aM,ae,aE,aD]),ep (by simp[fresh,aH,az,dV,aM,ae,aE,aD]),Ψ⟩) J ?_ ?_
  ·rintro p J e;rw[List.drop_eq_nil_of_le Ω]at J;simp[re]at J;subst J;simp at g;obtain⟨R,O,N⟩:=hinv p L;simp[aE,aD];refine CallDo.ob (ajp n p o g R O N) (cx _) (by simp only[aQ,aD];exact aX) (by simp only[aQ,aD];exact aX) d7 ?_;rintro r0 s0 ⟨rfl,W,rfl⟩;refine⟨Same.keys (by simp[aQ,aD]) (by simp[aQ,aD]),?_⟩;simp[cK,aQ,aD,gB];exact cp
  ·rintro i c hi J e;simp only at J e⊢;obtain⟨a,j⟩:∃a,l[i]? =some a:=⟨_,cl hi⟩;obtain⟨b,A⟩:∃b,r[i]? =some b:=⟨_,cl Ω⟩;have w:∀h,(l[i]'h)=a:=fun h=>by rw[cl hi]at j;exact e8 j
   have z:∀h,(r[i]'h)=b:=fun h=>by rw[cl h]at A;exact e8 A
   have v:i<r.length:=Ω
   rw[H i a b j A]at J;simp only[re,mV]at J;obtain⟨p,U,B,u,⟨f,y⟩,q,d⟩:=J;simp only at q d;have key:=VK n _ _ _ _ q;simp[aE,aD];(repeat' first|refine al ?_|simp[w,z,hi,v]);(refine CallDo.ob (Mr c a p U) ci bv bv d7 ?_;rintro r F ⟨rfl,rfl⟩;refine⟨(Same.keys co co),?_⟩;simp[cK,aQ,aD,aE]);(repeat' first|refine al ?_|simp[w,z,hi,v]);(refine CallDo.ob (Mr p b B u) ci bv bv d7 ?_;rintro r F ⟨rfl,rfl⟩;refine⟨(Same.keys co co),?_⟩;simp[cK,aQ,aD,aE]);(repeat' first|refine al ?_|simp[w,z,hi,v]);(refine hH.ob (key) ci ci (Same.keys co co) bv bv d7 ?_;simp[cK,aQ,aD,aE]);cases f with
   |false=>simp at d;subst d;simp at g;subst g;(repeat' first|refine al ?_|simp);simp[bZ,ba,bf,a6];simp[gB]
   |true=>simp at d;(repeat' first|refine al ?_|simp);refine bY.rng y hi d ?_;simp[aE,aD];exact⟨by simp[fresh,aH,az,cc,aM,ae,aE,aD],eo (by simp[fresh,aH,az,cc,aM,ae,aE,aD]),ep (by simp[fresh,aH,az,dV,aM,ae,aE,aD]),Ψ⟩
 ·rintro i c hi J e;simp only at J e⊢;obtain⟨b,Q,M⟩:=eW hi;rw[G i b Q]at J;simp only[re,mV]at J;obtain⟨p,U,B,u,⟨f,y⟩,q,d⟩:=J;simp only[Ca,T.foldO,hr]at U;obtain⟨⟨x,K⟩,U,rfl⟩:=U;simp only at U u q d;have key:=VK n _ _ _ _ q;simp[aE,aD];(repeat' first|refine al ?_|simp[M,hi]);(refine CallDo.ob (s8 c b.v x K U) ci bv bv d7 ?_;rintro r F ⟨rfl,rfl⟩;refine⟨(Same.keys co co),?_⟩;simp[cK,aQ,aD,aE]);(repeat' first|refine al ?_|simp);(refine CallDo.ob (Mr K b.t B u) ci bv bv d7 ?_;rintro r F ⟨rfl,rfl⟩;refine⟨(Same.keys co co),?_⟩;simp[cK,aQ,aD,aE]);(repeat' first|refine al ?_|refine aO (l2 _) ?_|refine aP (l2 _) ?_|simp);(refine hH.ob (key) ci ci (Same.keys co co) bv bv d7 ?_;simp[cK,aQ,aD,aE]);cases f with
  |false=>simp at d;subst d;simp at g;subst g;(repeat' first|refine al ?_|simp);simp[bZ,ba,bf,a6];simp[gB]
  |true=>simp at d;(repeat' first|refine al ?_|simp);refine bY.rng y hi d ?_;simp[aE,aD];exact⟨by simp[fresh,aH,az,cc,aM,ae,aE,aD],eo (by simp[fresh,aH,az,cc,aM,ae,aE,aD]),ep (by simp[fresh,aH,az,dV,aM,ae,aE,aD]),Ψ⟩
def ac1(s:List Bd)(l r:List T)(k:l.length=r.length)(u:gD s)(p:iv s)(ar:rK s)(g:l.length<=1000000)(J:∀t∈l,t.ok=true)(U:∀t∈r,t.ok=true):
  bU au 186 [bL (s.map Bd.e),dx (l.map T.e),dx (r.map T.e)] (gB (mgu s (l.zip r))):=by
 have d:∀e∈iH s++l.zip r,e.1.ok=true/\e.2.ok=true:=fun e he=>by
  rcases kc.1 he with he|he
  ·obtain⟨b,m,rfl⟩:=hb.1 he;have:=ar b m;exact⟨by simpa[T.ok]using this.1,this.2⟩
  ·exact⟨J _ (List.of_mem_zip he).1,U _ (List.of_mem_zip he).2⟩
 have j:OU (iH s++l.zip r):=fun e he v a=>by
  rcases a with a|a
  ·exact(yB (d e he).1 a).1
  ·exact(yB (d e he).2 a).1
 obtain⟨n,o,q,i,h⟩:=arh _ j;rw[tP (adO.1 i)];refine ajo n s l r k (by have:=p.1;omega) g o q fun c ax=>?_;obtain⟨f,a2,a3⟩:=h c ax;have:=XP f fun v a=>by
  obtain⟨e,he,a⟩:=a2 v a;rcases a with a|a
  ·exact yB (d e he).1 a
  ·exact yB (d e he).2 a
 refine⟨f,by simp[cG]at this;omega,fun x=>?_⟩;simp[bJ.sz,a3,dp]
structure fm (s:List Bd):Prop where
 ok:rK s
 sol:gD s
 fits:iv s
def fm.len{s:List Bd}(h:fm s):s.length<=1000000:=by have:=h.fits.1;omega
def fm.fit{s:List Bd}(h:fm s):Bh s:=fun b a=>by simp[T.fit,(h.ok b a).2,h.fits.2 b a]
def fm.mgu{s:List Bd}(h:fm s){E:List (T×T)}(b:∀e∈E,e.1.ok=true/\e.2.ok=true){a:List Bd}(hm:mgu s E=some a):fm a:=⟨amM h.sol h.fits h.ok b hm,(Cb h.sol h.fits hm).1,(Cb h.sol h.fits hm).2⟩
def zR(s:List Bd):(s.map Bd.b).map Bt.e=s.map Bd.e:=by rw[List.map_map];exact List.map_congr_left fun b _=>Bd.b_e b
def q2{s:List Bd}(h:fm s):bU au 86 [bL (s.map Bd.e)] (.bool true):=by have:=QO (s.map Bd.b);rw[zR,sM.2 ⟨s,rfl,h.ok,h.sol,h.fits⟩]at this;exact this
def alV(t:List Bd)(i:Nat)(p:List T×List T):Prop:=p.1=(t.take i).map (fun b=>T.var b.v)/\p.2=(t.take i).map (·.t)
def asl(t:List Bd)(s:t.length<=1000000):bU au 205 [bL (t.map Bd.e)] (.tuple [dx ((t.map fun b=>T.var b.v).map T.e),dx ((t.map (·.t)).map T.e)]):=by
 generalize bs:((t.map fun b=>T.var b.v).map T.e)=q;generalize f:((t.map fun x=>x.t).map T.e)=o;have k:∀S:aB->Prop,aH S q=True:=fun S=>by rw[<-bs];exact XX S _
 have j:∀S:aB->Prop,aH S o=True:=fun S=>by rw[<-f];exact XX S _
 refine bU.mk mixed a1 Tryz.func205 anS Ψ (by simp[az,k,j]) fun r=>?_;unfold Sq;simp;refine fT (α:=List T×List T) (fun i p=>⟨[(10,bL (t.map Bd.e)),(11,aj t.length),(4,.slice 4 (.own (.loc 0)) (p.1.map T.e)),(5,.slice 4 (.own (.loc 1)) (p.2.map T.e)),(12,aj i)],[],[(.loc 0,⟨p.1.length,30,4,none⟩),(.loc 1,⟨p.2.length,30,4,none⟩)],2,[]⟩) t.length (alV t) ([],[]) ca ⟨Ψ,Ψ⟩ (fun p d _=>?_) (fun i p hi d _=>?_)
 ·obtain⟨A,B⟩:=p;obtain⟨c,a⟩:=d;simp only at c a⊢;rw[iu (dP _)]at c a;rw[<-bs,<-f,<-c,<-a];simp;(repeat' first|refine al ?_|simp);simp[bZ,ba,bf,a6]
 ·obtain⟨A,B⟩:=p;obtain⟨c,a⟩:=d;simp only at c a⊢;obtain⟨b,n,g⟩:=eW hi;have e:t.take (i+1)=t.take i++[b]:=by rw[List.take_succ,n];rfl
  have m:A.length<=1000000:=by rw[c];simp;omega
  have l:B.length<=1000000:=by rw[a];simp;omega
  simp[hi,g];((repeat' first|refine al ?_|refine aO (l2 _) ?_|refine aP (l2 _) ?_|simp[g,hi]|((first|apply ct|apply cz|apply cy)<;>intro h<;>try simp at h))<;>(try exact c3));all_goals try refine⟨by unfold lim;omega,?_⟩
  (repeat' first|refine al ?_|simp);all_goals try refine⟨by unfold lim;omega,?_⟩
  (repeat' first|refine al ?_|simp);refine bY.rng (A++[.var b.v],B++[b.t]) hi ⟨by rw[e,c];simp,by rw[e,a];simp⟩ ?_;simp;exact⟨by simp[fresh,aH,az,cc,aM,ae,jZ],eo (by simp[fresh,aH,az,cc,aM,ae,jZ]),ep (by simp[fresh,aH,az,dV,aM,ae,jZ]),Ψ⟩
def arX{s t:List Bd}(c:fm s)(a:fm t):bU au 165 [bL (s.map Bd.e),bL (t.map Bd.e)] (gB (mgu s (iH t))):=by
 have f:(t.map fun b=>T.var b.v).zip (t.map (·.t))=iH t:=by rw[iH,List.zip_map']
 have key:=ac1 s (t.map fun b=>T.var b.v) (t.map (·.t)) Ψ c.sol c.fits c.ok (by simpa using a.len) (fun x e=>by
  obtain⟨b,d,rfl⟩:=hb.1 e;have:=a.ok b d;simpa[T.ok]using this.1) (fun x e=>by
  obtain⟨b,d,rfl⟩:=hb.1 e;exact(a.ok b d).2)
 rw[f]at key;have heq:=asl t a.len;generalize (t.map fun b=>T.var b.v)=A at key heq;generalize (t.map fun x=>x.t)=B at key heq;refine bH a1 Tryz.func165 ant fun g=>?_;unfold R1;simp;(repeat' first|refine al ?_|refine aO (q2 c) ?_|refine aP (q2 c) ?_|refine aO (q2 a) ?_|refine aP (q2 a) ?_|refine aO heq ?_|refine aP heq ?_|refine aO key ?_|refine aP key ?_|simp);simp[bZ,ba,bf,a6];simp[gB]
def nH{α:Type}{t:List α}{i:Nat}{b:α}(a:t[i]? =some b):t.take (i+1)=t.take i++[b]:=by rw[List.take_succ,a];rfl
def hx(s t:List Bd):List Bd:=t.filter fun b=>(dH s b.v).isNone
def sB(s t:List Bd)(i:Nat)(out:List Bd):Prop:=out=hx s (t.take i)
def ar1{s t:List Bd}(a:fm s)(g:fm t):bU au 166 [bL (s.map Bd.e),bL (t.map Bd.e)] (bL ((hx s t).map Bd.e)):=by
 have k:=g.len;generalize bs:hx s t=R;refine bH a1 Tryz.func166 anz fun m=>?_;unfold R6;simp;(repeat' first|refine al ?_|refine aO (q2 a) ?_|refine aP (q2 a) ?_|refine aO (q2 g) ?_|refine aP (q2 g) ?_|simp);refine fT (α:=List Bd) (fun i out=>⟨[(0,bL (s.map Bd.e)),(17,bL (t.map Bd.e)),(18,aj t.length),(5,.slice 5 (.own (.loc 0)) (out.map Bd.e)),(19,aj i)],[],[(.loc 0,⟨out.length,113,5,none⟩)],1,[]⟩) t.length (sB s t) [] ca (by simp[sB,hx]) (fun out c _=>?_) (fun i out hi c _=>?_)
 ·rw[sB,iu (dP _),bs]at c;rw[<-c];exact cp
 ·obtain⟨b,j,f⟩:=eW hi;have l:out.length<=1000000:=by
   have:out.length<=(t.take i).length:=by rw[c];exact List.length_filter_le _ _
   simp at this;omega
  have h:=Vr a.sol.asc b.v;simp[hi,f];by_cases d:oy s b.v<0
  ·(repeat' first|refine al ?_|refine aO (vs s b.v a.len) ?_|refine aP (vs s b.v a.len) ?_|refine aO (vq _) ?_|refine aP (vq _) ?_|simp[f,hi,d]);all_goals try refine⟨by unfold lim;omega,?_⟩
   (repeat' first|refine al ?_|simp);refine bY.rng (out++[b]) hi (by rw[sB,nH j,hx,List.filter_append,c];simp[hx,h.1 d]) ?_;simp;exact⟨by simp[fresh,aH,az,cc,aM,ae,jZ],eo (by simp[fresh,aH,az,cc,aM,ae,jZ]),ep (by simp[fresh,aH,az,dV,aM,ae,jZ]),Ψ⟩
  ·(repeat' first|refine al ?_|refine aO (vs s b.v a.len) ?_|refine aP (vs s b.v a.len) ?_|simp[f,hi,d]);refine bY.rng out hi (by
    have:dH s b.v≠none:=fun e=>d (h.2 e);rw[sB,nH j,hx,List.filter_append,c];cases e:dH s b.v with
    |none=>exact absurd e this
    |some x=>simp[hx,e]) ?_
   exact ca
def If(t:List Bd)(i:Nat)(out:List Bd):Prop:=out=t.take i
def acE(t:List Bd)(g:t.length<=1000000):bU au 168 [bL (t.map Bd.e)] (bL (t.map Bd.e)):=by
 refine bH a1 Tryz.func168 Zm fun f=>?_;unfold K7;simp;refine fT (α:=List Bd) (fun i out=>⟨[(7,bL (t.map Bd.e)),(8,aj t.length),(3,.slice 5 (.own (.loc 0)) (out.map Bd.e)),(9,aj i)],[],[(.loc 0,⟨out.length,113,5,none⟩)],1,[]⟩) t.length (If t) [] ca (by simp[If]) (fun out a _=>?_) (fun i out hi a _=>?_)
 ·rw[If,iu (dP _)]at a;subst a;exact cp
 ·obtain⟨b,d,c⟩:=eW hi;have e:out.length<=1000000:=by rw[a];simp;omega
  simp[hi,c];(repeat' first|refine al ?_|refine aO (vq _) ?_|refine aP (vq _) ?_|simp[c,hi]);all_goals try refine⟨by unfold lim;omega,?_⟩
  (repeat' first|refine al ?_|simp);refine bY.rng (out++[b]) hi (by rw[If,nH d,a]) ?_;simp;exact⟨by simp[fresh,aH,az,cc,aM,ae,jZ],eo (by simp[fresh,aH,az,cc,aM,ae,jZ]),ep (by simp[fresh,aH,az,dV,aM,ae,jZ]),Ψ⟩
def tO(t:List Bd)(b:Bd):Bool:=decide (cQ t b.v=b.t.ap (cQ t))
def oK(s t:List Bd):Bool:=s.all (tO t)
def FI{t:List Bd}(a:fm t)(v:Int):(cQ t v).size<=5000:=by
 unfold cQ;cases e:dH t v with
 |none=>simp[T.size]
 |some x=>exact a.fits.2 _ (kP e)
def acW(s:List Bd){t:List Bd}(r:s.length<=1000000)(d:fm t):bU au 208 [bL (s.map Bd.e),bL (t.map Bd.e)] (.bool (oK s t)):=by
 refine bH a1 Tryz.func208 anV fun u=>?_;unfold St;simp;refine eZ [1,11,12] (fun i (_:Unit)=>[(13,aj i)]) s.length (qN (tO t) s) () ca (fun k b ab=>Ω) (fun _ j _=>?_) (fun i _ hi j _=>?_)
 ·have:oK s t=true:=by rw[oK,j4];intro b q;obtain⟨k,ab,e⟩:=pB q;exact j k b ab (by rw[cl ab,e])
  rw[this];exact cp
 ·obtain⟨b,o,g⟩:=eW hi;have m:tO t b=false->oK s t=false:=fun h=>by rw[Bool.eq_false_iff];intro n;rw[oK,j4]at n;rw[n b (fu o)]at h;cases h
  have a:=Km t (.var b.v) d.len d.sol.asc d.fit;have c:=Km t b.t d.len d.sol.asc d.fit;have l:=FI d b.v;have p:((T.var b.v).ap (cQ t)).size<=5000:=l;rw[if_pos p,l6 p]at a;rw[show(T.var b.v).ap (cQ t)=cQ t b.v from rfl]at a;simp[hi,g];by_cases f:(b.t.ap (cQ t)).size<=5000
  ·rw[if_pos f,l6 f]at c;by_cases he:cQ t b.v=b.t.ap (cQ t)
   ·rw[he]at a;(repeat' first|refine al ?_|refine aO (l2 _) ?_|refine aP (l2 _) ?_|refine aO a ?_|refine aP a ?_|refine aO c ?_|refine aP c ?_|refine aO (vr _ _) ?_|refine aP (vr _ _) ?_|simp[g,hi,he]);exact bY.rng () hi (j.step o (by simp[tO,he])) ca
   ·rw[m (by simp[tO,he])];(repeat' first|refine al ?_|refine aO (l2 _) ?_|refine aP (l2 _) ?_|refine aO a ?_|refine aP a ?_|refine aO c ?_|refine aP c ?_|refine aO (vr _ _) ?_|refine aP (vr _ _) ?_|simp[g,hi,he]);simp[bZ,ba,bf,a6]
  ·rw[if_neg f,mX f]at c;rw[m (by simp only[tO,iM];intro e;rw[<-e]at f;exact f l)];(repeat' first|refine al ?_|refine aO (l2 _) ?_|refine aP (l2 _) ?_|refine aO a ?_|refine aP a ?_|refine aO c ?_|refine aP c ?_|refine aO (vr _ _) ?_|refine aP (vr _ _) ?_|simp[g,hi]);simp[bZ,ba,bf,a6]
def EP(c:Bd->Bd->Int):∀a b:List Bd,a=[]\/b=[]->kH c a b=fb a.length b.length
 |[],[],_=>by simp[kH,fb]
 |[],_::_,_=>by simp[kH,fb]<;>omega
 |_::_,[],_=>by simp[kH,fb]<;>omega
 |_::_,_::_,h=>by simp at h
def ZM(x y:Bd)(xs ys:List Bd):fa (x::xs) (y::ys)=if fb x.v y.v=0 then(if e6 x.t y.t=0 then fa xs ys else e6 x.t y.t)else fb x.v y.v:=by
 by_cases a:fb x.v y.v=0
 ·by_cases b:e6 x.t y.t=0<;>simp[fa,kH,z6,a,b]
 ·simp[fa,kH,z6,a]
def ZN(a b k:Int):fb (a-k) (b-k)=fb a b:=by unfold fb;(repeat' split)<;>omega
def NR(d e:List Bd)(i:Nat):Prop:=i<=d.length/\i<=e.length/\fa (d.drop i) (e.drop i)=fa d e
def Kk(d e:List Bd):bU au 207 [bL (d.map Bd.e),bL (e.map Bd.e)] (aj (fa d e)):=by
 generalize bs:fa d e=R;refine bH a1 Tryz.func207 anY fun l=>?_;unfold Sw;have q:d.length<=68719476736:=by simp[eM,eV,eN,lim]at l;omega
 have he:e.length<=68719476736:=by simp[eM,eV,eN,lim]at l;omega
 simp;refine xi [0,1] (fun(i:Nat)=>[(5,aj i)]) (fun i=>d.length-i) (NR d e) 0 ca ⟨Ω,Ω,Ψ⟩ (fun i n _=>?_);obtain⟨J,U,a⟩:=n;rw[bs]at a;by_cases hi:i<d.length
 ·by_cases b:i<e.length
  ·obtain⟨x,k⟩:∃x,d[i]? =some x:=⟨_,cl hi⟩;obtain⟨y,m⟩:∃y,e[i]? =some y:=⟨_,cl b⟩;have f:∀h,(d[i]'h)=x:=fun h=>by rw[cl hi]at k;exact e8 k
   have c:∀h,(e[i]'h)=y:=fun h=>by rw[cl b]at m;exact e8 m
   have p:d.drop i=x::d.drop (i+1):=by rw[lG hi,f]
   have o:e.drop i=y::e.drop (i+1):=by rw[lG b,c]
   rw[p,o]at a;rw[ZM]at a;simp[hi,b,f,c];by_cases g:fb x.v y.v=0
   ·rw[if_pos g]at a;by_cases j:e6 x.t y.t=0
    ·rw[if_pos j]at a;(repeat' first|refine al ?_|refine aO (ps _ _) ?_|refine aP (ps _ _) ?_|refine aO (C2 _ _) ?_|refine aP (C2 _ _) ?_|simp[f,c,hi,b,g,j]);refine bY.whl (i+1) Ω ⟨Ω,Ω,by rw[bs];exact a⟩ ?_;exact ca
    ·rw[if_neg j]at a;((repeat' first|refine al ?_|refine aO (ps _ _) ?_|refine aP (ps _ _) ?_|refine aO (C2 _ _) ?_|refine aP (C2 _ _) ?_|simp[f,c,hi,b,g,j]|((first|apply ct|apply cz|apply cy)<;>intro h<;>try simp at h))<;>(try exact c3));simp[bZ,ba,bf,a6];exact a
   ·rw[if_neg g]at a;((repeat' first|refine al ?_|refine aO (ps _ _) ?_|refine aP (ps _ _) ?_|simp[f,c,hi,b,g]|((first|apply ct|apply cz|apply cy)<;>intro h<;>try simp at h))<;>(try exact c3));simp[bZ,ba,bf,a6];exact a
  ·have:fb d.length e.length=R:=by rw[<-a,fa,EP _ _ _ (.inr (List.drop_eq_nil_of_le Ω))];rw[<-ZN d.length e.length i];simp only[uj];congr 1<;>omega
   simp[hi,b];(repeat' first|refine al ?_|refine aO (ps _ _) ?_|refine aP (ps _ _) ?_|simp[hi,b]);simp[bZ,ba,bf,a6];exact this
 ·have:fb d.length e.length=R:=by rw[<-a,fa,EP _ _ _ (.inl (List.drop_eq_nil_of_le Ω))];rw[<-ZN d.length e.length i];simp only[uj];congr 1<;>omega
  simp[hi];(repeat' first|refine al ?_|refine aO (ps _ _) ?_|refine aP (ps _ _) ?_|simp[hi]);simp[bZ,ba,bf,a6];exact this
def acH(a b:List Bd)(v:a.length<=1000000):bU au 169 [bL (a.map Bd.e),bL (b.map Bd.e)] (.bool (decide (a=b))):=by
 by_cases q:a.length=b.length;rotate_left
 ·have r:decide (a=b)=false:=by simp only[iM];rintro rfl;exact q rfl
  have u:((a.length:Int) !=(b.length:Int))=true:=by simp;omega
  have t:¬(a.length:Int)=b.length:=Ω
  rw[r];refine bH a1 Tryz.func169 Zn fun s=>?_;unfold K8;exact cp
 ·generalize bs:decide (a=b)=R;refine bH a1 Tryz.func169 Zn fun s=>?_;unfold K8;simp;(repeat' first|refine al ?_|simp[q]);refine eZ [0,1,12] (fun i (_:Unit)=>[(13,aj i)]) b.length (fun i (_:Unit)=> ∀k,k<i->a[k]? =b[k]?) () ca (fun k ab=>Ω) (fun _ o _=>?_) (fun i _ hi o _=>?_)
  ·have:R=true:=by
    rw[<-bs,gy];apply List.ext_getElem?;intro k;by_cases ab:k<b.length
    ·exact o k ab
    ·rw[q4 Ω,q4 Ω]
   rw[this];exact cp
  ·obtain⟨x,g⟩:∃x,a[i]? =some x:=⟨_,cl Ω⟩;obtain⟨y,c⟩:∃y,b[i]? =some y:=⟨_,cl hi⟩;have f:i<a.length:=Ω
   have m:∀h,(a[i]'h)=x:=fun h=>by rw[cl f]at g;exact e8 g
   have l:∀h,(b[i]'h)=y:=fun h=>by rw[cl hi]at c;exact e8 c
   have p:x≠y->R=false:=fun h=>by rw[<-bs,iM];rintro rfl;rw[g]at c;cases c;exact h rfl
   simp[hi,f,m,l];by_cases d:x.v=y.v
   ·have j:(x.v !=y.v)=false:=by simp[d]
    by_cases n:x.t=y.t
    ·(repeat' first|refine al ?_|refine aO (vr _ _) ?_|refine aP (vr _ _) ?_|simp[m,l,hi,f,d,j,n]);refine bY.rng () hi (fun k ab=>?_) ?_
     ·rcases(by omega:k<i\/k=i)with h|rfl
      ·exact o k h
      ·rw[g,c];cases x;cases y;simp_all
     ·exact ca
    ·rw[p (fun e=>n (by rw[e]))];(repeat' first|refine al ?_|refine aO (vr _ _) ?_|refine aP (vr _ _) ?_|simp[m,l,hi,f,d,j,n]);simp[bZ,ba,bf,a6]
   ·have j:(x.v !=y.v)=true:=by simp[d]
    rw[p (fun e=>d (by rw[e]))];exact cp
def jO(l:List (List Bd))(e:List Bd):Bool:=l.all fun d=>decide (d=e)|| !oK d e
def al0{l b:List (List Bd)}(h:∀x,x∈l↔x∈b)(e:List Bd):jO l e=jO b e:=by rw[q3,jO,jO,j4,j4];exact⟨fun J x a=>J x ((h x).2 a),fun J x a=>J x ((h x).1 a)⟩
def lW(l:List (List Bd)):List (List Bd):=(asc fa l).filter (jO l)
def Cc{l:List (List Bd)}{x:List Bd}:x∈lW l↔x∈l/\jO l x=true:=by rw[lW,oV,YB]
def YK(l:List (List Bd)):iN fa (lW l):=(KS mN l).filter _
def YL{l a:List (List Bd)}(b:iN fa a)(hm:∀x,x∈a↔x∈l/\jO l x=true):lW l=a:=(YK l).ext mN b fun x=>by rw[hm,Cc]
structure dk where
 n:Int
 b:List Bd
 d:List (List Bd)
 k:List bI
 m:List bo
 deriving DecidableEq,Inhabited
noncomputable def hM(b:List Bd)(k:List bI)(m:List bo):List (List Bd)->bd (List (List Bd))
 |[]=>some []
 |d::r=>match mgu b (iH d)with
  |none=>hM b k m r
  |some x=>if gS x k []=none\/gZ x m []=none then hM b k m r else if hx b x=[]then none else(hM b k m r).map (hx b x:: ·)
def lx(k:List bI)(x:bo):Bool:=nz k x.v !=some 3
noncomputable def kx(s:dk):bd dk:=match gS s.b s.k []with
 |none=>none
 |some k=>match gZ s.b s.m []with
  |none=>none
  |some m=>match hM s.b k (m.filter (lx k)) s.d with
   |none=>none
   |some L=>if(lW L).length<=30 then some ⟨s.n,s.b,lW L,k,m.filter (lx k)⟩else none
def yU(t:T)(n:Int):Prop:= ∀v,t.occ v=true->v<n
def ra(l:List Bd)(n:Int):Prop:= ∀b∈l,b.v<n/\yU b.t n
structure rP (s:dk):Prop where
 n:0<=s.n/\s.n<=100000
 b:fm s.b
 d:∀x∈s.d,fm x
 k:jN s.k
 m:iT s.m
 bb:ra s.b s.n
 db:∀x∈s.d,ra x s.n
 kb:∀x∈s.k,x.v<s.n
 mb:∀x∈s.m,x.v<s.n
def ub(s:dk):Prop:=rP s/\kx s=some s
def CP{s:List Bd}(a:fm s){v:Int}(b:0<=v/\v<=100000):(cQ s v).ok=true:=by have:=JU a.ok (t:= .var v) (by simpa[T.ok]using b);exact this
def Jw{s:List Bd}(c:fm s):∀{l acc a:List bI},(∀x∈l,(0<=x.v/\x.v<=100000)/\(x.k=2\/x.k=3))->jN acc->gS s l acc=some a->jN a
 |[],acc,a,_,h,he=>by simp only[gS,dU]at he;rw[<-he];exact h
 |x::r,acc,a,b,h,he=>by
  simp only[gS]at he;split at he
  ·rename_i g e;have d:=b x Ψ;exact Jw c (fun y f=>b y (by simp[f])) (KL h (CP c d.1) d.2 e) he
  ·cases he
def Jx{s:List Bd}(c:fm s):∀{l acc a:List bo},(∀x∈l,(0<=x.v/\x.v<=100000)/\kq x.s=true)->iT acc->gZ s l acc=some a->iT a
 |[],acc,a,_,h,he=>by simp only[gZ,dU]at he;rw[<-he];exact h
 |x::r,acc,a,b,h,he=>by
  simp only[gZ]at he;split at he
  ·rename_i g e;have d:=b x Ψ;exact Jx c (fun y f=>b y (by simp[f])) (KN h (CP c d.1) d.2 e) he
  ·cases he
def oQ(G:List (List cU))(l:List bo):Prop:= ∀x∈l,x.s∈G
def KO{G:List (List cU)}{l a:List bo}{t:T}{s:List cU}(h:oQ G l)(b:s∈G)(he:nc l t s=some a):oQ G a:=fun x c=>by
 rcases(EW he x).1 c with J|⟨J,_⟩
 ·exact h x J
 ·rw[J];exact b
def Jy{G:List (List cU)}{s:List Bd}:∀{l acc a:List bo},oQ G l->oQ G acc->gZ s l acc=some a->oQ G a
 |[],acc,a,_,h,he=>by simp only[gZ,dU]at he;rw[<-he];exact h
 |x::r,acc,a,b,h,he=>by
  simp only[gZ]at he;split at he
  ·rename_i e c;exact Jy (fun y d=>b y (by simp[d])) (KO h (b x Ψ) c) he
  ·cases he
def apy{α:Type}[DecidableEq α]:∀{G:List α} {l:List (Nat×α)},l.Nodup->(∀x∈l,x.1<100001/\x.2∈G)->l.length<=100001*G.length:=by
 intro G l c h;have:=Ra c (l₂:=(List.range 100001).flatMap fun i=>G.map fun g=>(i,g)) (fun x b=>by obtain⟨J,U⟩:=h x b;rw[List.mem_flatMap];exact⟨x.1,List.mem_range.2 J,hb.2 ⟨x.2,U,rfl⟩⟩)
 have e:((List.range 100001).flatMap fun i=>G.map fun g=>(i,g)).length=100001*G.length:=by
  generalize 100001=n;induction n with
  |zero=>simp
  |succ n a=>rw[List.range_succ,List.flatMap_append,qi,a];simp[Nat.succ_mul]
 omega
def EU{G:List (List cU)}{l:List bo}(h:iT l)(be:oQ G l):l.length<=100001*G.length:=by
 have J:(l.map fun x=>(x.v.toNat,x.s)).Nodup:=by rw[List.nodup_iff_pairwise_ne,List.pairwise_map];refine atz (fun{a b} f g d e=>d ?_) (h.asc.nodup mO);have:=(h.at' a f).1;have:=(h.at' b g).1;simp only[jn]at e;cases a;cases b;simp only[bo.mk.injEq];simp only at*;exact⟨Ω,e.2⟩
 have:=apy (G:=G) J fun x i=>by obtain⟨y,c,rfl⟩:=hb.1 i;have:=(h.at' y c).1;exact⟨by simp;omega,be y c⟩
 simpa using this
def ky(m:List bo):Prop:= ∃G:List (List cU),G.length<=687000/\oQ G m
def ky.len{m:List bo}(h:ky m)(hm:iT m):m.length<=68719470000:=by obtain⟨G,J,U⟩:=h;have:=EU hm U;omega
def ky.of{m:List bo}(h:m.length<=687000):ky m:=⟨m.map (·.s),by simpa using h,fun _ a=>List.mem_map_of_mem a⟩
def aqP{s:List Bd}(h:fm s)(p:Bd->Bool):fm (s.filter p):=by
 have c:∀b∈s.filter p,b∈s:=fun b a=>(oV.1 a).1;have d:∀w,dH s w=none->dH (s.filter p) w=none:=fun w hw=>by rw[w6]at hw⊢;exact fun b a=>hw b (c b a)
 exact⟨fun b a=>h.ok b (c b a),⟨adq p h.sol.asc,fun b a w hw=>d w (h.sol.free b (c b a) w hw),fun b a=>h.sol.ori b (c b a)⟩,
  kC (List.length_filter_le _ _) h.fits.1,fun b a=>h.fits.2 b (c b a)⟩
def IS{b x:List Bd}(h:fm x):fm (hx b x):=aqP h _
def am9{b x:List Bd}(m:gD b)(d:gD x)(n:iv x)(h:∀a,hS x a->hS b a):jF b (iH (hx b x)) (some x):=by
 refine⟨⟨d,n⟩,fun a=>⟨fun i=>⟨h a i,fun e he=>?_⟩,fun⟨J,U⟩ c ax=>?_⟩⟩
 ·obtain⟨c,ax,rfl⟩:=hb.1 he;exact i c (oV.1 ax).1
 ·have g:∀c∈x,dH b c.v=none->a c.v=c.t.ap a:=fun c ax o=>by have:=U (.var c.v,c.t) (hb.2 ⟨c,oV.2 ⟨ax,by simp[o]⟩,rfl⟩);exact this
  have j:∀w,dH b w=none->(cQ x w).ap a=a w:=fun w hw=>by
   unfold cQ;cases e:dH x w with
   |none=>rfl
   |some t=>have hm:=kP e;exact(g _ hm hw).symm
  cases e:dH b c.v with
  |none=>exact g c ax e
  |some t=>
   have l:a c.v=t.ap a:=J _ (kP e);have f:=h (cQ x) (Ar d) _ (kP e);simp only at f;have k:cQ x c.v=c.t:=by unfold cQ;rw[w5 d.asc ax];rfl
   rw[k]at f;rw[l,f,Dj];exact vJ fun w hw=>(j w (m.free _ (kP e) w hw)).symm
def amN{s:List Bd}(b:gD s)(c:iv s){E:List (T×T)}{x:List Bd}(h:mgu s E=some x):∀a,hS x a↔hS s a/\kh E a:=by have:=IL b c E;rw[h]at this;exact this.2
def amL{s:List Bd}(a:gD s)(b:iv s){E:List (T×T)}{x:List Bd}(h:mgu s E=some x):mgu s (iH (hx s x))=some x:=tP (am9 a (Cb a b h).1 (Cb a b h).2 fun d c=>((amN a b h d).1 c).1)
def YJ(p:Int->Prop){E:List (T×T)}:∀{s j:List Bd},gD s->iv s->(∀b∈s,p b.v/\∀w,b.t.occ w=true->p w)->(∀e∈E,(∀w,e.1.occ w=true->p w)/\∀w,e.2.occ w=true->p w)->mgu s E=some j->∀b∈j,p b.v/\∀w,b.t.occ w=true->p w:=by
 induction E with
 |nil=>intro s j d i J _ h;rw[OD d i]at h;cases h;exact J
 |cons e E v=>
  intro s j d i J U h;rw[OC d i]at h;split at h
  ·rename_i s1 m;obtain⟨V,a⟩:∃V,V=s.flatMap (fun b=>b.v::oS b.t)++oS e.1++oS e.2:=⟨_,rfl⟩;have q:∀w∈V,p w:=by
    intro w hw;rw[a]at hw;simp only[kc,List.mem_flatMap,gI]at hw;rcases hw with(⟨b,f,rfl|hw⟩|hw)|hw
    ·exact(J b f).1
    ·exact(J b f).2 w (F5.1 hw)
    ·exact(U e Ψ).1 w (F5.1 hw)
    ·exact(U e Ψ).2 w (F5.1 hw)
   obtain⟨n,o,x,t,r⟩:=acs V _ _ s e.1 e.2 d i (fun c ax=>⟨by rw[a];simp only[kc,List.mem_flatMap];exact .inl (.inl ⟨c,ax,Ψ⟩),fun w hw=>by rw[a];simp only[kc,List.mem_flatMap];exact .inl (.inl ⟨c,ax,by simp[zS hw]⟩)⟩)
    (fun w hw=>by rw[a];simp only[kc];exact .inl (.inr (zS hw))) (fun w hw=>by rw[a];simp only[kc];exact .inr (zS hw)) rfl rfl
   have k:=tP t;rw[m]at k;subst k;obtain⟨g,_⟩:=r s1 rfl;have l:=Cb d i m;exact v l.1 l.2 (fun b f=>⟨q _ (g b f).1,fun w hw=>q w ((g b f).2 w hw)⟩) (fun u he=>U u (by simp[he])) h
  ·cases h
def aqW{s:List Bd}(a:gD s){v n:Int}(h:cQ s v= .var n):dH s n=none:=by have:=Qi a (t:= .var v) (w:=n) (by show(cQ s v).occ n=true;rw[h];simp[T.occ]);exact this
def Ro{l b:List bI}{t:T}{k:Int}(h:k5 l t k=some b):∀x∈b,x∈l\/t= .var x.v:=by
 unfold k5 at h;split at h
 ·rename_i n;split at h
  ·split at h
   ·cases h;exact fun x a=>.inl a
   ·cases h
  ·cases h;intro x a;rcases IJ.1 a with rfl|a
   ·exact .inr rfl
   ·exact .inl a
 ·split at h
  ·cases h;exact fun x a=>.inl a
  ·cases h
def aa7{s:List Bd}(b:gD s):∀{l acc a:List bI},(∀x∈acc,dH s x.v=none)->gS s l acc=some a->∀x∈a,dH s x.v=none
 |[],acc,a,h,he=>by simp only[gS,dU]at he;rw[<-he];exact h
 |y::r,acc,a,h,he=>by
  simp only[gS]at he;split at he
  ·rename_i e c;refine aa7 b (fun x d=>?_) he;rcases Ro c x d with J|J
   ·exact h x J
   ·exact aqW b J
  ·cases he
def Xp{x:bI}:∀{l:List bI},(∀y∈l,y.v<x.v)->nx x l=l++[x]
 |[],_=>rfl
 |y::l,h=>by simp only[nx,if_pos (h y Ψ),Xp (l:=l) fun z a=>h z (by simp[a]),b5]
def aa8{s:List Bd}:∀{l acc:List bI},(acc++l).Pairwise (fun x y=>x.v<y.v)->(∀x∈l,dH s x.v=none)->gS s l acc=some (acc++l)
 |[],acc,_,_=>by simp[gS]
 |x::r,acc,b,c=>by
  have J:∀y∈acc,y.v<x.v:=fun y a=>(List.pairwise_append.1 b).2.2 y a x Ψ;have U:nz acc x.v=none:=EL.2 fun y a=>by have:=J y a;omega
  have d:k5 acc (cQ s x.v) x.k=some (acc++[x]):=by rw[CO (c x Ψ)];simp only[k5,U];rw[Xp J]
  simp only[gS,d];rw[aa8 (by simpa using b) fun y a=>c y (by simp[a])];simp
def aba{s:List Bd}(b:gD s):∀{l acc a:List bo},(∀x∈acc,dH s x.v=none)->gZ s l acc=some a->∀x∈a,dH s x.v=none
 |[],acc,a,h,he=>by simp only[gZ,dU]at he;rw[<-he];exact h
 |y::r,acc,a,h,he=>by
  simp only[gZ]at he;split at he
  ·rename_i e c;refine aba b (fun x d=>?_) he;rcases(EW c x).1 d with J|⟨_,J⟩
   ·exact h x J
   ·exact Qi b (t:= .var y.v) J
  ·cases he
def abb{s:List Bd}:∀{l acc:List bo},iN gd (acc++l)->(∀x∈l,dH s x.v=none)->gZ s l acc=some (acc++l)
 |[],acc,_,_=>by simp[gZ]
 |x::r,acc,a,b=>by
  have c:nc acc (cQ s x.v) x.s=some (acc++[x]):=by
   rw[CO (b x Ψ)];refine KM rfl (aym ?_ a) fun z=>?_
   ·simp
   ·simp only[kc,List.mem_singleton,T.occ,ey];refine or_congr_right ⟨fun h=>by rw[h];exact⟨rfl,rfl⟩,fun⟨J,U⟩=>?_⟩;cases z;cases x;simp_all
  simp only[gZ,c];rw[abb (by simpa using a) fun y d=>b y (by simp[d])];simp
def yu(b:List Bd)(k:List bI)(m:List bo)(d:List Bd):Prop:= ∃x,mgu b (iH d)=some x/\¬(gS x k []=none\/gZ x m []=none)/\hx b x=d/\d≠[]
def Iy{b:List Bd}(a:fm b){k:List bI}{m:List bo}:∀{l L:List (List Bd)},hM b k m l=some L->∀d∈L,yu b k m d
 |[],L,h=>by simp only[hM,dU]at h;rw[<-h];simp
 |d0::r,L,h=>by
  simp only[hM]at h;split at h
  ·exact Iy a h
  ·rename_i x e;split at h
   ·exact Iy a h
   ·rename_i ab;split at h
    ·cases h
    ·rename_i f;rw[hr]at h;obtain⟨g,J,rfl⟩:=h;intro d c;rcases gI.1 c with rfl|c
     ·exact⟨x,amL a.sol a.fits e,ab,rfl,f⟩
     ·exact Iy a J d c
def Ye{b:List Bd}{k:List bI}{m:List bo}:∀{L:List (List Bd)},(∀d∈L,yu b k m d)->hM b k m L=some L
 |[],_=>rfl
 |d::L,h=>by obtain⟨x,J,U,a,c⟩:=h d Ψ;simp only[hM,J,if_neg U,a,if_neg c,Ye (L:=L) fun e he=>h e (by simp[he]),pC]
def Ix{b:List Bd}(g:fm b){k:List bI}{m:List bo}:∀{l L:List (List Bd)},(∀d∈l,fm d)->hM b k m l=some L->∀d∈L,fm d
 |[],L,_,h=>by simp only[hM,dU]at h;rw[<-h];simp
 |d0::r,L,f,h=>by
  simp only[hM]at h;split at h
  ·exact Ix g (fun d a=>f d (by simp[a])) h
  ·rename_i x i;split at h
   ·exact Ix g (fun d a=>f d (by simp[a])) h
   ·split at h
    ·cases h
    ·rw[hr]at h;obtain⟨j,J,rfl⟩:=h;intro d a;rcases gI.1 a with rfl|a
     ·exact IS (g.mgu (fun e he=>by obtain⟨c,ax,rfl⟩:=hb.1 he;have:=(f d0 Ψ).ok c ax;exact⟨by simpa[T.ok]using this.1,this.2⟩) i)
     ·exact Ix g (fun d a=>f d (by simp[a])) J d a
def Iw{b:List Bd}(f:fm b){n:Int}(i:ra b n){k:List bI}{m:List bo}:∀{l L:List (List Bd)},(∀d∈l,ra d n)->hM b k m l=some L->∀d∈L,ra d n
 |[],L,_,h=>by simp only[hM,dU]at h;rw[<-h];simp
 |d0::r,L,g,h=>by
  simp only[hM]at h;split at h
  ·exact Iw f i (fun d a=>g d (by simp[a])) h
  ·rename_i x j;split at h
   ·exact Iw f i (fun d a=>g d (by simp[a])) h
   ·split at h
    ·cases h
    ·rw[hr]at h;obtain⟨o,J,rfl⟩:=h;intro d a;rcases gI.1 a with rfl|a
     ·have:=YJ (fun v=>v<n) f.sol f.fits i (fun e he=>by obtain⟨c,ax,rfl⟩:=hb.1 he;have:=g d0 Ψ c ax;exact⟨fun w hw=>by simp[T.occ]at hw;subst hw;exact this.1,this.2⟩) j
      exact fun c ax=>this c (oV.1 ax).1
     ·exact Iw f i (fun d a=>g d (by simp[a])) J d a
def amQ{L:List (List Bd)}:lW (lW L)=lW L:=YL (YK L) fun x=>by rw[Cc,and_assoc];refine⟨fun⟨J,U⟩=>⟨J,U,?_⟩,fun⟨J,U,_⟩=>⟨J,U⟩⟩;rw[jO,j4]at U⊢;exact fun d a=>U d (Cc.1 a).1
def XH{b:List Bd}(c:fm b){n:Int}(a:ra b n){v w:Int}(d:v<n)(h:(cQ b v).occ w=true):w<n:=by
 unfold cQ at h;cases e:dH b v with
 |none=>rw[e]at h;simp[T.occ]at h;omega
 |some t=>rw[e]at h;exact(a _ (kP e)).2 w h
def aa6{b:List Bd}(e:fm b){n:Int}(f:ra b n):∀{l acc a:List bI},(∀x∈l,x.v<n)->(∀x∈acc,x.v<n)->gS b l acc=some a->∀x∈a,x.v<n
 |[],acc,a,_,h,he=>by simp only[gS,dU]at he;rw[<-he];exact h
 |y::r,acc,a,d,h,he=>by
  simp only[gS]at he;split at he
  ·rename_i i g;refine aa6 e f (fun x c=>d x (by simp[c])) (fun x c=>?_) he;rcases Ro g x c with J|J
   ·exact h x J
   ·exact XH e f (d y Ψ) (by rw[J];simp[T.occ])
  ·cases he
def aa9{b:List Bd}(e:fm b){n:Int}(f:ra b n):∀{l acc a:List bo},(∀x∈l,x.v<n)->(∀x∈acc,x.v<n)->gZ b l acc=some a->∀x∈a,x.v<n
 |[],acc,a,_,h,he=>by simp only[gZ,dU]at he;rw[<-he];exact h
 |y::r,acc,a,d,h,he=>by
  simp only[gZ]at he;split at he
  ·rename_i i g;refine aa9 e f (fun x c=>d x (by simp[c])) (fun x c=>?_) he;rcases(EW g x).1 c with J|⟨_,J⟩
   ·exact h x J
   ·exact XH e f (d y Ψ) J
  ·cases he
def abF{s b:dk}(h:rP s)(he:kx s=some b):ub b/\b.n=s.n/\b.b=s.b:=by
 unfold kx at he;split at he
 ·cases he
 rename_i k ab;split at he
 ·cases he
 rename_i m hm;split at he
 ·cases he
 rename_i L c;split at he;rotate_left
 ·cases he
 rename_i g;cases he;have e:=Jw h.b h.k.at' ⟨Ψ,Ψ⟩ ab;have m1:=Jx h.b h.m.at' ⟨Ψ,by simp[iN]⟩ hm;have m2:iT (m.filter (lx k)):=⟨fun x a=>m1.at' x (oV.1 a).1,adq _ m1.asc⟩;have dy:=Iy h.b c;have f:=Ix h.b h.d c;refine⟨⟨⟨h.n,h.b,fun x a=>f x (Cc.1 a).1,e,m2,h.bb,fun x a=>Iw h.b h.bb h.db c x (Cc.1 a).1,aa6 h.b h.bb h.kb Ψ ab,fun x a=>aa9 h.b h.bb h.mb Ψ hm x (oV.1 a).1⟩,?_⟩,rfl,rfl⟩;unfold kx;have l:gS s.b k []=some k:=aa8 (acc:=[]) e.asc (aa7 h.b.sol Ψ ab);have o:gZ s.b (m.filter (lx k)) []=some (m.filter (lx k)):=abb (acc:=[]) m2.asc fun x a=>aba h.b.sol Ψ hm x (oV.1 a).1;have i:(m.filter (lx k)).filter (lx k)=m.filter (lx k):=by rw[List.filter_filter];simp
 have j:hM s.b k (m.filter (lx k)) (lW L)=some (lW L):=Ye fun d n=>dy d (Cc.1 n).1;simp only[l,o,i,j,amQ,if_pos g]
def u5{α:Type}{s:List α}{i:Nat}{t:α}(h:s[i]? =some t):s.drop i=t::s.drop (i+1):=by obtain⟨hi,e⟩:=fI.1 h;rw[lG hi,e]
def rG(L:List (List Bd))(a:List (List Bd))(e:List Bd):List (List Bd):=if jO L e=true then kW fa e a else a
def OE{L:List (List Bd)}:∀(xs:List (List Bd)) {a:List (List Bd)},iN fa a->iN fa (xs.foldl (rG L) a)
 |[],_,h=>h
 |x::xs,a,h=>OE xs (a:=rG L a x) (by unfold rG;split<;>first|exact NL mN h|exact h)
def YN{L:List (List Bd)}{x:List Bd}:∀(xs:List (List Bd)) {a:List (List Bd)},x∈xs.foldl (rG L) a↔x∈a\/(x∈xs/\jO L x=true)
 |[],a=>by simp
 |y::xs,a=>by
  rw[List.foldl_cons,YN xs,gI];unfold rG;by_cases ab:jO L y=true
  ·rw[if_pos ab,IH mN];constructor
   ·rintro((rfl|h)|h)
    ·exact .inr ⟨.inl rfl,ab⟩
    ·exact .inl h
    ·exact .inr ⟨.inr h.1,h.2⟩
   ·rintro(h|⟨rfl|J,U⟩)
    ·exact .inl (.inr h)
    ·exact .inl (.inl rfl)
    ·exact .inr ⟨J,U⟩
  ·rw[if_neg ab];constructor
   ·rintro(h|h)
    ·exact .inl h
    ·exact .inr ⟨.inr h.1,h.2⟩
   ·rintro(h|⟨rfl|J,U⟩)
    ·exact .inl h
    ·exact absurd U ab
    ·exact .inr ⟨J,U⟩
def YM{L:List (List Bd)}:∀(xs a:List (List Bd)),(xs.foldl (rG L) a).length<=a.length+xs.length
 |[],a=>by simp
 |y::xs,a=>by
  have J:=YM (L:=L) xs (rG L a y);have U:(rG L a y).length<=a.length+1:=by
   unfold rG;split
   ·exact NN _ _
   ·omega
  simp only[List.foldl_cons,mT];omega
def amS(L:List (List Bd)):lW L=L.foldl (rG L) []:=YL (OE L (by simp[iN])) fun x=>by rw[YN];simp
def zK(L:List (List Bd))(i:Nat)(a:List (List Bd)):Prop:=a=(L.take i).foldl (rG L) []
def zK.step{L:List (List Bd)}{i:Nat}{a:List (List Bd)}(h:zK L i a){e:List Bd}(he:L[i]? =some e):zK L (i+1) (rG L a e):=by rw[zK,nH he,List.foldl_append,h];rfl
def x0(e d:List Bd):Bool:=decide (d=e)|| !oK d e
def ry(L:List (List Bd))(e:List Bd)(j:Nat)(k:Bool):Prop:=k=(L.take j).all (x0 e)
def ry.step{L:List (List Bd)}{e:List Bd}{j:Nat}{k:Bool}(h:ry L e j k){d:List Bd}(a:L[j]? =some d):ry L e (j+1) (k&&x0 e d):=by rw[ry,nH a,List.all_append,h];simp
def Ig(a:List (List Bd))(e:List Bd)(k:Nat):Prop:=k<=a.length/\∀c,a[k]? =some c->0<=fa c e
def Ig.fin{a:List (List Bd)}{e:List Bd}{k:Nat}(h:Ig a e k)(l:iN fa a)(ax:∀d,0<k->a[k-1]? =some d->fa d e<0):kW fa e a=if(match a[k]? with|some y=>decide (fa y e=0)|none=>false)=true then a else a.take k++e::a.drop k:=
 (NM mN e a k (fun i c hi b=>by
  have ab:=h.1;obtain⟨d,f⟩:∃d,a[k-1]? =some d:=⟨_,cl Ω⟩;have J:=ax d Ω f;rcases Nat.lt_or_ge i (k-1)with U|U
  ·have g:=(fI.1 b);have j:=(fI.1 f);have:=q6.1 l i (k-1) g.1 j.1 U;rw[g.2,j.2]at this;exact mN.ltr this Ω
  ·have:i=k-1:=Ω
   subst this;rw[f]at b;cases b;exact J) h.2 h.1).trans (by cases a[k]?<;>rfl)
def XJ(L:List (List Bd))(e:List Bd):jO L e=L.all (x0 e):=rfl
def abP{l:List (List Bd)}{x:List Bd}:x∈qc fa l↔x∈l:=(Au fa l).mem_iff
def amR(l:List (List Bd)):lW l=(cV none (qc fa l)).filter (jO (qc fa l)):=by have h:jO l=jO (qc fa l):=funext fun e=>al0 (fun x=>abP.symm) e;rw[lW,h];rfl
def mK(s:List (List Bd))(i:Nat)(acc:List (List Bd)):Prop:=acc++(cV (if i=0 then none else s[i-1]?) (s.drop i)).filter (jO s)=(cV none s).filter (jO s)
def iq:dk:=⟨0,[],[],[],[]⟩
noncomputable def Ao(s:dk):dk:=match gS s.b s.k []with
 |none=>iq
 |some k=>match gZ s.b s.m []with
  |none=>iq
  |some m=>match hM s.b k (m.filter (lx k)) s.d with
   |none=>iq
   |some L=>⟨s.n,s.b,lW L,k,m.filter (lx k)⟩
def Qh{s b:dk}(h:kx s=some b):Ao s=b:=by
 unfold kx at h;unfold Ao;cases J:gS s.b s.k []with
 |none=>rw[J]at h;cases h
 |some k=>
  rw[J]at h;simp only at h⊢;cases U:gZ s.b s.m []with
  |none=>rw[U]at h;cases h
  |some m=>
   rw[U]at h;simp only at h⊢;cases a:hM s.b k (m.filter (lx k)) s.d with
   |none=>rw[a]at h;cases h
   |some L=>
    rw[a]at h;simp only at h⊢;split at h
    ·cases h;rfl
    ·cases h
def adS{k:List bI}(ab:jN k)(v:Int):(k5 k (.var v) 2).isSome=(nz k v !=some 3):=by
 unfold k5;simp only;cases h:nz k v with
 |none=>simp
 |some x=>have:=(ab.at' _ (XR h)).2;simp only at this;rcases this with rfl|rfl<;>simp
def adW{k:List bI}(a:k.Pairwise fun x y=>x.v<y.v)(v:Int):(k.any fun x=>x.v==v&&x.k==3)=(nz k v==some 3):=by
 rw[q3,List.any_eq_true,ey];constructor
 ·rintro⟨x,b,h⟩;simp only[cP,ey]at h;have:=NZ a b;rw[h.1,h.2]at this;exact this
 ·intro h;exact⟨_,XR h,Ψ⟩
def Od{b:List Bd}{k:List bI}{m:List bo}{d:List Bd}{r:List (List Bd)}(h:mgu b (iH d)=none):hM b k m (d::r)=hM b k m r:=by rw[hM,h]
def Oc{b:List Bd}{k:List bI}{m:List bo}{d x:List Bd}{r:List (List Bd)}(h:mgu b (iH d)=some x)(ab:gS x k []=none\/gZ x m []=none):hM b k m (d::r)=hM b k m r:=by rw[hM,h];simp only[if_pos ab]
def Ob{b:List Bd}{k:List bI}{m:List bo}{d x:List Bd}{r:List (List Bd)}(h:mgu b (iH d)=some x)(ab:¬(gS x k []=none\/gZ x m []=none))(a:hx b x=[]):hM b k m (d::r)=none:=by rw[hM,h];simp only[if_neg ab,if_pos a]
def Oe{b:List Bd}{k:List bI}{m:List bo}{d x:List Bd}{r:List (List Bd)}(h:mgu b (iH d)=some x)(ab:¬(gS x k []=none\/gZ x m []=none))(a:hx b x≠[]):hM b k m (d::r)=(hM b k m r).map (hx b x:: ·):=by rw[hM,h];simp only[if_neg ab,if_neg a]
def rz(b:List Bd)(k:List bI)(m:List bo)(aY:List (List Bd))(i:Nat)(a:List (List Bd)):Prop:=a.length<=i/\(∀x∈a,fm x)/\(hM b k m (aY.drop i)).map (a++ ·)=hM b k m aY
def fA(n:Int):T->Bool
 | .var v=>decide (v<n)
 | .pair a b=>fA n a&&fA n b
 |_=>true
def Dn{n:Int}:∀{t:T},fA n t=true↔yU t n
 | .var v=>by simp[fA,yU,T.occ]
 | .pair a b=>by simp only[fA,cP,Dn (t:=a),Dn (t:=b),yU,T.occ,og];exact⟨fun h v c=>c.elim (h.1 v) (h.2 v),fun h=>⟨fun v c=>h v (.inl c),fun v c=>h v (.inr c)⟩⟩
 | .nil=>by simp[fA,yU,T.occ]
 | .sym _=>by simp[fA,yU,T.occ]
 | .num _=>by simp[fA,yU,T.occ]
def lK(n:Int)(b:Bd):Bool:=decide (b.v<n)&&fA n b.t
def w7{n:Int}{s:List Bd}:s.all (lK n)=true↔ra s n:=by simp[j4,lK,ra,Dn]
def sP(v m:Int):Int:=if m<v+1 then v+1 else m
def Ko{n:Int}:∀(t:T) (m:Int),t.fold sP m<=n↔m<=n/\fA n t=true
 | .var v,m=>by simp only[T.fold,sP,fA,gy];split<;>omega
 | .pair a b,m=>by simp only[T.fold,Ko b,Ko a,fA,cP,and_assoc]
 | .nil,m=>by simp[T.fold,fA]
 | .sym _,m=>by simp[T.fold,fA]
 | .num _,m=>by simp[T.fold,fA]
def F6(v m:Int):bd Int:=if 0<=v/\v<=100000 then some (sP v m)else none
def QY:∀(t:T) (m:Int),t.ok=true->t.foldO F6 m=some (t.fold sP m)
 | .var v,m,h=>by
  have:0<=v/\v<=100000:=by simpa[T.ok]using h
  simp[T.foldO,T.fold,F6,this]
 | .pair a b,m,h=>by
  have J:a.ok=true/\b.ok=true:=by simpa[T.ok]using h
  simp[T.foldO,T.fold,QY a m J.1,QY b _ J.2]
 | .nil,m,_=>rfl
 | .sym _,m,_=>rfl
 | .num _,m,_=>rfl
structure gm where
 n:Int
 b:List Bt
 d:List (List Bt)
 k:List bI
 m:List bo
def dk.r(s:dk):gm:=⟨s.n,s.b.map Bd.b,s.d.map fun x=>x.map Bd.b,s.k,s.m⟩
def j8(r:gm):Prop:= ∃s:dk,r=s.r/\ub s
def k7(n:Int)(x:List Bt):Prop:= ∃s:List Bd,x=s.map Bd.b/\fm s/\ra s n
structure PQ (r:gm):Prop where
 n:0<=r.n/\r.n<=100000
 b:k7 r.n r.b
 d:∀x∈r.d,k7 r.n x
 k:jN r.k
 m:iT r.m
 kb:∀x∈r.k,x.v<r.n
 mb:∀x∈r.m,x.v<r.n
def j8.raw{r:gm}(h:j8 r):PQ r:=by obtain⟨s,rfl,J,_⟩:=h;exact⟨J.n,⟨s.b,rfl,J.b,J.bb⟩,fun x b=>by obtain⟨y,a,rfl⟩:=hb.1 b;exact⟨y,rfl,J.d y a,J.db y a⟩,J.k,J.m,J.kb,J.mb⟩
def w4:∀{a b:List Bd},a.map Bd.b=b.map Bd.b->a=b
 |[],b,h=>by cases b<;>simp at h⊢
 |x::a,[],h=>by simp at h
 |x::a,y::b,h=>by simp only[gV,rX,Bd.b,Bt.mk.injEq]at h;rw[w4 h.2];have:=QH h.1.2;obtain⟨⟨J,_⟩,_⟩:=h;cases x;cases y;simp_all
def RG:∀{a b:List (List Bd)},(a.map fun x=>x.map Bd.b)=(b.map fun x=>x.map Bd.b)->a=b
 |[],b,h=>by cases b<;>simp at h⊢
 |x::a,[],h=>by simp at h
 |x::a,y::b,h=>by rw[gV,gV,rX]at h;rw[RG h.2,w4 h.1]
def dk.r_inj{s t:dk}(h:s.r=t.r):s=t:=by obtain⟨n,b,d,k,m⟩:=s;obtain⟨n',b0,g,bt,f⟩:=t;simp only[dk.r,gm.mk.injEq]at h;obtain⟨J,U,c,e,a⟩:=h;rw[J,w4 U,RG c,e,a]
def Ul{n:Int}:∀{d:List (List Bt)},(∀x∈d,k7 n x)->∃aY:List (List Bd),d=(aY.map fun x=>x.map Bd.b)/\(∀x∈aY,fm x)/\∀x∈aY,ra x n
 |[],_=>⟨[],rfl,Ψ,Ψ⟩
 |x::d,h=>by
  obtain⟨aY,J,U,c⟩:=Ul (d:=d) fun y a=>h y (by simp[a]);obtain⟨s,e,f,b⟩:=h x Ψ;refine⟨s::aY,by rw[J,e];rfl,fun y a=>?_,fun y a=>?_⟩
  ·rcases gI.1 a with rfl|a
   ·exact f
   ·exact U y a
  ·rcases gI.1 a with rfl|a
   ·exact b
   ·exact c y a
def abR{s:dk}(h:rP s):j8 s.r↔kx s=some s:=by
 constructor
 ·rintro⟨t,e,_,U⟩;rw[dk.r_inj e];exact U
 ·intro U;exact⟨s,rfl,h,U⟩
def yv{l:List Bt}:KG l↔∃s:List Bd,l=s.map Bd.b/\fm s:=⟨fun⟨s,J,U,a,b⟩=>⟨s,J,U,a,b⟩,fun⟨s,J,U⟩=>⟨s,J,U.ok,U.sol,U.fits⟩⟩
def s5{α:Type}(a b:List α)(i:Nat)(_:Unit):Prop:= ∀k,k<i->a[k]? =b[k]?
def s5.fin{α:Type}{a b:List α}(h:s5 a b b.length ())(c:a.length=b.length):a=b:=by
 apply List.ext_getElem?;intro k;by_cases ab:k<b.length
 ·exact h k ab
 ·rw[q4 Ω,q4 Ω]
def s5.step{α:Type}{a b:List α}{i:Nat}(h:s5 a b i ()){x:α}(c:a[i]? =some x)(d:b[i]? =some x):s5 a b (i+1) ():=fun k ab=>by
 rcases(by omega:k<i\/k=i)with J|rfl
 ·exact h k J
 ·rw[c,d]
def tG{α:Type}(p:α->Prop)(s:List α)(i:Nat)(_:Unit):Prop:= ∀k b,k<i->s[k]? =some b->p b
def tG.step{α:Type}{p:α->Prop}{s:List α}{i:Nat}(h:tG p s i ()){b:α}(d:s[i]? =some b)(a:p b):tG p s (i+1) ():=fun k c ab ax=>by
 rcases(by omega:k<i\/k=i)with J|rfl
 ·exact h k c J ax
 ·rw[d]at ax;cases ax;exact a
def tG.fin{α:Type}{p:α->Prop}{s:List α}(h:tG p s s.length ()):∀b∈s,p b:=fun b a=>by obtain⟨k,ab,e⟩:=pB a;exact h k b ab (by rw[cl ab,e])
def R2:C:=(aa [bz 2 false] (.seq (aa [I 5 0,cw 6 5,bP 7 0] (gw 8 7 6 (.seq (.block 1 (aa [I 9 7,ck 10 2 5 7,bg 11 2 10,dt (.alloc 4 none (.agg [.int .i64 0,.int .i64 0])),I 3 9,bV 2 4 11] (.seq (.drawn true 46 [aF 12 0 1 4,ay 13 1 12,aU 14 .lss 13 0,I 15 14,aw 15 false (aF 16 0 1 4),aw 15 false (ay 17 1 16),aw 15 false (aU 18 .gtr 17 100000),dr 19 15 18,I 20 19,aw 20 false (aF 21 1 1 4),aw 20 false (ay 22 1 21),aw 20 false (aU 23 .neq 22 2),cg 20 false 24 23,aw 24 true (aF 25 1 1 4),aw 24 true (ay 26 1 25),aw 24 true (aU 27 .neq 26 3),aw 20 false (ei 28 24 27),dr 29 20 28,I 30 29,cg 30 false 31 3,aw 30 false (aU 32 .gtr 31 0),cg 30 false 33 32,cg 33 true 34 0,cg 33 true 35 3,aw 33 true (aU 36 .sub 35 1),aw 33 true (ck 37 2 34 36),aw 33 true (aF 38 0 1 37),aw 33 true (ay 39 1 38),aw 33 true (aF 40 0 1 4),aw 33 true (ay 41 1 40),aw 33 true (bu 42 .geq 39 41),aw 30 false (ei 43 33 42),dr 44 30 43]) (aW 44 (aa [bz 2 false] .ret) .skip)))) (.region [aU 45 .add 7 1,I 7 45])))) (aa [bz 2 true] .ret)))
def R3:C:=(aa [bz 2 false] (.seq (aa [I 5 0,cw 6 5,bP 7 0] (gw 8 7 6 (.seq (.block 1 (aa [I 9 7,ck 10 2 5 7,bg 11 2 10,dt (.alloc 4 none (.agg [.int .i64 0,.str []])),I 3 9,bV 2 4 11] (.seq (.drawn true 41 [aF 12 0 1 4,ay 13 1 12,aU 14 .lss 13 0,I 15 14,aw 15 false (aF 16 0 1 4),aw 15 false (ay 17 1 16),aw 15 false (aU 18 .gtr 17 100000),dr 19 15 18,I 20 19,aw 20 false (aF 21 1 1 4),aw 20 false (ay 22 1 21),aw 20 false (cT 23 160 22),aw 20 false (cM 24 23),dr 25 20 24,I 26 25,cg 26 false 27 3,aw 26 false (aU 28 .gtr 27 0),cg 26 false 29 28,cg 29 true 30 0,cg 29 true 31 3,aw 29 true (aU 32 .sub 31 1),aw 29 true (ck 33 2 30 32),aw 29 true (bg 34 2 33),aw 29 true (bg 35 2 4),aw 29 true (b8 36 161 34 35),aw 29 true (cM 37 36),aw 26 false (ei 38 29 37),dr 39 26 38]) (aW 39 (aa [bz 2 false] .ret) .skip)))) (.region [aU 40 .add 7 1,I 7 40])))) (aa [bz 2 true] .ret)))
def AT:C:=(aa [cW 6 2,fo 8 2,bz 9 false] (.seq (aa [I 15 0,cT 16 86 15,cM 17 16,I 18 17,aw 18 false (bg 19 4 6),aw 18 false (cT 20 64 19),aw 18 false (cM 21 20),dr 22 18 21,I 23 22,cg 23 false 24 1,aw 23 false (cT 25 87 24),aw 23 false (cM 26 25),dr 27 23 26,I 28 27,cg 28 false 29 3,aw 28 false (aU 30 .neq 29 2),cg 28 false 31 30,cg 31 true 32 3,aw 31 true (aU 33 .neq 32 3),aw 28 false (ei 34 31 33),dr 35 28 34] (aW 35 (aa [fo 8 2,bz 9 false] .ret) .skip)) (aa [I 37 0,bg 38 4 6,b8 39 69 37 38,I 36 39,cX 40 0 36,cX 41 1 36,dG 10 ez,bV 4 10 40,I 11 41] (.seq (aa [I 42 11,cM 43 42] (aW 43 (aa [fo 8 2,bz 9 false] .ret) .skip)) (aa [dt (.bslm 44 (some 803) 2 98 []),I 45 1,dt (.appm 46 none 2 98 (.t 44) (.t 45)),dt (.alloc 12 (some 804) (.slice 2 .nil [])),bV 1 12 46] (.seq (aa [aF 47 0 1 10,ay 48 1 47,aU 49 .neq 48 1] (aW 49 (.seq (aa [aF 50 0 1 10,ay 51 1 50,I 52 3,bu 53 .neq 51 52] (aW 53 (aa [fo 8 2,bz 9 false] .ret) .skip)) (.seq (.pubB 12 (.region [ay 54 1 12,I 8 54,bz 9 true])) .ret)) .skip)) (.seq (aa [I 55 1,cw 56 55,bP 57 0] (gw 58 57 56 (.seq (.block 1 (aa [ck 59 2 55 57,bg 60 2 59,dt (.alloc 14 none (.agg [.int .i64 0,.int .i64 0])),bV 2 14 60] (aa [aF 61 0 1 14,ay 62 1 61,aF 63 1 1 10,ay 64 1 63,bu 65 .eql 62 64] (aW 65 (.seq (aa [aF 66 1 1 14,ay 67 1 66,I 68 3,bu 69 .neq 67 68] (aW 69 (aa [fo 8 2,bz 9 false] .ret) .skip)) (.seq (.pubB 12 (.region [ay 70 1 12,I 8 70,bz 9 true])) .ret)) .skip)))) (.region [aU 71 .add 57 1,I 57 71])))) (aa [ay 72 1 12,aF 73 1 1 10,ay 74 1 73,I 75 3,cd 76 (.build [.int .i64 0,.int .i64 0] [(0,1,(.t 74)),(1,1,(.t 75))]),e1 77 2 98 [.t 76],dt (.appm 78 none 2 98 (.t 72) (.t 77)),bV 1 12 78] (aa [ay 79 1 12,cd 80 (.mkif 48 (.t 79)),cd 81 (.mkf 183 [.t 12]),b8 82 182 80 81] (.seq (.pubB 12 (.region [ay 83 1 12,I 8 83,bz 9 true])) .ret))))))))))
def Gz:C:=(aa [cW 6 2,dt (.box 7 (some 811) (.t 3)),fo 8 2,bz 9 false] (.seq (aa [I 17 0,cT 18 86 17,cM 19 18,I 20 19,aw 20 false (bg 21 4 6),aw 20 false (cT 22 64 21),aw 20 false (cM 23 22),dr 24 20 23,I 25 24,cg 25 false 26 1,aw 25 false (cT 27 88 26),aw 25 false (cM 28 27),dr 29 25 28,I 30 29,aw 30 false (ay 31 1 7),aw 30 false (cT 32 160 31),aw 30 false (cM 33 32),dr 34 30 33] (aW 34 (aa [fo 8 2,bz 9 false] .ret) .skip)) (aa [I 36 0,bg 37 4 6,b8 38 69 36 37,I 35 38,cX 39 0 35,cX 40 1 35,dG 10 ez,bV 4 10 39,I 11 40] (.seq (aa [I 41 11,cM 42 41,I 43 42,aw 43 false (bg 44 4 10),aw 43 false (ay 45 1 7),aw 43 false (b8 46 177 44 45),dr 47 43 46] (aW 47 (aa [fo 8 2,bz 9 false] .ret) .skip)) (aa [dt (.mkmap 48 (some 812)),dt (.alloc 12 (some 813) (.junk)),bV 1 12 48] (.seq (aa [I 49 1,cw 50 49,bP 51 0] (gw 52 51 50 (.seq (.block 1 (aa [ck 53 2 49 51,bg 54 2 53,dt (.alloc 14 none (.agg [.int .i64 0,.str []])),bV 2 14 54] (.region [ay 55 1 12,bg 56 2 14,dt (.mput (.a [false,true]) (.t 55) (.t 56) (.c (.bool true)))]))) (.region [aU 57 .add 51 1,I 51 57])))) (aa [bg 58 4 10,cd 59 (.mkf 184 [.t 12,.t 7]),b8 60 134 58 59] (aa [dt (.bslm 61 (some 814) 2 100 []),dt (.alloc 15 (some 815) (.slice 2 .nil [])),bV 1 15 61] (.seq (aa [ay 62 1 12,dt (.range 63 none (.t 62))] (.block 2 (.loop (aa [⟨none,.next 64 (.t 63)⟩,cX 65 0 64] (.seq (aW 65 .skip (.exit 2)) (.block 3 (aa [cd 66 (.ment (.t 63)),cX 67 0 66,dt (.alloc 16 none (.agg [.int .i64 0,.str []])),bV 2 16 67] (.region [ay 68 1 15,bg 69 2 16,e1 70 2 100 [.t 69],dt (.appm 71 none 2 100 (.t 68) (.t 70)),bV 1 15 71])))))))) (aa [ay 72 1 15,cd 73 (.mkif 49 (.t 72)),cd 74 (.mkf 185 [.t 15]),b8 75 182 73 74] (.seq (.pubB 15 (.region [ay 76 1 15,I 8 76,bz 9 true])) .ret)))))))))))
def GB:C:=(aa [cW 2 0,cW 3 1,bz 4 false] (aa [aF 5 0 1 2,ay 6 1 5,aF 7 0 1 3,ay 8 1 7,bu 9 .lss 6 8,I 10 9,aw 10 false (aF 11 0 1 2),aw 10 false (ay 12 1 11),aw 10 false (aF 13 0 1 3),aw 10 false (ay 14 1 13),aw 10 false (bu 15 .eql 12 14),cg 10 false 16 15,aw 16 true (aF 17 1 1 2),aw 16 true (ay 18 1 17),aw 16 true (aF 19 1 1 3),aw 16 true (ay 20 1 19),aw 16 true (bu 21 .lss 18 20),aw 10 false (ei 22 16 21),dr 23 10 22,I 4 23] .ret))
def GF:C:=(aa [cW 2 0,bz 4 false] (.seq (aa [aF 5 0 1 2,ay 6 1 5,aU 7 .eql 6 4] (aW 7 (aa [aF 8 3 1 2,ay 9 1 8,kA 10 4 9 0,bg 11 4 10,I 12 1,b8 13 177 11 12,I 14 13,aw 14 false (aF 15 3 1 2),aw 14 false (ay 16 1 15),aw 14 false (kA 17 4 16 1),aw 14 false (bg 18 4 17),cg 14 false 19 1,aw 14 false (b8 20 177 18 19),dr 21 14 20,I 4 21] .ret) .skip)) (aa [aF 22 0 1 2,ay 23 1 22,aU 24 .eql 23 2,I 25 24,aw 25 true (aF 26 2 1 2),aw 25 true (ay 27 1 26),cg 25 true 28 1,aw 25 true (bu 29 .eql 27 28),ei 30 25 29,I 4 30] .ret)))
def RZ:C:=(aa [bz 5 false] (.seq (.drawn true 17 [ay 6 1 2,I 7 0,ck 8 2 6 7,aF 9 0 1 8,ay 10 1 9,ay 11 1 2,I 12 1,ck 13 2 11 12,aF 14 0 1 13,ay 15 1 14,bu 16 .lss 10 15,I 5 16]) .ret))
def RX:C:=(.region [ay 4 1 1,I 5 0,ay 6 1 2,cd 7 (.build [.int .i64 0,.str []] [(0,1,(.t 5)),(1,1,(.t 6))]),dt (.mput (.a [false,true]) (.t 4) (.t 7) (.c (.bool true)))])
def RY:C:=(aa [bz 5 false] (.seq (.drawn true 15 [ay 6 1 2,I 7 0,ck 8 2 6 7,bg 9 2 8,ay 10 1 2,I 11 1,ck 12 2 10 11,bg 13 2 12,b8 14 161 9 13,I 5 14]) .ret))
def anu:b3 aT R2 [.tmp 2] 1 Tryz.f87=true:=bi
def anv:b3 aT R3 [.tmp 2] 1 Tryz.f88=true:=bi
def E7:b3 aT AT [.tmp 8,.tmp 9] 4 Tryz.f118=true:=bi
def O0:b3 aT Gz [.tmp 8,.tmp 9] 4 Tryz.f120=true:=bi
def O2:b3 aT GB [.tmp 4] 2 Tryz.f161=true:=bi
def O5:b3 aT GF [.tmp 4] 2 Tryz.f177=true:=bi
def anr:b3 aT RZ [.tmp 5] 3 Tryz.f183=true:=bi
def anp:b3 aT RX [] 3 Tryz.f184=true:=bi
def anq:b3 aT RY [.tmp 5] 3 Tryz.f185=true:=bi
def ny(x:bI):Prop:=(0<=x.v/\x.v<=100000)/\(x.k=2\/x.k=3)
def oI(x y:bI):Prop:=x.v<y.v
def Im{l:List bI}:jN l↔∀i,i<l.length->je ny oI l i:=by rw[Rp (p:=ny) (r:=oI) (fun a b c J U=>by unfold oI at*;omega)];exact⟨fun h=>⟨h.at',h.asc⟩,fun h=>⟨h.1,h.2⟩⟩
def kY(x:bo):Prop:=(0<=x.v/\x.v<=100000)/\kq x.s=true
def lv(x y:bo):Prop:=gd x y<0
def IE{l:List bo}:iT l↔∀i,i<l.length->je kY lv l i:=by rw[Rp (p:=kY) (r:=lv) (fun a b c J U=>by unfold lv at*;exact mO.ltr J (Int.le_of_lt U))];exact⟨fun h=>⟨h.at',h.asc⟩,fun h=>⟨h.1,h.2⟩⟩
open Classical in
def acx(l:List bI):bU au 87 [b6 (l.map bI.e)] (.bool (decide (jN l))):=by
 generalize bs:decide (jN l)=R;refine bH a1 Tryz.func87 anu fun p=>?_;unfold R2;have s:l.length<=68719476736:=by simp[eM,eV,eN,lim]at p;omega
 simp;refine eZ [0,5,6] (fun i (_:Unit)=>[(7,aj i)]) l.length (fun i _=> ∀j,j<i->je ny oI l j) () ca (fun k ab=>Ω) (fun _ f _=>?_) (fun i _ hi f _=>?_)
 ·have:R=true:=by rw[<-bs,gy,Im];exact f
  rw[this];exact cp
 ·obtain⟨b,a⟩:∃b,l[i]? =some b:=⟨_,cl hi⟩;obtain⟨c,ax⟩:∃c,l[i-1]? =some c:=⟨_,cl Ω⟩;have m:∀h,(l[i]'h)=b:=fun h=>by rw[cl hi]at a;exact e8 a
  have o:¬je ny oI l i->R=false:=fun h=>by rw[<-bs,iM];exact fun d=>h (Im.1 d i hi)
  have dy:je ny oI l i->∀j,j<i+1->je ny oI l j:=fun h j r=>by
   by_cases e:j=i
   ·rw[e];exact h
   ·exact f j Ω
  simp[hi,m,ax];((repeat' first|refine al ?_|simp[m,ax,hi]|((first|apply ct|apply cz|apply cy)<;>intro h<;>try simp at h))<;>(try exact c3));all_goals first
   |(have q:¬je ny oI l i:=by(intro d;have J:=d b a;have U:=J.2 c;have v:=J.1;unfold ny oI at*;first|omega|(have w:=U Ω ax;omega)|(simp_all;done)|(simp_all;omega))
     rw[o q]
     simp[bZ,ba,bf,a6]
     done)
   |(refine bY.rng () hi (dy fun b0 n=>?_) ?_
     ·rw[a]at n;cases n
      refine⟨?_,fun t u g=>?_⟩
      ·unfold ny;first|(simp_all;done)|(simp_all;omega)
      ·rw[ax]at g;cases g;unfold oI;simp_all
     ·exact ca)
def CZ(a b:bo):bU au 161 [a.e,b.e] (.bool (iK gd a b)):=by
 rw[<-Y2];have bs:ve a b=(decide (a.v<b.v)||(a.v==b.v&&ir a.s b.s)):=rfl;rcases Int.lt_trichotomy a.v b.v with h|h|h
 ·have:ve a b=true:=by rw[bs];simp[h]
  rw[this];refine bH a1 Tryz.func161 O2 fun c=>?_;unfold GB;exact cp
 ·have J:¬a.v<b.v:=Ω
  have U:(a.v==b.v)=true:=by simp[h]
  have:ve a b=ir a.s b.s:=by rw[bs];simp[h]
  rw[this];refine bH a1 Tryz.func161 O2 fun c=>?_;unfold GB;exact cp
 ·have J:¬a.v<b.v:=Ω
  have U:¬a.v=b.v:=Ω
  have d:(a.v==b.v)=false:=by simp[U]
  have:ve a b=false:=by rw[bs];simp[J,U]
  rw[this];refine bH a1 Tryz.func161 O2 fun c=>?_;unfold GB;exact cp
open Classical in
def acz(l:List bo):bU au 88 [b6 (l.map bo.e)] (.bool (decide (iT l))):=by
 generalize bs:decide (iT l)=R;refine bH a1 Tryz.func88 anv fun v=>?_;unfold R3;have x:l.length<=68719476736:=by simp[eM,eV,eN,lim]at v;omega
 simp;refine eZ [0,5,6] (fun i (_:Unit)=>[(7,aj i)]) l.length (fun i _=> ∀j,j<i->je kY lv l j) () ca (fun k ab=>Ω) (fun _ o _=>?_) (fun i _ hi o _=>?_)
 ·have:R=true:=by rw[<-bs,gy,IE];exact o
  rw[this];exact cp
 ·obtain⟨b,d⟩:∃b,l[i]? =some b:=⟨_,cl hi⟩;obtain⟨c,ax⟩:∃c,l[i-1]? =some c:=⟨_,cl Ω⟩;have a:∀h,(l[i]'h)=b:=fun h=>by rw[cl hi]at d;exact e8 d
  have s:¬je kY lv l i->R=false:=fun h=>by rw[<-bs,iM];exact fun t=>h (IE.1 t i hi)
  have dy:je kY lv l i->∀j,j<i+1->je kY lv l j:=fun h j w=>by
   by_cases e:j=i
   ·rw[e];exact h
   ·exact o j Ω
  have g:∀p:Prop,(p->er)->(je kY lv l i->p)->R=false:=fun p J U=>s fun h=>J (U h);have f:je kY lv l i->kY b:=fun h=>(h b d).1;have u:je kY lv l i->0<i->iK gd c b=true:=fun h n=>by simpa[iK,lv]using(h b d).2 c n ax
  have m:kY b->(0<i->iK gd c b=true)->je kY lv l i:=fun J U b0 r=>by rw[d]at r;cases r;exact⟨J,fun y n q=>by rw[ax]at q;cases q;simpa[iK,lv]using U n⟩
  unfold kY at f m;by_cases g1:b.v<0
  ·rw[g _ (fun h=>Ω) (fun h=>(f h).1.1)];exact cp
  by_cases g2:100000<b.v
  ·rw[g _ (fun h=>Ω) (fun h=>(f h).1.2)];exact cp
  cases g3:kq b.s
  ·rw[g _ (fun h=>by rw[h]at g3;cases g3) (fun h=>(f h).2)];simp[hi,a,ax];(repeat' first|refine al ?_|refine aO (vp _) ?_|refine aP (vp _) ?_|simp[a,ax,hi,g1,g2,g3]);simp[bZ,ba,bf,a6]
  by_cases g4:0<i
  ·cases g5:iK gd c b
   ·rw[g _ (fun h=>by rw[h]at g5;cases g5) (fun h=>u h g4)];simp[hi,a,ax];(repeat' first|refine al ?_|refine aO (vp _) ?_|refine aP (vp _) ?_|refine aO (CZ _ _) ?_|refine aP (CZ _ _) ?_|simp[a,ax,hi,g1,g2,g3,g4,g5]);simp[bZ,ba,bf,a6]
   ·simp[hi,a,ax];(repeat' first|refine al ?_|refine aO (vp _) ?_|refine aP (vp _) ?_|refine aO (CZ _ _) ?_|refine aP (CZ _ _) ?_|simp[a,ax,hi,g1,g2,g3,g4,g5]);exact bY.rng () hi (dy (m ⟨⟨Ω,Ω⟩,g3⟩ fun _=>g5)) ca
  ·obtain rfl:i=0:=Ω
   simp[hi,a,ax];(repeat' first|refine al ?_|refine aO (vp _) ?_|refine aP (vp _) ?_|simp[a,ax,hi,g1,g2,g3,g4]);exact bY.rng () hi (dy (m ⟨⟨Ω,Ω⟩,g3⟩ fun h=>Ω)) ca
def asn(s:List cU):∀t:T,bU au 177 [t.e,.str s] (.bool (t.has s)):=by
 intro t;induction t with
 |pair a b d c=>
  refine bH a1 Tryz.func177 O5 fun g=>?_;unfold GF;simp;cases e:a.has s<;>cases f:b.has s<;>rw[e]at d<;>rw[f]at c;all_goals(repeat' first|refine al ?_|refine aO d ?_|refine aP d ?_|refine aO c ?_|refine aP c ?_|simp)
  all_goals simp[bZ,ba,bf,a6]
  all_goals simp[T.has,e,f]
 |sym n=>
  refine bH a1 Tryz.func177 O5 fun g=>?_;unfold GF;simp;(repeat' first|refine al ?_|simp);all_goals simp[bZ,ba,bf,a6]
  all_goals simp[T.has]
 |_=>
  refine bH a1 Tryz.func177 O5 fun g=>?_;unfold GF;simp;(repeat' first|refine al ?_|simp);all_goals simp[bZ,ba,bf,a6]
  all_goals simp[T.has]
def To:C:=(aa [cW 2 0] (aa [bP 4 20] (aa [I 8 4,bP 5 0,I 6 8] (.seq (.block 0 (.loop (.seq (aa [I 9 6,I 10 1,bu 11 .leq 9 10] (aW 11 .skip (.exit 0))) (.block 1 (aa [bg 12 2 2,I 13 5,I 14 6,dS 15 231 [.t 12,.t 13,.t 14]] (aa [I 16 6,I 5 16] (.region [I 17 6,I 18 4,bu 19 .add 17 18,I 6 19]))))))) (aa [bg 20 2 2,I 21 5,I 22 1,dS 23 231 [.t 20,.t 21,.t 22]] (.block 2 (.loop (.seq (aa [I 24 4,I 25 1,bu 26 .lss 24 25] (aW 26 .skip (.exit 2))) (.block 3 (aa [I 27 4,cd 28 (.bin .mul false (gT 2) (.t 27)),bP 5 0,I 6 28] (.seq (.block 4 (.loop (.seq (aa [I 29 6,I 30 1,bu 31 .leq 29 30] (aW 31 .skip (.exit 4))) (.block 5 (aa [bg 32 2 2,I 33 5,I 34 5,I 35 4,bu 36 .add 34 35,I 37 6,dS 38 232 [.t 32,.t 33,.t 36,.t 37]] (aa [I 39 6,I 5 39] (.region [I 40 6,I 41 4,cd 42 (.bin .mul false (gT 2) (.t 41)),bu 43 .add 40 42,I 6 43]))))))) (.seq (aa [I 44 5,I 45 4,bu 46 .add 44 45,I 7 46] (aa [I 47 7,I 48 1,bu 49 .lss 47 48] (aW 49 (.region [bg 50 2 2,I 51 5,I 52 7,I 53 1,dS 54 232 [.t 50,.t 51,.t 52,.t 53]]) .skip))) (.region [I 55 4,aU 56 .mul 55 2,I 4 56])))))))))))))
def Lq:C:=(aa [cW 3 0] (aa [I 8 1,aU 9 .add 8 1,I 6 9] (.block 0 (.loop (.seq (aa [I 10 6,I 11 2,bu 12 .lss 10 11] (aW 12 .skip (.exit 0))) (.seq (.block 1 (aa [I 15 6,I 7 15] (.block 2 (.loop (.seq (aa [I 16 7,I 17 1,bu 18 .gtr 16 17,I 19 18,aw 19 true (aF 20 0 1 3),aw 19 true (ay 21 1 20),cg 19 true 22 7,cg 19 true 23 7,aw 19 true (aU 24 .sub 23 1),aw 19 true (hG 25 21 [.t 22,.t 24]),ei 26 19 25] (aW 26 .skip (.exit 2))) (.seq (.block 3 (.region [aF 29 1 1 3,ay 30 1 29,I 31 7,I 32 7,aU 33 .sub 32 1,hG 34 30 [.t 31,.t 33]])) (.region [I 27 7,aU 28 .sub 27 1,I 7 28]))))))) (.region [I 13 6,aU 14 .add 13 1,I 6 14])))))))
def GK:C:=(aa [I 164 16,I 165 22,bu 166 .lss 164 165,I 167 166,cg 167 true 168 22,cg 167 true 169 3,aw 167 true (bu 170 .lss 168 169),ei 171 167 170] (aW 171 (.region [bg 172 2 4,I 173 16,I 174 22,I 175 3,dS 176 232 [.t 172,.t 173,.t 174,.t 175]]) .skip))
def GL:C:=(.seq (aa [I 151 1,I 152 18,bu 153 .lss 151 152,I 154 153,cg 154 true 155 18,cg 154 true 156 16,aw 154 true (bu 157 .lss 155 156),ei 158 154 157] (aW 158 (.region [bg 159 2 4,I 160 1,I 161 18,I 162 16,dS 163 232 [.t 159,.t 160,.t 161,.t 162]]) .skip)) GK)
def Lu:C:=(.seq (aa [I 138 18,I 139 2,bu 140 .lss 138 139,I 141 140,cg 141 true 142 2,cg 141 true 143 22,aw 141 true (bu 144 .lss 142 143),ei 145 141 144] (aW 145 (.region [bg 146 2 4,I 147 18,I 148 2,I 149 22,dS 150 251 [.t 146,.t 147,.t 148,.t 149]]) .skip)) GL)
def Lv:C:=(aa [I 113 17,aU 114 .sub 113 1,I 20 114] (.seq (.block 8 (.loop (.seq (aa [I 115 18,I 116 19,bu 117 .lss 115 116] (aW 117 .skip (.exit 8))) (.block 9 (aa [I 118 18,I 119 19,bu 120 .add 118 119,cd 121 (.conv .u64 (.t 120)),cd 122 (.bin .shr false (.t 121) (.c (.int .u64 1))),cd 123 (.conv .i64 (.t 122)),I 21 123] (aa [aF 124 0 1 4,ay 125 1 124,I 126 20,I 127 21,bu 128 .sub 126 127,I 129 21,hG 130 125 [.t 128,.t 129],cM 131 130] (aW 131 (.region [I 132 21,aU 133 .add 132 1,I 18 133]) (.region [I 134 21,I 19 134])))))))) (aa [I 135 17,I 136 18,bu 137 .sub 135 136,I 22 137] Lu)))
def Tq:C:=(aa [cW 4 0] (.seq (aa [I 23 2,I 24 1,bu 25 .sub 23 24,aU 26 .eql 25 1] (aW 26 (aa [I 27 2,I 8 27] (aa [I 28 3,I 9 28] (.seq (.block 0 (.loop (.seq (aa [I 29 8,I 30 9,bu 31 .lss 29 30] (aW 31 .skip (.exit 0))) (.block 1 (aa [I 32 8,I 33 9,bu 34 .add 32 33,cd 35 (.conv .u64 (.t 34)),cd 36 (.bin .shr false (.t 35) (.c (.int .u64 1))),cd 37 (.conv .i64 (.t 36)),I 10 37] (aa [aF 38 0 1 4,ay 39 1 38,I 40 10,I 41 1,hG 42 39 [.t 40,.t 41]] (aW 42 (.region [I 43 10,aU 44 .add 43 1,I 8 44]) (.region [I 45 10,I 9 45])))))))) (.seq (aa [I 46 1,I 11 46] (.block 2 (.loop (.seq (aa [I 47 11,I 48 8,aU 49 .sub 48 1,bu 50 .lss 47 49] (aW 50 .skip (.exit 2))) (.seq (.block 3 (.region [aF 53 1 1 4,ay 54 1 53,I 55 11,I 56 11,aU 57 .add 56 1,hG 58 54 [.t 55,.t 57]])) (.region [I 51 11,aU 52 .add 51 1,I 11 52])))))) .ret)))) .skip)) (.seq (aa [I 59 3,I 60 2,bu 61 .sub 59 60,aU 62 .eql 61 1] (aW 62 (aa [I 63 1,I 12 63] (aa [I 64 2,I 13 64] (.seq (.block 4 (.loop (.seq (aa [I 65 12,I 66 13,bu 67 .lss 65 66] (aW 67 .skip (.exit 4))) (.block 5 (aa [I 68 12,I 69 13,bu 70 .add 68 69,cd 71 (.conv .u64 (.t 70)),cd 72 (.bin .shr false (.t 71) (.c (.int .u64 1))),cd 73 (.conv .i64 (.t 72)),I 14 73] (aa [aF 74 0 1 4,ay 75 1 74,I 76 2,I 77 14,hG 78 75 [.t 76,.t 77],cM 79 78] (aW 79 (.region [I 80 14,aU 81 .add 80 1,I 12 81]) (.region [I 82 14,I 13 82])))))))) (.seq (aa [I 83 2,I 15 83] (.block 6 (.loop (.seq (aa [I 84 15,I 85 12,bu 86 .gtr 84 85] (aW 86 .skip (.exit 6))) (.seq (.block 7 (.region [aF 89 1 1 4,ay 90 1 89,I 91 15,I 92 15,aU 93 .sub 92 1,hG 94 90 [.t 91,.t 93]])) (.region [I 87 15,aU 88 .sub 87 1,I 15 88])))))) .ret)))) .skip)) (aa [I 95 1,I 96 3,bu 97 .add 95 96,cd 98 (.conv .u64 (.t 97)),cd 99 (.bin .shr false (.t 98) (.c (.int .u64 1))),cd 100 (.conv .i64 (.t 99)),I 16 100] (aa [I 101 16,I 102 2,bu 103 .add 101 102,I 17 103] (aa [bP 18 0,bP 19 0] (.seq (aa [I 104 2,I 105 16,bu 106 .gtr 104 105] (aW 106 (aa [I 107 17,I 108 3,bu 109 .sub 107 108,I 18 109] (.region [I 110 16,I 19 110])) (aa [I 111 1,I 18 111] (.region [I 112 2,I 19 112])))) Lv)))))))
def Tl:C:=(aa [cW 4 0] (aa [I 10 2,I 11 1,bu 12 .sub 10 11,I 8 12] (aa [I 13 3,I 14 2,bu 15 .sub 13 14,I 9 15] (.seq (.block 0 (.loop (.seq (aa [I 16 8,I 17 9,bu 18 .neq 16 17] (aW 18 .skip (.exit 0))) (.block 1 (aa [I 19 8,I 20 9,bu 21 .gtr 19 20] (aW 21 (aa [bg 22 2 4,I 23 2,I 24 8,bu 25 .sub 23 24,I 26 2,I 27 9,dS 28 270 [.t 22,.t 25,.t 26,.t 27]] (.region [I 29 8,I 30 9,bu 31 .sub 29 30,I 8 31])) (aa [bg 32 2 4,I 33 2,I 34 8,bu 35 .sub 33 34,I 36 2,I 37 9,bu 38 .add 36 37,I 39 8,bu 40 .sub 38 39,I 41 8,dS 42 270 [.t 32,.t 35,.t 40,.t 41]] (.region [I 43 9,I 44 8,bu 45 .sub 43 44,I 9 45])))))))) (.region [bg 46 2 4,I 47 2,I 48 8,bu 49 .sub 47 48,I 50 2,I 51 8,dS 52 270 [.t 46,.t 49,.t 50,.t 51]])))))
def Tp:C:=(aa [cW 4 0] (aa [bP 8 0] (.block 0 (.loop (.seq (aa [I 9 8,I 10 3,bu 11 .lss 9 10] (aW 11 .skip (.exit 0))) (.seq (.block 1 (.region [aF 14 1 1 4,ay 15 1 14,I 16 1,I 17 8,bu 18 .add 16 17,I 19 2,I 20 8,bu 21 .add 19 20,hG 22 15 [.t 18,.t 21]])) (.region [I 12 8,aU 13 .add 12 1,I 8 13])))))))
def aoM:b3 aT To [] 2 Tryz.f199=true:=bi
def ZF:b3 aT Lq [] 3 Tryz.f231=true:=bi
def aoO:b3 aT Tq [] 4 Tryz.f232=true:=bi
def aoK:b3 aT Tl [] 4 Tryz.f251=true:=bi
def aoN:b3 aT Tp [] 4 Tryz.f270=true:=bi
end
section
open Go Go.Pv
structure fS {α:Type} (S:List α->cS) (n:Nat) (g cr:Nat) (lc ch:List af) (lt:α->α->Bool):Prop where
 ok:∀l,eA (S l)
 same:∀l bj,l.length=n->bj.length=n->Same (S l) (S bj)
 klc:∀l,l.length=n->aH (aM (S l)) lc
 ksc:∀l,l.length=n->aH (aM (S l)) ch
 slc:cf lc=lc
 ssc:cf ch=ch
 le:n<=68719476736
 less:∀l,l.length=n->∀(i j:Nat) x y,l[i]? =some x->l[j]? =some y->bG au g (aj i::aj j::lc) (S l) fun r ak=>r= .bool (lt x y)/\ak=S l
 swap:∀l,l.length=n->2<=n->∀i j:Nat,i<n->j<n->bG au cr (aj i::aj j::ch) (S l) fun r ak=>r= .tuple []/\ak=S (ia l i j)
variable {α:Type} {S:List α->cS} {n g cr:Nat} {lc ch:List af} {lt:α->α->Bool}
def fD(g cr:Nat)(lc ch:List af):af:= .agg [.func g lc,.func cr ch]
def Mu(H:fS S n g cr lc ch lt)(l:List α)(e:l.length=n)(a b c:Nat)(v:a+c<=b)(u:b+c<=n):
  bG au 270 [fD g cr lc ch,aj a,aj b,aj c] (S l) fun r o=>r= .tuple []/\∃h,o=S h/\hl a (b+c) l h/\∀k,h[k]? =l[uc a b c k]?:=by
 have j:=H.ok l;have d:∀l m,ae (.loc m) (S l).b=none:=fun l=>(H.ok l).obj.1;have hu:∀l m cs,cI (.loc m) cs (S l).b=(S l).b++[(.loc m,cs)]:=fun l m cs=>kM (d l m);have ar:∀m,aB.loc m∉cJ (S l):=kI j.obj;have hle:=H.le;refine bG.mk mixed a1 Tryz.func270 aoN Ψ j.obj fun t s=>?_;unfold Tp;simp[fD,hu,ar,c6,d,H.slc,H.ssc];refine fT (fun i (lk:List α)=>⟨[(1,aj a),(2,aj b),(3,aj c),(4,.ptr (.loc 0) 0),(8,aj i)],[(.loc 0,[.func g lc,.func cr ch])]++(S lk).b,(S lk).e,1,cJ (S l)⟩) c (fun i lk=>lk.length=n/\hl a (b+c) l lk/\∀k,lk[k]? =l[uc a b i k]?) l
  (gn.obL j (Same.refl _) dl (by simp[c6,d,az,aH,Ck (H.klc l e),Ck (H.ksc l e)]) aX aX) ⟨e,.refl _,fun k=>by simp[uc];split<;>(try split)<;>(try rfl)<;>(exfalso;omega)⟩ ?_ ?_
 ·rintro lk ⟨J,U,f⟩ _;simp;refine c5.at (S lk) (.inr rfl) (H.ok lk) (H.same _ _ e J) aX aX ?_;simp[dc,ba,bf,a6];exact⟨lk,rfl,U,f⟩
 ·rintro i lk hi ⟨J,U,f⟩ _;have p:((a:Int)+i)=(a+i:Nat):=Ω
  have q:((b:Int)+i)=(b+i:Nat):=Ω
  simp[hi,c6,d,H.ssc];(repeat' first|refine al ?_|simp);rw[p,q];refine CallDo.ob (H.swap lk J Ω (a+i) (b+i) Ω Ω) (H.ok lk) aX aX (by simp[H.ksc lk J]) ?_;rintro r o ⟨rfl,rfl⟩;refine⟨H.same _ _ J (by simp[J]),?_⟩;simp[hF,jx,cK,d];(repeat' first|refine al ?_|simp);refine bY.rng (ia lk (a+i) (b+i)) hi ⟨by simp[J],.step U Ω Ω Ω Ω Ω Ω,fun k=>?_⟩ (gn.obL (L:=[(.loc 0,[.func g lc,.func cr ch])]) (H.ok _) (H.same _ _ e (by simp[J])) dl (by simp[c6,d,az,aH,Ck (H.klc (ia lk (a+i) (b+i)) (by simp[J])),Ck (H.ksc (ia lk (a+i) (b+i)) (by simp[J]))]) aX aX);rw[B9 _ _ _ _ Ω Ω,f,f,f];have:uc a b (i+1) k=if k=a+i then uc a b i (b+i)else if k=b+i then uc a b i (a+i)else uc a b i k:=by
   simp only[uc];repeat' split
   all_goals omega
  rw[this];split
  ·rfl
  ·split<;>rfl
section
variable (H:fS S n g cr lc ch lt)
include H
theorem fS.loc{l:List α}(m:Nat):ae (.loc m) (S l).b=none:=(H.ok l).obj.1 m
theorem fS.weak{l lk:List α}(b:l.length=n)(ab:lk.length=n){st:bp}{t':List (Nat×af)}(d:∀x∈t',Pv.get x.1 st.t=x.2/\az (nC (S lk) 1) x.2)(a:ae (.loc 0) st.b=some [.func g lc,.func cr ch])
  (c:∀k cs,ae k (S lk).b=some cs->ae k st.b=some cs) (he:∀k o,ae k (S lk).e=some o->ae k st.e=some o):
  gn (cJ (S l)) st ⟨t',(.loc 0,[.func g lc,.func cr ch])::(S lk).b,(S lk).e,1,cJ (S l)⟩:=
 gn.obL (L:=[(.loc 0,[.func g lc,.func cr ch])]) (H.ok _) (H.same _ _ b ab) d (by simp[a,az,aH,Ck (H.klc lk ab),Ck (H.ksc lk ab)]) c he
theorem fS.weakC{l lk:List α}(b:l.length=n)(ab:lk.length=n){t t':List (Nat×af)}{q:Nat}{o:List aB}(c:∀x∈t',Pv.get x.1 t=x.2/\az (nC (S lk) 1) x.2):
  gn (cJ (S l)) ⟨t,(.loc 0,[.func g lc,.func cr ch])::(S lk).b,(S lk).e,q,o⟩ ⟨t',(.loc 0,[.func g lc,.func cr ch])::(S lk).b,(S lk).e,1,cJ (S l)⟩:=
 H.weak b ab c (by simp[ae]) (fun k cs a=>by
  cases k with
  |loc m=>rw[H.loc m]at a;cases a
  |obj m=>simpa[ae]using a) (fun _ _ a=>a)
theorem fS.call{lk:List α}(J:lk.length=n){f:Nat}{args:List af}{R:af->List α->Prop}(i:bG au f args (S lk) fun r c=> ∃a,c=S a/\R r a)(bs:∀r a,R r a->a.length=n)(ab:aH (aM (S lk)) args){t:List (Nat×af)}{aY:List af}{o:List aB}{d:bd Nat}{K:bp->Prop}
  (h:∀r a,R r a->K ⟨e7 d r t,(.loc 0,aY)::(S a).b,(S a).e,1,o++cJ (S a)⟩):CallDo au f args ⟨t,(.loc 0,aY)::(S lk).b,(S lk).e,1,o⟩ d K:=by
 refine CallDo.ob i (H.ok lk) (fun k cs b=>?_) (fun _ _ b=>b) ab ?_
 ·cases k with
  |loc m=>rw[H.loc m]at b;cases b
  |obj m=>simpa[ae]using b
 ·rintro r c ⟨a,rfl,e⟩;refine⟨H.same _ _ J (bs _ _ e),?_⟩;have g:cK (S lk).b ((.loc 0,aY)::(S lk).b)=[(.loc 0,aY)]:=by have:=jx (S lk).b [(aB.loc 0,aY)] (S lk).b;rw[hF]at this;simpa[cK,H.loc]using this
  have j:cK (S lk).e (S lk).e=[]:=hF _;have:=h _ _ e;simp only[g,j];exact this
theorem fS.doSwap{lk:List α}(J:lk.length=n)(i j:Nat)(hi:i<n)(c:j<n)(U:2<=n){t:List (Nat×af)}{aY:List af}{o:List aB}{d:bd Nat}{K:bp->Prop}
  (h:K ⟨e7 d (.tuple []) t,(.loc 0,aY)::(S (ia lk i j)).b,(S (ia lk i j)).e,1,o++cJ (S (ia lk i j))⟩):CallDo au cr (aj i::aj j::ch) ⟨t,(.loc 0,aY)::(S lk).b,(S lk).e,1,o⟩ d K:=
 H.call J (R:=fun r a=>r= .tuple []/\a=ia lk i j) ((H.swap lk J U i j hi c).mono fun r g ⟨b,f⟩=>⟨_,f,b,rfl⟩) (fun r a ⟨_,e⟩=>by rw[e];simp[J]) (by simp[az,aH,H.ksc lk J]) (by rintro r a ⟨rfl,rfl⟩;exact h)
theorem fS.doLess{lk:List α}(J:lk.length=n)(i j:Nat){x y:α}(hi:lk[i]? =some x)(c:lk[j]? =some y){t:List (Nat×af)}{aY:List af}{o:List aB}{d:bd Nat}{K:bp->Prop}
  (h:K ⟨e7 d (.bool (lt x y)) t,(.loc 0,aY)::(S lk).b,(S lk).e,1,o++cJ (S lk)⟩):CallDo au g (aj i::aj j::lc) ⟨t,(.loc 0,aY)::(S lk).b,(S lk).e,1,o⟩ d K:=
 H.call J (R:=fun r a=>r= .bool (lt x y)/\a=lk) ((H.less lk J i j x y hi c).mono fun r k ⟨b,f⟩=>⟨_,f,b,rfl⟩) (fun r a ⟨_,e⟩=>by rw[e];exact J) (by simp[az,aH,H.klc lk J]) (by rintro r a ⟨rfl,rfl⟩;exact h)
theorem fS.doFn{lk:List α}(J:lk.length=n){f:Nat}{args:List af}{R:List α->Prop}(i:bG au f args (S lk) fun r b=>r= .tuple []/\∃a,b=S a/\R a)(bs:∀a,R a->a.length=n)(ab:aH (aM (S lk)) args){t:List (Nat×af)}{aY:List af}{o:List aB}{d:bd Nat}{K:bp->Prop}
  (h:∀a,R a->K ⟨e7 d (.tuple []) t,(.loc 0,aY)::(S a).b,(S a).e,1,o++cJ (S a)⟩):CallDo au f args ⟨t,(.loc 0,aY)::(S lk).b,(S lk).e,1,o⟩ d K:=
 H.call J (R:=fun r a=>r= .tuple []/\R a) (i.mono fun r b ⟨e,a,j,c⟩=>⟨a,j,e,c⟩) (fun r a h=>bs a h.2) ab (by rintro r a ⟨rfl,g⟩;exact h a g)
theorem fS.kdata{lk:List α}(J:lk.length=n):az (aM (S lk)) (fD g cr lc ch):=by simp[fD,az,aH,H.klc lk J,H.ksc lk J]
theorem fS.ret{l lk:List α}(c:l.length=n)(J:lk.length=n){Q:af->cS->Prop}{e:Exit}(he:e= .ret\/e= .normal){t:List (Nat×af)}{aY:List af}{q:Nat}{o:List aB}(b:Q (.tuple []) (S lk)):c5 [] (S l) Q e ⟨t,(.loc 0,aY)::(S lk).b,(S lk).e,q,o⟩:=by
 refine c5.at (S lk) he (H.ok lk) (H.same _ _ c J) (fun k cs a=>?_) (fun _ _ a=>a) ?_
 ·cases k with
  |loc m=>rw[H.loc m]at a;cases a
  |obj m=>simpa[ae]using a
 ·simp[dc,ba,a6,az,aH,b]
end
def jk(H:fS S n g cr lc ch lt):b7 (fD g cr lc ch)=fD g cr lc ch:=by simp[fD,b7,cf,H.slc,H.ssc]
def jf:af.agg [.func g lc,.func cr ch]=fD g cr lc ch:=rfl
def ajl(H:fS S n g cr lc ch lt)(l:List α)(f:l.length=n)(a m b:Nat)(G:a<m)(A:m<b)(E:b<=n):
  bG au 251 [fD g cr lc ch,aj a,aj m,aj b] (S l) fun r y=>r= .tuple []/\∃c,y=S c/\hl a b l c/\∀k,c[k]? =l[iV a m b k]?:=by
 have u:=H.ok l;have s:∀l m,ae (.loc m) (S l).b=none:=fun l=>(H.ok l).obj.1;have hu:∀l m cs,cI (.loc m) cs (S l).b=(S l).b++[(.loc m,cs)]:=fun l m cs=>kM (s l m);have ar:∀m,aB.loc m∉cJ (S l):=kI u.obj;have hle:=H.le;refine bG.mk mixed a1 Tryz.func251 aoK Ψ u.obj fun F B=>?_;unfold Tl;simp[fD,hu,ar,c6,s];(repeat' first|refine al ?_|simp[hu,ar,c6,s]);refine o7 (fun(x:(Nat×Nat)×List α)=>⟨[(2,aj m),(4,.ptr (.loc 0) 0),(8,aj x.1.1),(9,aj x.1.2)],(.loc 0,[.func g lc,.func cr ch])::(S x.2).b,(S x.2).e,1,cJ (S l)⟩) (fun x=>x.1.1+x.1.2)
  (fun x=>x.2.length=n/\0<x.1.1/\0<x.1.2/\a+x.1.1<=m/\m+x.1.2<=b/\hl a b l x.2/\∀k,l[iV a m b k]? =x.2[iV (m-x.1.1) m (m+x.1.2) k]?) ((m-a,b-m),l)
  (H.weak f f (by simp[az];omega) (by simp[c6,s]) aX aX) ⟨f,by simp;omega,by simp;omega,by simp;omega,by simp;omega,.refl _,fun k=>by simp[show m-(m-a)=a by omega,show m+(b-m)=b by omega]⟩ ?_
 rintro⟨⟨i,j⟩,lk⟩ ⟨J,hi,v,t,w,U,q⟩ _;simp only at J hi v t w U q;simp[ae];((repeat' first|refine al ?_|simp[ae]|((first|apply ct|apply cz|apply cy)<;>intro h<;>try simp at h))<;>(try exact c3))
 ·have p:((m:Int)-i)=(m-i:Nat):=Ω
  simp only[jk H,H.slc,H.ssc,p,jf];refine H.doFn J (Mu H lk J (m-i) m j Ω Ω) (fun c h=>by rw[h.1.length];exact J) (by simp[aH,az,H.kdata J]) ?_;rintro c ⟨d,o⟩;have e:c.length=n:=by rw[d.length];exact J
  simp;((repeat' first|refine al ?_|simp|((first|apply ct|apply cz|apply cy)<;>intro h<;>try simp at h))<;>(try exact c3));refine bY.whl ((i-j,j),c) d6 ⟨e,by simp;omega,v,by simp;omega,w,U.trans (d.mono Ω Ω),fun k=>?_⟩ (H.weakC f e (by simp[az];omega));rw[q,o];congr 1;simp only[iV,uc];repeat' split
  all_goals omega
 ·have p:((m:Int)-i)=(m-i:Nat):=Ω
  have z:((m:Int)+j-i)=(m+j-i:Nat):=Ω
  simp only[jk H,H.slc,H.ssc,p,z,jf];refine H.doFn J (Mu H lk J (m-i) (m+j-i) i Ω Ω) (fun c h=>by rw[h.1.length];exact J) (by simp[aH,az,H.kdata J]) ?_;rintro c ⟨d,o⟩;have e:c.length=n:=by rw[d.length];exact J
  simp;(repeat' first|refine al ?_|simp);refine bY.whl ((i,j-i),c) d6 ⟨e,hi,by simp;omega,t,by simp;omega,U.trans (d.mono Ω Ω),fun k=>?_⟩ (H.weakC f e (by simp[az];omega));rw[q,o];congr 1;simp only[iV,uc];repeat' split
  all_goals omega
 ·have p:((m:Int)-i)=(m-i:Nat):=Ω
  simp only[jk H,H.slc,H.ssc,p,jf];refine H.doFn J (Mu H lk J (m-i) m i Ω Ω) (fun c h=>by rw[h.1.length];exact J) (by simp[aH,az,H.kdata J]) ?_;rintro c ⟨d,o⟩;have e:c.length=n:=by rw[d.length];exact J
  simp;refine H.ret f e (.inr rfl) ⟨rfl,c,rfl,U.trans (d.mono Ω Ω),fun k=>?_⟩;rw[q,o];congr 1;simp only[iV,uc];repeat' split
  all_goals omega
end
section
open Go Go.Pv
variable {α:Type} {S:List α->cS} {n g cr:Nat} {lc ch:List af} {lt:α->α->Bool}
def vF(lt:α->α->Bool)(a b j:Nat)(l:List α):Prop:= ∀p q x y,a<=p->p<q->q<b->q≠j->l[p]? =some x->l[q]? =some y->lt y x=false
def vF.swap(n:r4 lt){a b j:Nat}{l:List α}(h:vF lt a b (j+1) l)(s:a<=j)(t:j+1<b)(r:j+1<l.length){x y:α}(g:l[j+1]? =some x)(d:l[j]? =some y)(m:lt x y=true):vF lt a b j (ia l (j+1) j):=by
 intro p q u v i k f o hu c;rw[B9 _ _ _ _ r Ω]at hu c;rw[if_neg (by omega:¬(q=j))]at c;split at c
 ·rename_i e;subst e;rw[d]at c;cases c;split at hu
  ·omega
  ·split at hu
   ·rw[g]at hu;cases hu;exact n.asym _ _ m
   ·exact h p j u y i Ω Ω Ω hu d
 ·split at hu
  ·rename_i e;subst e;rw[d]at hu;cases hu;exact h j q y v s Ω f Ω d c
  ·split at hu
   ·rename_i e;subst e;rw[g]at hu;cases hu;exact h (p+1) q x v Ω Ω f Ω g c
   ·exact h p q u v i k f Ω hu c
def vF.done(k:r4 lt){a b j:Nat}{l:List α}(h:vF lt a b (j+1) l)(r:a<=j)(s:j+1<b){x y:α}(n:l[j+1]? =some x)(g:l[j]? =some y)(d:lt x y=false):fY lt a b l:=by
 intro p q u v f i m hu c;by_cases e:q=j+1
 ·subst e;rw[n]at c;cases c;by_cases o:p=j
  ·subst o;rw[g]at hu;cases hu;exact d
  ·exact k.ntr _ _ _ (h p j u y f Ω Ω Ω hu g) d
 ·exact h p q u v f i m e hu c
def vF.first{a b:Nat}{l:List α}(h:vF lt a b a l):fY lt a b l:=fun p q u v d c e hu f=>h p q u v d c e Ω hu f
def fY.but{a b:Nat}{l:List α}(h:fY lt a b l):vF lt a (b+1) b l:=fun p q u v d c f g hu e=>h p q u v d c Ω hu e
def VN(H:fS S n g cr lc ch lt)(B:r4 lt)(l:List α)(d:l.length=n)(a b:Nat)(Q:a<=b)(W:b<=n):
  bG au 231 [fD g cr lc ch,aj a,aj b] (S l) fun r O=>r= .tuple []/\∃t,O=S t/\hl a b l t/\fY lt a b t:=by
 have E:=H.ok l;have s:∀l m,ae (.loc m) (S l).b=none:=fun l=>(H.ok l).obj.1;have hu:∀l m cs,cI (.loc m) cs (S l).b=(S l).b++[(.loc m,cs)]:=fun l m cs=>kM (s l m);have ar:∀m,aB.loc m∉cJ (S l):=kI E.obj;have hle:=H.le;refine bG.mk mixed a1 Tryz.func231 ZF Ψ E.obj fun X R=>?_;unfold Lq;simp[fD,hu,ar,c6,s];(repeat' first|refine al ?_|simp[hu,ar,c6,s]);refine o7 (fun(x:Nat×List α)=>⟨[(1,aj a),(2,aj b),(3,.ptr (.loc 0) 0),(6,aj x.1)],(.loc 0,[.func g lc,.func cr ch])::(S x.2).b,(S x.2).e,1,cJ (S l)⟩) (fun x=>b+1-x.1)
  (fun x=>x.2.length=n/\a<x.1/\x.1<=b+1/\(x.1<=b\/x.1=a+1)/\hl a b l x.2/\fY lt a x.1 x.2) (a+1,l)
  (H.weak d d dl (by simp[c6,s]) aX aX) ⟨d,Ψ,by simp;omega,.inr rfl,.refl _,fun i j x y J U e=>by simp at e;omega⟩ ?_
 rintro⟨i,lk⟩ ⟨J,G,P,F,U,e⟩ _;simp only at J G P F U e;simp;((repeat' first|refine al ?_|simp|((first|apply ct|apply cz|apply cy)<;>intro h<;>try simp at h))<;>(try exact c3))
 ·refine o7 (fun(x:Nat×List α)=>⟨[(1,aj a),(2,aj b),(3,.ptr (.loc 0) 0),(6,aj i),(7,aj x.1)],(.loc 0,[.func g lc,.func cr ch])::(S x.2).b,(S x.2).e,1,cJ (S l)⟩) (fun x=>x.1)
   (fun x=>x.2.length=n/\a<=x.1/\x.1<=i/\hl a b l x.2/\vF lt a (i+1) x.1 x.2) (i,lk)
   (H.weakC d J dl) ⟨J,by simp;omega,Ψ,U,fY.but e⟩ ?_
  rintro⟨j,f⟩ ⟨c,v,u,o,k⟩ _;simp only at c v u o k;simp[ae];((repeat' first|refine al ?_|simp[ae]|((first|apply ct|apply cz|apply cy)<;>intro h<;>try simp at h))<;>(try exact c3))
  ·obtain⟨dg,rfl⟩:∃dg,j=dg+1:=⟨j-1,Ω⟩;obtain⟨x,w⟩:∃x,f[dg+1]? =some x:=⟨_,cl Ω⟩;obtain⟨y,z⟩:∃y,f[dg]? =some y:=⟨_,cl Ω⟩;have N:(((dg+1:Nat):Int)-1)=(dg:Nat):=Ω
   rw[H.slc,N];refine H.doLess c (dg+1) dg w z ?_;simp;cases A:lt x y with
   |true=>
    simp[ae];(repeat' first|refine al ?_|simp[ae]);have L:((dg:Int)+1)=(dg+1:Nat):=Ω
    rw[H.ssc,L];refine H.doSwap c (dg+1) dg Ω Ω Ω ?_;simp;(repeat' first|refine al ?_|simp);refine bY.whl (dg,ia f (dg+1) dg) Ψ ⟨by simp[c],by simp;omega,by simp;omega,.step o Ω Ω Ω Ω Ω Ω,k.swap B Ω Ω Ω w z A⟩ (H.weakC d (by simp[c]) dl)
   |false=>simp;((repeat' first|refine al ?_|simp|((first|apply ct|apply cz|apply cy)<;>intro h<;>try simp at h))<;>(try exact c3));refine bY.whl (i+1,f) d6 ⟨c,by simp;omega,by simp;omega,by simp;omega,o,k.done B Ω Ω w z A⟩ (H.weakC d c dl)
  ·obtain rfl:j=a:=Ω
   refine bY.whl (i+1,f) d6 ⟨c,by simp;omega,by simp;omega,by simp;omega,o,k.first⟩ (H.weakC d c dl)
 ·refine H.ret d J (.inr rfl) ⟨rfl,lk,rfl,U,fun p q x y M K V=>e p q x y M K Ω⟩
end
section
open Go Go.Pv
variable {α:Type} [Inhabited α] {S:List α->cS} {n g cr:Nat} {lc ch:List af} {lt:α->α->Bool}
def AN{d:Array α}{i:Nat}(h:i<d.size):d.toList[i]? =some d[i]!:=by simp[getElem!_pos,h]
def ID(d:Array α){i j:Nat}(hi:i<d.size)(a:j<d.size):ia d.toList i j=(Sort.swp d i j).toList:=by simp[ia,Sort.swp,AN hi,AN a]
section
variable (H:fS S n g cr lc ch lt)
include H
theorem fS.swapA{d:Array α}(J:d.size=n)(U:2<=n)(i j:Nat)(hi:i<n)(b:j<n){t:List (Nat×af)}{aY:List af}{o:List aB}{a:bd Nat}{K:bp->Prop}
  (h:∀o,K ⟨e7 a (.tuple []) t,(.loc 0,aY)::(S (Sort.swp d i j).toList).b,(S (Sort.swp d i j).toList).e,1,o⟩):CallDo au cr (.int .i64 i:: .int .i64 j::ch) ⟨t,(.loc 0,aY)::(S d.toList).b,(S d.toList).e,1,o⟩ a K:=by
 refine H.doSwap (by simpa using J) i j hi b U ?_;rw[ID d Ω Ω];exact h _
theorem fS.lessA{d:Array α}(J:d.size=n)(i j:Nat)(hi:i<n)(b:j<n){t:List (Nat×af)}{aY:List af}{o:List aB}{a:bd Nat}{K:bp->Prop}
  (h:∀o,K ⟨e7 a (.bool (lt d[i]! d[j]!)) t,(.loc 0,aY)::(S d.toList).b,(S d.toList).e,1,o⟩):CallDo au g (.int .i64 i:: .int .i64 j::lc) ⟨t,(.loc 0,aY)::(S d.toList).b,(S d.toList).e,1,o⟩ a K:=
 H.doLess (by simpa using J) i j (AN Ω) (AN Ω) (h _)
theorem fS.fnA{d d2:Array α}(J:d.size=n)(U:d2.size=n){f:Nat}{args:List af}{r:af}(j:bG au f args (S d.toList) fun a g=>a=r/\g=S d2.toList)(ab:aH (aM (S d.toList)) args){t:List (Nat×af)}{aY:List af}{o:List aB}{c:bd Nat}{K:bp->Prop}
  (h:∀o,K ⟨e7 c r t,(.loc 0,aY)::(S d2.toList).b,(S d2.toList).e,1,o⟩):CallDo au f args ⟨t,(.loc 0,aY)::(S d.toList).b,(S d.toList).e,1,o⟩ c K:=
 H.call (by simpa using J) (R:=fun a b=>a=r/\b=d2.toList) (j.mono fun r g ⟨i,k⟩=>⟨_,k,i,rfl⟩) (fun r b ⟨_,e⟩=>by rw[e];simpa using U) ab (by rintro a b ⟨rfl,rfl⟩;exact h _)
end
section
variable (H:fS S n g cr lc ch lt)
include H
theorem fS.loopA{β:Type}{d:List α}(m:d.length=n){t:List (Nat×af)}{b:List (aB×List af)}{e:List (aB×dW)}{q:Nat}{o:List aB}(h:List Nat)(cs:β->List (Nat×af))(A:β->Array α)(μ:β->Nat)(f:β->Prop)(a0:β)(j:(A a0).size=n)(l:f a0)
  (i:ae (.loc 0) b=some [.func g lc,.func cr ch]) (s:∀k cs,ae k (S (A a0).toList).b=some cs->ae k b=some cs) (he:∀k o,ae k (S (A a0).toList).e=some o->ae k e=some o)
  (u:∀x∈wy t h++cs a0,Pv.get x.1 t=x.2/\az (nC (S (A a0).toList) 1) x.2) {c:C} {Q:Exit->bp->Prop}
  (p:∀a,f a->de au (cJ (S d)) c (bY (cJ (S d)) (C9 (fun a=>⟨wy t h++cs a,(.loc 0,[.func g lc,.func cr ch])::(S (A a).toList).b,(S (A a).toList).e,1,cJ (S d)⟩) μ f) (μ a) Q) ⟨wy t h++cs a,(.loc 0,[.func g lc,.func cr ch])::(S (A a).toList).b,(S (A a).toList).e,1,cJ (S d)⟩):
  de au (cJ (S d)) (.loop c) Q ⟨t,b,e,q,o⟩:=
 o7 (fun a=>⟨wy t h++cs a,(.loc 0,[.func g lc,.func cr ch])::(S (A a).toList).b,(S (A a).toList).e,1,cJ (S d)⟩) μ f a0 (H.weak m (by simpa using j) u i s he) l fun a r _=>p a r
theorem fS.callA0{lk:List α}(J:lk.length=n){f:Nat}{args:List af}{R:af->List α->Prop}(i:bG au f args (S lk) fun r c=> ∃a,c=S a/\R r a)(bs:∀r a,R r a->a.length=n)(ab:aH (aM (S lk)) args){t:List (Nat×af)}{aY:List af}{o:List aB}{d:bd Nat}{K:bp->Prop}
  (h:∀r a,R r a->∀o,K ⟨e7 d r t,(.loc 0,aY)::(S a).b,(S a).e,1,o⟩):CallDo au f args ⟨t,(S lk).b++[(.loc 0,aY)],(S lk).e,1,o⟩ d K:=by
 refine CallDo.ob i (H.ok lk) (fun k cs b=>by rw[c6,b]) (fun _ _ b=>b) ab ?_;rintro r c ⟨a,rfl,e⟩;refine⟨H.same _ _ J (bs _ _ e),?_⟩;have g:cK (S lk).b ((S lk).b++[(.loc 0,aY)])=[(.loc 0,aY)]:=by rw[jx,hF];simp[cK,H.loc]
 have j:cK (S lk).e (S lk).e=[]:=hF _;have:=h _ _ e (o++cJ (S a));simp only[g,j];exact this
theorem fS.swapA0{d:Array α}(J:d.size=n)(U:2<=n)(i j:Nat)(hi:i<n)(f:j<n){t:List (Nat×af)}{aY:List af}{o:List aB}{b:bd Nat}{K:bp->Prop}
  (h:∀o,K ⟨e7 b (.tuple []) t,(.loc 0,aY)::(S (Sort.swp d i j).toList).b,(S (Sort.swp d i j).toList).e,1,o⟩):CallDo au cr (.int .i64 i:: .int .i64 j::ch) ⟨t,(S d.toList).b++[(.loc 0,aY)],(S d.toList).e,1,o⟩ b K:=by
 refine H.callA0 (by simpa using J) (R:=fun r a=>r= .tuple []/\a=(Sort.swp d i j).toList) ((H.swap d.toList (by simpa using J) U i j hi f).mono fun r k ⟨c,g⟩=>⟨_,g,c,ID d Ω Ω⟩) (fun r a ⟨_,e⟩=>by rw[e];simp[Sort.swp,J]) (by simp[az,aH,H.ksc d.toList (by simpa using J)]) ?_;rintro r a ⟨rfl,rfl⟩ o;exact h o
theorem fS.retA{l:List α}{d:Array α}(b:l.length=n)(J:d.size=n){Q:af->cS->Prop}{e:Exit}(he:e= .ret\/e= .normal){t:List (Nat×af)}{aY:List af}{q:Nat}{o:List aB}(a:Q (.tuple []) (S d.toList)):c5 [] (S l) Q e ⟨t,(.loc 0,aY)::(S d.toList).b,(S d.toList).e,q,o⟩:=H.ret b (by simpa using J) he a
theorem fS.retR{b:List bW}{l:List α}{d:Array α}(c:l.length=n)(J:d.size=n){Q:af->cS->Prop}{e:Exit}(he:e= .ret\/e= .normal){t:List (Nat×af)}{aY:List af}{q:Nat}{o:List aB}(h:dc ⟨t,(.loc 0,aY)::(S d.toList).b,(S d.toList).e,q,o⟩ b fun r=>az (aM (S d.toList)) r/\Q r (S d.toList)):c5 b (S l) Q e ⟨t,(.loc 0,aY)::(S d.toList).b,(S d.toList).e,q,o⟩:=by
 refine c5.at (S d.toList) he (H.ok _) (H.same _ _ c (by simpa using J)) (fun k cs a=>?_) (fun _ _ a=>a) h;cases k with
 |loc m=>rw[H.loc m]at a;cases a
 |obj m=>simpa[ae]using a
end
def hO(d:Array α)(i j:Nat):(Sort.swp d i j).size=d.size:=by simp[Sort.swp]
end
section
open Go Go.Pv
def S6:C:=(aa [bP 2 0] (.seq (.cond (.c (.bool false)) (aa [I 3 0,cd 4 (.conv .u32 (.t 3)),cT 5 236 4,I 2 5] .ret) .skip) (aa [I 6 0,cT 7 237 6,I 2 7] .ret)))
def Lr:C:=(aa [bg 91 2 4,I 92 1,I 93 2,I 94 11,dS 95 244 [.t 91,.t 92,.t 93,.t 94],I 90 95,cX 96 0 90,cX 97 1 90,I 14 96,I 15 97] (aa [I 98 15,I 9 98] (aa [I 99 14,I 100 1,bu 101 .sub 99 100,I 102 2,I 103 14,bu 104 .sub 102 103,I 16 101,I 17 104] (aa [I 105 10,aU 106 .quo 105 8,I 18 106] (aa [I 107 16,I 108 17,bu 109 .lss 107 108] (aW 109 (aa [I 110 16,I 111 18,bu 112 .geq 110 111,I 8 112] (aa [bg 113 2 4,I 114 1,I 115 14,I 116 3,dS 117 214 [.t 113,.t 114,.t 115,.t 116]] (.region [I 118 14,aU 119 .add 118 1,I 1 119]))) (aa [I 120 17,I 121 18,bu 122 .geq 120 121,I 8 122] (aa [bg 123 2 4,I 124 14,aU 125 .add 124 1,I 126 2,I 127 3,dS 128 214 [.t 123,.t 125,.t 126,.t 127]] (.region [I 129 14,I 2 129])))))))))
def Dt:C:=(.seq (aa [I 73 1,aU 74 .gtr 73 0,I 75 74,aw 75 true (aF 76 0 1 4),aw 75 true (ay 77 1 76),cg 75 true 78 1,aw 75 true (aU 79 .sub 78 1),cg 75 true 80 11,aw 75 true (hG 81 77 [.t 79,.t 80]),aw 75 true (cM 82 81),ei 83 75 82] (aW 83 (aa [bg 84 2 4,I 85 1,I 86 2,I 87 11,dS 88 243 [.t 84,.t 85,.t 86,.t 87],I 13 88] (aa [I 89 13,I 1 89] (.exit 1))) .skip)) Lr)
def Ls:C:=(.seq (aa [I 61 8,I 62 61,cg 62 true 63 9,ei 64 62 63,I 65 64,cg 65 true 66 12,aw 65 true (aU 67 .eql 66 1),ei 68 65 67] (aW 68 (aa [bg 69 2 4,I 70 1,I 71 2,dS 72 242 [.t 69,.t 70,.t 71]] (aW 72 .ret .skip)) .skip)) Dt)
def Lt:C:=(aa [bg 43 2 4,I 44 1,I 45 2,dS 46 240 [.t 43,.t 44,.t 45],I 42 46,cX 47 0 42,cX 48 1 42,I 11 47,I 12 48] (.seq (aa [I 49 12,aU 50 .eql 49 2] (aW 50 (aa [bg 51 2 4,I 52 1,I 53 2,dS 54 241 [.t 51,.t 52,.t 53]] (aa [I 55 2,aU 56 .sub 55 1,I 57 11,I 58 1,bu 59 .sub 57 58,bu 60 .sub 56 59,I 11 60] (.region [bP 12 1]))) .skip)) Ls))
def Tj:C:=(aa [cW 4 0] (aa [bz 8 true] (aa [bz 9 true] (.block 0 (.loop (.block 1 (aa [I 19 2,I 20 1,bu 21 .sub 19 20,I 10 21] (.seq (aa [I 22 10,aU 23 .leq 22 12] (aW 23 (aa [bg 24 2 4,I 25 1,I 26 2,dS 27 231 [.t 24,.t 25,.t 26]] .ret) .skip)) (.seq (aa [I 28 3,aU 29 .eql 28 0] (aW 29 (aa [bg 30 2 4,I 31 1,I 32 2,dS 33 238 [.t 30,.t 31,.t 32]] .ret) .skip)) (.seq (aa [I 34 8,cM 35 34] (aW 35 (aa [bg 36 2 4,I 37 1,I 38 2,dS 39 239 [.t 36,.t 37,.t 38]] (.region [I 40 3,aU 41 .sub 40 1,I 3 41])) .skip)) Lt))))))))))
def S7:C:=(aa [bP 2 0] (.seq (aa [I 3 0,cd 4 (.bin .geq false (.t 3) (.c (.int .u64 4294967296)))] (aW 4 (aa [I 5 0,cd 6 (.bin .shr false (.t 5) (.c (.int .u64 32))),I 0 6] (.region [bP 2 32])) .skip)) (.seq (aa [I 7 0,cd 8 (.bin .geq false (.t 7) (.c (.int .u64 65536)))] (aW 8 (aa [I 9 0,cd 10 (.bin .shr false (.t 9) (.c (.int .u64 16))),I 0 10] (.region [I 11 2,aU 12 .add 11 16,I 2 12])) .skip)) (.seq (aa [I 13 0,cd 14 (.bin .geq false (.t 13) (.c (.int .u64 256)))] (aW 14 (aa [I 15 0,cd 16 (.bin .shr false (.t 15) (.c (.int .u64 8))),I 0 16] (.region [I 17 2,aU 18 .add 17 8,I 2 18])) .skip)) (aa [I 19 2,I 20 0,cd 21 (.conv .u8 (.t 20)),cd 22 (.sidx (.c (.str QD)) (.t 21)),cd 23 (.conv .i64 (.t 22)),bu 24 .add 19 23,I 2 24] .ret)))))
def Tb:C:=(aa [cW 3 0] (aa [I 11 1,I 6 11] (aa [bP 7 0] (aa [I 12 2,I 13 1,bu 14 .sub 12 13,I 8 14] (.seq (aa [I 15 8,aU 16 .sub 15 1,aU 17 .quo 16 2,I 9 17] (.block 0 (.loop (.seq (aa [I 18 9,aU 19 .geq 18 0] (aW 19 .skip (.exit 0))) (.seq (.block 1 (.region [bg 22 2 3,I 23 9,I 24 8,I 25 6,dS 26 252 [.t 22,.t 23,.t 24,.t 25]])) (.region [I 20 9,aU 21 .sub 20 1,I 9 21])))))) (aa [I 27 8,aU 28 .sub 27 1,I 10 28] (.block 2 (.loop (.seq (aa [I 29 10,aU 30 .geq 29 0] (aW 30 .skip (.exit 2))) (.seq (.block 3 (aa [aF 33 1 1 3,ay 34 1 33,I 35 6,I 36 6,I 37 10,bu 38 .add 36 37,hG 39 34 [.t 35,.t 38]] (.region [bg 40 2 3,I 41 7,I 42 10,I 43 6,dS 44 252 [.t 40,.t 41,.t 42,.t 43]]))) (.region [I 31 10,aU 32 .sub 31 1,I 10 32])))))))))))
def S9:C:=(aa [cW 3 0] (aa [I 11 2,I 12 1,bu 13 .sub 11 12,I 6 13] (aa [I 14 6,aU 15 .geq 14 8] (aW 15 (aa [I 16 6,cd 17 (.conv .u64 (.t 16)),dt (.alloc 7 (some 902) (.int .u64 0)),bV 1 7 17] (aa [I 18 6,cT 19 253 18,I 8 19] (aa [I 20 1,I 21 6,aU 22 .quo 21 4,aU 23 .mul 22 2,bu 24 .add 20 23,aU 25 .sub 24 1,I 9 25] (.block 0 (.loop (.seq (aa [I 26 9,I 27 1,I 28 6,aU 29 .quo 28 4,aU 30 .mul 29 2,bu 31 .add 27 30,aU 32 .add 31 1,bu 33 .leq 26 32] (aW 33 .skip (.exit 0))) (.seq (.block 1 (aa [cT 36 254 7,I 37 8,cd 38 (.bin .sub true (.t 37) (.c (.int .u64 1))),bu 39 .and 36 38,cd 40 (.conv .i64 (.t 39)),I 10 40] (.seq (aa [I 41 10,I 42 6,bu 43 .geq 41 42] (aW 43 (.region [I 44 10,I 45 6,bu 46 .sub 44 45,I 10 46]) .skip)) (.region [aF 47 1 1 3,ay 48 1 47,I 49 9,I 50 1,I 51 10,bu 52 .add 50 51,hG 53 48 [.t 49,.t 52]])))) (.region [I 34 9,aU 35 .add 34 1,I 9 35])))))))) .skip))))
def Ta:C:=(aa [cW 3 0,bP 6 0,bP 7 0] (aa [I 13 2,I 14 1,bu 15 .sub 13 14,I 8 15] (aa [dt (.alloc 9 (some 901) (.int .i64 0))] (aa [I 16 1,I 17 8,aU 18 .quo 17 4,aU 19 .mul 18 1,bu 20 .add 16 19,I 10 20] (aa [I 21 1,I 22 8,aU 23 .quo 22 4,aU 24 .mul 23 2,bu 25 .add 21 24,I 11 25] (aa [I 26 1,I 27 8,aU 28 .quo 27 4,aU 29 .mul 28 3,bu 30 .add 26 29,I 12 30] (.seq (aa [I 31 8,aU 32 .geq 31 8] (aW 32 (.seq (aa [I 33 8,aU 34 .geq 33 50] (aW 34 (aa [bg 35 2 3,I 36 10,dS 37 255 [.t 35,.t 36,.t 9],I 10 37] (aa [bg 38 2 3,I 39 11,dS 40 255 [.t 38,.t 39,.t 9],I 11 40] (.region [bg 41 2 3,I 42 12,dS 43 255 [.t 41,.t 42,.t 9],I 12 43]))) .skip)) (.region [bg 44 2 3,I 45 10,I 46 11,I 47 12,dS 48 256 [.t 44,.t 45,.t 46,.t 47,.t 9],I 11 48])) .skip)) (aa [ay 49 1 9] (.block 0 (aa [aU 52 .eql 49 0,I 51 52] (aW 51 (aa [I 53 11,I 6 53,bP 7 1] .ret) (aa [aU 55 .eql 49 12,I 54 55] (aW 54 (aa [I 56 11,I 6 56,bP 7 2] .ret) (aa [I 50 11,I 6 50,bP 7 0] .ret))))))))))))))
def Tk:C:=(aa [cW 3 0] (aa [I 8 1,I 6 8] (aa [I 9 2,aU 10 .sub 9 1,I 7 10] (.block 0 (.loop (.seq (aa [I 11 6,I 12 7,bu 13 .lss 11 12] (aW 13 .skip (.exit 0))) (.block 1 (aa [aF 14 1 1 3,ay 15 1 14,I 16 6,I 17 7,hG 18 15 [.t 16,.t 17]] (aa [I 19 6,aU 20 .add 19 1,I 6 20] (.region [I 21 7,aU 22 .sub 21 1,I 7 22]))))))))))
def Tg:C:=(aa [cW 3 0,bz 6 false] (aa [I 11 1,aU 12 .add 11 1,I 7 12] (.seq (aa [bP 8 0] (.block 0 (.loop (.seq (aa [I 13 8,aU 14 .lss 13 5] (aW 14 .skip (.exit 0))) (.seq (.block 1 (.seq (.block 2 (.loop (.seq (aa [I 17 7,I 18 2,bu 19 .lss 17 18,I 20 19,aw 20 true (aF 21 0 1 3),aw 20 true (ay 22 1 21),cg 20 true 23 7,cg 20 true 24 7,aw 20 true (aU 25 .sub 24 1),aw 20 true (hG 26 22 [.t 23,.t 25]),aw 20 true (cM 27 26),ei 28 20 27] (aW 28 .skip (.exit 2))) (.block 3 (.region [I 29 7,aU 30 .add 29 1,I 7 30]))))) (.seq (aa [I 31 7,I 32 2,bu 33 .eql 31 32] (aW 33 (aa [bz 6 true] .ret) .skip)) (.seq (aa [I 34 2,I 35 1,bu 36 .sub 34 35,aU 37 .lss 36 50] (aW 37 (aa [bz 6 false] .ret) .skip)) (aa [aF 38 1 1 3,ay 39 1 38,I 40 7,I 41 7,aU 42 .sub 41 1,hG 43 39 [.t 40,.t 42]] (.seq (aa [I 44 7,I 45 1,bu 46 .sub 44 45,aU 47 .geq 46 2] (aW 47 (aa [I 48 7,aU 49 .sub 48 1,I 9 49] (.block 4 (.loop (.seq (aa [I 50 9,aU 51 .geq 50 1] (aW 51 .skip (.exit 4))) (.seq (.block 5 (.seq (aa [aF 54 0 1 3,ay 55 1 54,I 56 9,I 57 9,aU 58 .sub 57 1,hG 59 55 [.t 56,.t 58],cM 60 59] (aW 60 (.exit 4) .skip)) (.region [aF 61 1 1 3,ay 62 1 61,I 63 9,I 64 9,aU 65 .sub 64 1,hG 66 62 [.t 63,.t 65]]))) (.region [I 52 9,aU 53 .sub 52 1,I 9 53])))))) .skip)) (aa [I 67 2,I 68 7,bu 69 .sub 67 68,aU 70 .geq 69 2] (aW 70 (aa [I 71 7,aU 72 .add 71 1,I 10 72] (.block 6 (.loop (.seq (aa [I 73 10,I 74 2,bu 75 .lss 73 74] (aW 75 .skip (.exit 6))) (.seq (.block 7 (.seq (aa [aF 78 0 1 3,ay 79 1 78,I 80 10,I 81 10,aU 82 .sub 81 1,hG 83 79 [.t 80,.t 82],cM 84 83] (aW 84 (.exit 6) .skip)) (.region [aF 85 1 1 3,ay 86 1 85,I 87 10,I 88 10,aU 89 .sub 88 1,hG 90 86 [.t 87,.t 89]]))) (.region [I 76 10,aU 77 .add 76 1,I 10 77])))))) .skip)))))))) (.region [I 15 8,aU 16 .add 15 1,I 8 16])))))) (aa [bz 6 false] .ret))))
def Th:C:=(aa [cW 4 0,bP 8 0] (aa [aF 11 1 1 4,ay 12 1 11,I 13 1,I 14 3,hG 15 12 [.t 13,.t 14]] (aa [I 16 1,aU 17 .add 16 1,I 18 2,aU 19 .sub 18 1,I 9 17,I 10 19] (.seq (.block 0 (.loop (.block 1 (.seq (.block 2 (.loop (.seq (aa [I 20 9,I 21 10,bu 22 .leq 20 21,I 23 22,aw 23 true (aF 24 0 1 4),aw 23 true (ay 25 1 24),cg 23 true 26 1,cg 23 true 27 9,aw 23 true (hG 28 25 [.t 26,.t 27]),aw 23 true (cM 29 28),ei 30 23 29] (aW 30 .skip (.exit 2))) (.block 3 (.region [I 31 9,aU 32 .add 31 1,I 9 32]))))) (.seq (.block 4 (.loop (.seq (aa [I 33 9,I 34 10,bu 35 .leq 33 34,I 36 35,aw 36 true (aF 37 0 1 4),aw 36 true (ay 38 1 37),cg 36 true 39 1,cg 36 true 40 10,aw 36 true (hG 41 38 [.t 39,.t 40]),ei 42 36 41] (aW 42 .skip (.exit 4))) (.block 5 (.region [I 43 10,aU 44 .sub 43 1,I 10 44]))))) (.seq (aa [I 45 9,I 46 10,bu 47 .gtr 45 46] (aW 47 (.exit 0) .skip)) (aa [aF 48 1 1 4,ay 49 1 48,I 50 9,I 51 10,hG 52 49 [.t 50,.t 51]] (aa [I 53 9,aU 54 .add 53 1,I 9 54] (.region [I 55 10,aU 56 .sub 55 1,I 10 56]))))))))) (aa [I 57 9,I 8 57] .ret)))))
def Ti:C:=(aa [cW 4 0,bP 8 0,bz 9 false] (aa [aF 12 1 1 4,ay 13 1 12,I 14 1,I 15 3,hG 16 13 [.t 14,.t 15]] (aa [I 17 1,aU 18 .add 17 1,I 19 2,aU 20 .sub 19 1,I 10 18,I 11 20] (.seq (.block 0 (.loop (.seq (aa [I 21 10,I 22 11,bu 23 .leq 21 22,I 24 23,aw 24 true (aF 25 0 1 4),aw 24 true (ay 26 1 25),cg 24 true 27 10,cg 24 true 28 1,aw 24 true (hG 29 26 [.t 27,.t 28]),ei 30 24 29] (aW 30 .skip (.exit 0))) (.block 1 (.region [I 31 10,aU 32 .add 31 1,I 10 32]))))) (.seq (.block 2 (.loop (.seq (aa [I 33 10,I 34 11,bu 35 .leq 33 34,I 36 35,aw 36 true (aF 37 0 1 4),aw 36 true (ay 38 1 37),cg 36 true 39 11,cg 36 true 40 1,aw 36 true (hG 41 38 [.t 39,.t 40]),aw 36 true (cM 42 41),ei 43 36 42] (aW 43 .skip (.exit 2))) (.block 3 (.region [I 44 11,aU 45 .sub 44 1,I 11 45]))))) (.seq (aa [I 46 10,I 47 11,bu 48 .gtr 46 47] (aW 48 (aa [aF 49 1 1 4,ay 50 1 49,I 51 11,I 52 1,hG 53 50 [.t 51,.t 52]] (aa [I 54 11,I 8 54,bz 9 true] .ret)) .skip)) (aa [aF 55 1 1 4,ay 56 1 55,I 57 10,I 58 11,hG 59 56 [.t 57,.t 58]] (aa [I 60 10,aU 61 .add 60 1,I 10 61] (aa [I 62 11,aU 63 .sub 62 1,I 11 63] (.seq (.block 4 (.loop (.block 5 (.seq (.block 6 (.loop (.seq (aa [I 64 10,I 65 11,bu 66 .leq 64 65,I 67 66,aw 67 true (aF 68 0 1 4),aw 67 true (ay 69 1 68),cg 67 true 70 10,cg 67 true 71 1,aw 67 true (hG 72 69 [.t 70,.t 71]),ei 73 67 72] (aW 73 .skip (.exit 6))) (.block 7 (.region [I 74 10,aU 75 .add 74 1,I 10 75]))))) (.seq (.block 8 (.loop (.seq (aa [I 76 10,I 77 11,bu 78 .leq 76 77,I 79 78,aw 79 true (aF 80 0 1 4),aw 79 true (ay 81 1 80),cg 79 true 82 11,cg 79 true 83 1,aw 79 true (hG 84 81 [.t 82,.t 83]),aw 79 true (cM 85 84),ei 86 79 85] (aW 86 .skip (.exit 8))) (.block 9 (.region [I 87 11,aU 88 .sub 87 1,I 11 88]))))) (.seq (aa [I 89 10,I 90 11,bu 91 .gtr 89 90] (aW 91 (.exit 4) .skip)) (aa [aF 92 1 1 4,ay 93 1 92,I 94 10,I 95 11,hG 96 93 [.t 94,.t 95]] (aa [I 97 10,aU 98 .add 97 1,I 10 98] (.region [I 99 11,aU 100 .sub 99 1,I 11 100]))))))))) (aa [aF 101 1 1 4,ay 102 1 101,I 103 11,I 104 1,hG 105 102 [.t 103,.t 104]] (aa [I 106 11,I 8 106,bz 9 false] .ret))))))))))))
def Tn:C:=(aa [cW 4 0] (aa [I 10 1,I 8 10] (.block 0 (.loop (.block 1 (aa [I 11 8,cd 12 (.bin .mul false (gT 2) (.t 11)),aU 13 .add 12 1,I 9 13] (.seq (aa [I 14 9,I 15 2,bu 16 .geq 14 15] (aW 16 (.exit 0) .skip)) (.seq (aa [I 17 9,aU 18 .add 17 1,I 19 2,bu 20 .lss 18 19,I 21 20,aw 21 true (aF 22 0 1 4),aw 21 true (ay 23 1 22),cg 21 true 24 3,cg 21 true 25 9,aw 21 true (bu 26 .add 24 25),cg 21 true 27 3,cg 21 true 28 9,aw 21 true (bu 29 .add 27 28),aw 21 true (aU 30 .add 29 1),aw 21 true (hG 31 23 [.t 26,.t 30]),ei 32 21 31] (aW 32 (.region [I 33 9,aU 34 .add 33 1,I 9 34]) .skip)) (.seq (aa [aF 35 0 1 4,ay 36 1 35,I 37 3,I 38 8,bu 39 .add 37 38,I 40 3,I 41 9,bu 42 .add 40 41,hG 43 36 [.t 39,.t 42],cM 44 43] (aW 44 .ret .skip)) (aa [aF 45 1 1 4,ay 46 1 45,I 47 3,I 48 8,bu 49 .add 47 48,I 50 3,I 51 9,bu 52 .add 50 51,hG 53 46 [.t 49,.t 52]] (.region [I 54 9,I 8 54])))))))))))
def Te:C:=(aa [cd 2 (.mov (.c (.int .u64 0)))] (aa [I 4 0,cd 5 (.conv .u64 (.t 4)),cT 6 213 5,cd 7 (.conv .u64 (.t 6)),I 3 7] (aa [I 8 3,cd 9 (.bin .shl false (.c (.int .u64 1)) (.t 8)),I 2 9] .ret)))
def Tr:C:=(aa [cd 2 (.mov (.c (.int .u64 0)))] (.seq (.drawn true 33 [I 3 0,gv 4 3,ay 5 1 4,I 6 0,gv 7 6,ay 8 1 7,cd 9 (.bin .shl false (.t 8) (.c (.int .u64 13))),bu 10 .xor 5 9,gv 11 3,bV 1 11 10]) (.seq (.drawn true 33 [I 12 0,gv 13 12,ay 14 1 13,I 15 0,gv 16 15,ay 17 1 16,cd 18 (.bin .shr false (.t 17) (.c (.int .u64 7))),bu 19 .xor 14 18,gv 20 12,bV 1 20 19]) (.seq (.drawn true 33 [I 21 0,gv 22 21,ay 23 1 22,I 24 0,gv 25 24,ay 26 1 25,cd 27 (.bin .shl false (.t 26) (.c (.int .u64 17))),bu 28 .xor 23 27,gv 29 21,bV 1 29 28]) (aa [I 30 0,gv 31 30,ay 32 1 31,I 2 32] .ret)))))
def Tc:C:=(aa [cW 3 0,bP 6 0] (aa [bg 7 2 3,I 8 1,aU 9 .sub 8 1,I 10 1,I 11 1,aU 12 .add 11 1,I 13 2,dS 14 256 [.t 7,.t 9,.t 10,.t 12,.t 13],I 6 14] .ret))
def Td:C:=(aa [cW 5 0,bP 10 0] (aa [bg 12 2 5,I 13 1,I 14 2,I 15 4,dS 16 271 [.t 12,.t 13,.t 14,.t 15],I 11 16,cX 17 0 11,cX 18 1 11,I 1 17,I 2 18] (aa [bg 20 2 5,I 21 2,I 22 3,I 23 4,dS 24 271 [.t 20,.t 21,.t 22,.t 23],I 19 24,cX 25 0 19,cX 26 1 19,I 2 25,I 3 26] (aa [bg 28 2 5,I 29 1,I 30 2,I 31 4,dS 32 271 [.t 28,.t 29,.t 30,.t 31],I 27 32,cX 33 0 27,cX 34 1 27,I 1 33,I 2 34] (aa [I 35 2,I 10 35] .ret)))))
def Tf:C:=(aa [cW 4 0,bP 8 0,bP 9 0] (.seq (aa [aF 10 0 1 4,ay 11 1 10,I 12 2,I 13 1,hG 14 11 [.t 12,.t 13]] (aW 14 (aa [I 15 3,gv 16 15,ay 17 1 16,aU 18 .add 17 1,gv 19 15,bV 1 19 18] (aa [I 20 2,I 21 1,I 8 20,I 9 21] .ret)) .skip)) (aa [I 22 1,I 23 2,I 8 22,I 9 23] .ret)))
def aov:b3 aT S6 [.tmp 2] 1 Tryz.f213=true:=bi
def aoI:b3 aT Tj [] 4 Tryz.f214=true:=bi
def aow:b3 aT S7 [.tmp 2] 1 Tryz.f237=true:=bi
def aoA:b3 aT Tb [] 3 Tryz.f238=true:=bi
def aoy:b3 aT S9 [] 3 Tryz.f239=true:=bi
def aoz:b3 aT Ta [.tmp 6,.tmp 7] 3 Tryz.f240=true:=bi
def aoJ:b3 aT Tk [] 3 Tryz.f241=true:=bi
def aoF:b3 aT Tg [.tmp 6] 3 Tryz.f242=true:=bi
def aoG:b3 aT Th [.tmp 8] 4 Tryz.f243=true:=bi
def aoH:b3 aT Ti [.tmp 8,.tmp 9] 4 Tryz.f244=true:=bi
def aoL:b3 aT Tn [] 4 Tryz.f252=true:=bi
def aoD:b3 aT Te [.tmp 2] 1 Tryz.f253=true:=bi
def aoP:b3 aT Tr [.tmp 2] 1 Tryz.f254=true:=bi
def aoB:b3 aT Tc [.tmp 6] 3 Tryz.f255=true:=bi
def aoC:b3 aT Td [.tmp 10] 5 Tryz.f256=true:=bi
def aoE:b3 aT Tf [.tmp 8,.tmp 9] 4 Tryz.f271=true:=bi
end
section
open Go Go.Pv
variable {α:Type} [Inhabited α] {S:List α->cS} {n g cr:Nat} {lc ch:List af} {lt:α->α->Bool}
def VV(H:fS S n g cr lc ch lt)(d:Array α)(p:d.size=n)(lo hi first:Nat)(J:first+hi<=n)(U:2<=n)(w:lo<=n):
  bG au 252 [fD g cr lc ch,aj lo,aj hi,aj first] (S d.toList) fun r y=>r= .tuple []/\∃k,y=S k.toList/\k=Sort.siftDown lt hi first lo d/\k.size=n:=by
 have t:=H.ok d.toList;have e:d.toList.length=n:=by simpa using p
 have q:∀l m,ae (.loc m) (S l).b=none:=fun l=>(H.ok l).obj.1;have hu:∀l m cs,cI (.loc m) cs (S l).b=(S l).b++[(.loc m,cs)]:=fun l m cs=>kM (q l m);have ar:∀m,aB.loc m∉cJ (S d.toList):=kI t.obj;have hle:=H.le;refine bG.mk mixed a1 Tryz.func252 aoL Ψ t.obj fun B A=>?_;unfold Tn;simp[fD,hu,ar,c6,q];refine H.loopA e [2,3,4] (fun(x:Nat×Array α)=>[(8,aj x.1)]) (·.2) (fun x=>hi-x.1) (fun x=>x.2.size=n/\x.1<=n/\Sort.siftDown lt hi first x.1 x.2=Sort.siftDown lt hi first lo d) (lo,d) p ⟨p,w,rfl⟩ (by simp[c6,q]) aX aX dl ?_;rintro⟨root,c⟩ ⟨a,v,b⟩;simp only at a v b;have j:((first:Int)+(2*root+1))=(first+(2*root+1):Nat):=Ω
 have z:(((first+(2*root+1):Nat):Int)+1)=(first+(2*root+1)+1:Nat):=Ω
 have i:((first:Int)+root)=(first+root:Nat):=Ω
 have s:((first:Int)+(2*root+1+1))=(first+(2*root+2):Nat):=Ω
 simp[ae,H.slc,H.ssc];(with_reducible repeat' first|((first|apply ct|apply cz|apply cy)<;>intro h<;>try simp at h)|refine al ?_|simp[ae,H.slc,H.ssc])
 ·rw[Sort.siftDown,dif_pos Ω]at b;exact H.retA e a (.inr rfl) ⟨rfl,c,rfl,b,a⟩
 ·rw[Sort.siftDown,dif_neg Ω]at b;rw[j,z];refine H.lessA a _ _ Ω Ω fun o=>?_;have ax:decide (2*root+1+1<hi)=true:=by simp;omega
  cases u:lt c[first+(2*root+1)]! c[first+(2*root+1)+1]! with
  |true=>
   rw[if_pos (by rw[ax,u];rfl)]at b;simp;(repeat' first|refine al ?_|simp[ae,H.slc,H.ssc]);rw[i,s];refine H.lessA a _ _ Ω Ω fun o=>?_;cases f:lt c[first+root]! c[first+(2*root+2)]! with
   |true=>rw[if_neg (by simp[f]),dif_pos Ω]at b;simp;(repeat' first|refine al ?_|simp[ae,H.slc,H.ssc]);rw[i,s];refine H.swapA a U _ _ Ω Ω fun o=>?_;simp;(repeat' first|refine al ?_|simp);refine bY.whl (2*root+2,Sort.swp c (first+root) (first+(2*root+2))) d6 ⟨by rw[hO,a],by simp;omega,b⟩ (H.weakC e (by simp[hO,a]) (by simp[az];omega))
   |false=>rw[if_pos (by simp[f])]at b;simp;(repeat' first|refine al ?_|simp);all_goals exact H.retA e a (.inl rfl) ⟨rfl,c,rfl,b,a⟩
  |false=>
   rw[if_neg (by simp[u])]at b;simp;(repeat' first|refine al ?_|simp[ae,H.slc,H.ssc]);rw[i,j];refine H.lessA a _ _ Ω Ω fun o=>?_;cases f:lt c[first+root]! c[first+(2*root+1)]! with
   |true=>rw[if_neg (by simp[f])]at b;simp;(repeat' first|refine al ?_|simp[ae,H.slc,H.ssc]);rw[i,j];refine H.swapA a U _ _ Ω Ω fun o=>?_;simp;(repeat' first|refine al ?_|simp);refine bY.whl (2*root+1,Sort.swp c (first+root) (first+(2*root+1))) d6 ⟨by rw[hO,a],by simp;omega,b⟩ (H.weakC e (by simp[hO,a]) dl)
   |false=>rw[if_pos (by simp[f])]at b;simp;(repeat' first|refine al ?_|simp);all_goals exact H.retA e a (.inl rfl) ⟨rfl,c,rfl,b,a⟩
 ·rw[Sort.siftDown,dif_neg Ω]at b;have ax:decide (2*root+1+1<hi)=false:=by simp;omega
  rw[if_neg (by rw[ax];simp)]at b;rw[i,j];refine H.lessA a _ _ Ω Ω fun o=>?_;cases f:lt c[first+root]! c[first+(2*root+1)]! with
  |true=>rw[if_neg (by simp[f])]at b;simp;(repeat' first|refine al ?_|simp[ae,H.slc,H.ssc]);rw[i,j];refine H.swapA a U _ _ Ω Ω fun o=>?_;simp;(repeat' first|refine al ?_|simp);refine bY.whl (2*root+1,Sort.swp c (first+root) (first+(2*root+1))) d6 ⟨by rw[hO,a],by simp;omega,b⟩ (H.weakC e (by simp[hO,a]) dl)
  |false=>rw[if_pos (by simp[f])]at b;simp;(repeat' first|refine al ?_|simp);all_goals exact H.retA e a (.inl rfl) ⟨rfl,c,rfl,b,a⟩
def ajk(H:fS S n g cr lc ch lt)(d:Array α)(q:d.size=n)(a b:Nat)(A:a<b)(E:b<=n)(U:2<=n):
  bG au 241 [fD g cr lc ch,aj a,aj b] (S d.toList) fun r y=>r= .tuple []/\∃k,y=S k.toList/\k=Sort.reverseRange d a b/\k.size=n:=by
 have t:=H.ok d.toList;have p:d.toList.length=n:=by simpa using q
 have f:∀l m,ae (.loc m) (S l).b=none:=fun l=>(H.ok l).obj.1;have hu:∀l m cs,cI (.loc m) cs (S l).b=(S l).b++[(.loc m,cs)]:=fun l m cs=>kM (f l m);have ar:∀m,aB.loc m∉cJ (S d.toList):=kI t.obj;have hle:=H.le;refine bG.mk mixed a1 Tryz.func241 aoJ Ψ t.obj fun F B=>?_;unfold Tk;simp[fD,hu,ar,c6,f];have u:((b:Int)-1)=(b-1:Nat):=Ω
 (repeat' first|refine al ?_|simp[hu,ar,c6,f]);rw[u];refine H.loopA p [3] (fun(x:(Nat×Nat)×Array α)=>[(6,aj x.1.1),(7,aj x.1.2)]) (·.2) (fun x=>x.1.2+1-x.1.1) (fun x=>x.2.size=n/\x.1.2<n/\Sort.reverseLoop x.1.1 x.1.2 x.2=Sort.reverseRange d a b) ((a,b-1),d) q ⟨q,by simp;omega,rfl⟩ (by simp[c6,f]) aX aX dl ?_;rintro⟨⟨i,j⟩,s⟩ ⟨e,v,c⟩;simp only at e v c;rw[Sort.reverseLoop]at c;simp[ae,H.slc,H.ssc];(with_reducible repeat' first|((first|apply ct|apply cz|apply cy)<;>intro h<;>try simp at h)|refine al ?_|simp[ae,H.slc,H.ssc])
 ·rw[if_pos Ω]at c;refine H.swapA e U _ _ Ω Ω fun o=>?_;have w:((i:Int)+1)=(i+1:Nat):=Ω
  have z:((j:Int)-1)=(j-1:Nat):=Ω
  simp;((repeat' first|refine al ?_|simp|((first|apply ct|apply cz|apply cy)<;>intro h<;>try simp at h))<;>(try exact c3));rw[w,z];refine bY.whl ((i+1,j-1),Sort.swp s i j) d6 ⟨by rw[hO,e],by simp;omega,c⟩ (H.weakC p (by simp[hO,e]) dl)
 ·rw[if_neg Ω]at c;exact H.retA p e (.inr rfl) ⟨rfl,s,rfl,c,e⟩
def aiR(H:fS S n g cr lc ch lt)(d:Array α)(J:d.size=n)(a b:Nat)(O:a<=b)(X:b<=n)(U:2<=n):
  bG au 238 [fD g cr lc ch,aj a,aj b] (S d.toList) fun r E=>r= .tuple []/\∃c,E=S c.toList/\c=Sort.heapSort lt d a b/\c.size=n:=by
 have M:=H.ok d.toList;have y:d.toList.length=n:=by simpa using J
 have z:∀l m,ae (.loc m) (S l).b=none:=fun l=>(H.ok l).obj.1;have hu:∀l m cs,cI (.loc m) cs (S l).b=(S l).b++[(.loc m,cs)]:=fun l m cs=>kM (z l m);have ar:∀m,aB.loc m∉cJ (S d.toList):=kI M.obj;have hle:=H.le;refine bG.mk mixed a1 Tryz.func238 aoA Ψ M.obj fun Y W=>?_;unfold Tb;simp[fD,hu,ar,c6,z];(repeat' first|refine al ?_|simp[hu,ar,c6,z]);have P:vu.wrap (((b:Int)-a-1).tdiv 2)=(((b-a-1)/2+1:Nat):Int)-1:=by
  have e:((b:Int)-a-1).tdiv 2=(((b-a-1)/2+1:Nat):Int)-1:=by
   rcases Nat.eq_or_lt_of_le O with h|h
   ·subst h;simp
   ·rw[show((b:Int)-a-1)=((b-a-1:Nat):Int) by omega,Int.tdiv_eq_ediv_of_nonneg Ω];omega
  rw[e,pw _ Ω]
 rw[P];refine H.loopA y [3,6,7,8] (fun(x:Nat×Array α)=>[(9,aj ((x.1:Int)-1))]) (·.2) (fun x=>x.1) (fun x=>x.2.size=n/\x.1<=n/\Sort.heapBuild lt (b-a) a x.1 x.2=Sort.heapBuild lt (b-a) a ((b-a-1)/2+1) d) ((b-a-1)/2+1,d) J ⟨J,by simp;omega,rfl⟩ (by simp[c6,z]) aX aX dl ?_;rintro⟨k,i⟩ ⟨p,Q,w⟩;simp only at p Q w;have F:((b:Int)-a)=(b-a:Nat):=Ω
 simp[ae,H.slc,H.ssc];(with_reducible repeat' first|((first|apply ct|apply cz|apply cy)<;>intro h<;>try simp at h)|refine al ?_|simp[ae,H.slc,H.ssc])
 ·obtain⟨k,rfl⟩:∃bt,k=bt+1:=⟨k-1,Ω⟩;have L:(((k+1:Nat):Int)-1)=(k:Nat):=Ω
  rw[Sort.heapBuild]at w;simp only[jk H,H.slc,H.ssc,jf,L,F];refine H.doFn (lk:=i.toList) (by simpa using p) (R:=fun j=> ∃c,j=c.toList/\c=Sort.siftDown lt (b-a) a k i/\c.size=n) ((VV H i p k (b-a) a Ω U Ω).mono fun r E ⟨s,c,f,B,A⟩=>⟨s,c.toList,f,c,rfl,B,A⟩) (by rintro j ⟨c,rfl,_,q⟩;simpa using q) (by simp[aH,az,H.kdata (lk:=i.toList) (by simpa using p)]) ?_;rintro j ⟨c,rfl,s,f⟩;simp;((repeat' first|refine al ?_|simp|((first|apply ct|apply cz|apply cy)<;>intro h<;>try simp at h))<;>(try exact c3));refine bY.whl (k,c) Ψ ⟨f,by simp;omega,by rw[<-w,s]⟩ (H.weakC y (by simpa using f) dl)
 ·obtain rfl:k=0:=Ω
  rw[Sort.heapBuild]at w;have V:i.size=n:=p;refine H.loopA y [3,6,7] (fun(x:Nat×Array α)=>[(10,aj ((x.1:Int)-1))]) (·.2) (fun x=>x.1) (fun x=>x.2.size=n/\x.1<=b-a/\Sort.heapPop lt a x.1 x.2=Sort.heapPop lt a (b-a) i) (b-a,i) p ⟨p,Ψ,rfl⟩ (by simp[ae]) aX aX (by simp[az];omega) ?_;rintro⟨k,t⟩ ⟨u,N,v⟩;simp only at u N v;simp[ae,H.slc,H.ssc];(with_reducible repeat' first|((first|apply ct|apply cz|apply cy)<;>intro h<;>try simp at h)|refine al ?_|simp[ae,H.slc,H.ssc])
  ·obtain⟨k,rfl⟩:∃bt,k=bt+1:=⟨k-1,Ω⟩;have L:(((k+1:Nat):Int)-1)=(k:Nat):=Ω
   have G:((a:Int)+k)=(a+k:Nat):=Ω
   rw[Sort.heapPop]at v;simp only[L,G];refine H.swapA u U _ _ Ω Ω fun o=>?_;have K:(Sort.swp t a (a+k)).size=n:=by rw[hO,u]
   simp;simp only[jk H,H.slc,H.ssc,jf];refine H.doFn (lk:=(Sort.swp t a (a+k)).toList) (by simpa using K) (R:=fun j=> ∃c,j=c.toList/\c=Sort.siftDown lt k a 0 (Sort.swp t a (a+k))/\c.size=n) ((VV H (Sort.swp t a (a+k)) K 0 k a Ω U Ω).mono fun r E ⟨s,c,f,B,A⟩=>⟨s,c.toList,f,c,rfl,B,A⟩) (by rintro j ⟨c,rfl,_,q⟩;simpa using q) (by simp[aH,az,H.kdata (lk:=(Sort.swp t a (a+k)).toList) (by simpa using K)]) ?_;rintro j ⟨c,rfl,s,f⟩;simp;((repeat' first|refine al ?_|simp|((first|apply ct|apply cz|apply cy)<;>intro h<;>try simp at h))<;>(try exact c3));refine bY.whl (k,c) Ψ ⟨f,by simp;omega,by rw[<-v,s]⟩ (H.weakC y (by simpa using f) dl)
  ·obtain rfl:k=0:=Ω
   rw[Sort.heapPop]at v;refine H.retA y u (.inr rfl) ⟨rfl,t,rfl,?_,u⟩;rw[Sort.heapSort,<-w,<-v]
def ai1(H:fS S n g cr lc ch lt)(d:Array α)(y:d.size=n)(a b:Nat)(L:a<=b)(N:b<=n):
  bG au 231 [fD g cr lc ch,aj a,aj b] (S d.toList) fun r K=>r= .tuple []/\∃u,K=S u.toList/\u=Sort.insertionSort lt d a b/\u.size=n:=by
 have z:=H.ok d.toList;have p:d.toList.length=n:=by simpa using y
 have s:∀l m,ae (.loc m) (S l).b=none:=fun l=>(H.ok l).obj.1;have hu:∀l m cs,cI (.loc m) cs (S l).b=(S l).b++[(.loc m,cs)]:=fun l m cs=>kM (s l m);have ar:∀m,aB.loc m∉cJ (S d.toList):=kI z.obj;have hle:=H.le;refine bG.mk mixed a1 Tryz.func231 ZF Ψ z.obj fun O M=>?_;unfold Lq;simp[fD,hu,ar,c6,s];have G:((a:Int)+1)=(a+1:Nat):=Ω
 (repeat' first|refine al ?_|simp[hu,ar,c6,s]);rw[G];refine H.loopA p [1,2,3] (fun(x:Nat×Array α)=>[(6,aj x.1)]) (·.2) (fun x=>b+1-x.1) (fun x=>x.2.size=n/\x.1<=b+1/\Sort.insOuter lt a b x.1 x.2=Sort.insertionSort lt d a b) (a+1,d) y ⟨y,by simp;omega,rfl⟩ (by simp[c6,s]) aX aX dl ?_;rintro⟨i,v⟩ ⟨q,J,k⟩;simp only at q J k;rw[Sort.insOuter]at k;simp;(with_reducible repeat' first|((first|apply ct|apply cz|apply cy)<;>intro h<;>try simp at h)|refine al ?_|simp)
 ·rw[if_pos Ω]at k;refine H.loopA p [1,2,3,6] (fun(x:Nat×Array α)=>[(7,aj x.1)]) (·.2) (fun x=>x.1) (fun x=>x.2.size=n/\x.1<=i/\Sort.insInner lt a x.1 x.2=Sort.insInner lt a i v) (i,v) q ⟨q,Ψ,rfl⟩ (by simp[ae]) aX aX dl ?_;rintro⟨j,f⟩ ⟨c,E,e⟩;simp only at c E e;simp[ae,H.slc,H.ssc];(with_reducible repeat' first|((first|apply ct|apply cz|apply cy)<;>intro h<;>try simp at h)|refine al ?_|simp[ae,H.slc,H.ssc])
  ·obtain⟨j,rfl⟩:∃dg,j=dg+1:=⟨j-1,Ω⟩;have F:(((j+1:Nat):Int)-1)=(j:Nat):=Ω
   have t:((i:Int)+1)=(i+1:Nat):=Ω
   have w:((j:Int)+1)=(j+1:Nat):=Ω
   rw[Sort.insInner]at e;have ax:decide (j+1>a)=true:=by simp;omega
   rw[F];refine H.lessA c _ _ Ω Ω fun o=>?_;cases A:lt f[j+1]! f[j]! with
   |true=>rw[if_pos (by rw[ax,A];rfl)]at e;simp;(repeat' first|refine al ?_|simp[ae,H.slc,H.ssc]);rw[w];refine H.swapA c Ω _ _ Ω Ω fun o=>?_;simp;(repeat' first|refine al ?_|simp);refine bY.whl (j,Sort.swp f (j+1) j) Ψ ⟨by rw[hO,c],by simp;omega,e⟩ (H.weakC p (by simp[hO,c]) dl)
   |false=>rw[if_neg (by simp[A])]at e;simp;((repeat' first|refine al ?_|simp|((first|apply ct|apply cz|apply cy)<;>intro h<;>try simp at h))<;>(try exact c3));rw[t];refine bY.whl (i+1,f) d6 ⟨c,by simp;omega,by rw[<-k,<-e]⟩ (H.weakC p (by simpa using c) dl)
  ·have t:((i:Int)+1)=(i+1:Nat):=Ω
   have B:Sort.insInner lt a j f=f:=by
    cases j with
    |zero=>rfl
    |succ j=>rw[Sort.insInner,if_neg d6]
   rw[t];refine bY.whl (i+1,f) d6 ⟨c,by simp;omega,by rw[<-k,<-e,B]⟩ (H.weakC p (by simpa using c) dl)
 ·rw[if_neg Ω]at k;exact H.retA p q (.inr rfl) ⟨rfl,v,rfl,k,q⟩
end
end Go.Proofs.YtahlgcidhnjlbaaGreat
