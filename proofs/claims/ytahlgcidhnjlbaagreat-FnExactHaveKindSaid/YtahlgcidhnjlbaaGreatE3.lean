/- Contracts of pattern-defeating quicksort: the heap, the reversal, the insertion. -/
import Derived.Test.YtahlgcidhnjlbaaGreatProg
import Derived.Shelf.Sort.Plain
import Derived.Ground.NamesProg
import Derived.Sort.OwnSortedInts
import Derived.Lib.OwnBridge
import Derived.Sort.AssemblyPlain
import Derived.Sort.LotD5
import Derived.Test.YtahlgcidhnjlbaaGreatE2
set_option linter.all false
set_option maxHeartbeats 4000000
set_option maxRecDepth 4000
open Bool renaming and_eq_true->cQ,eq_iff_iff->qZ,false_eq_true->hR,or_eq_true->oe
open Go renaming Program->cI
open Go.IntKind renaming bits->ps,i64->vn,signed->ua,u64->ik,wrap->ub
open Go.IntWalk renaming i64_in->pt
open Go.Op renaming bytesLess->iu
open Go.Proofs.Tryz renaming prog->au
open Go.Value renaming cells->pw
open List renaming all_eq_true->j6,cons_append->b7,drop->oV,drop_eq_getElem_cons->lG,getElem?_append_left->rR,getElem?_append_right->vo,getElem?_eq_getElem->cl,getElem?_eq_none->q0,getElem?_eq_some_iff->fH,getElem_of_mem->pA,length_append->qe,length_cons->mV,length_drop->ud,map_cons->gY,mem_append->kd,mem_cons->gI,mem_filter->oW,mem_map->gZ,mem_of_getElem?->ft,nil_append->ca,pairwise_cons->og,pairwise_iff_getElem->q2,take_of_length_le->iv
open List.Nodup renaming length_le_of_subset->Rc
open List.Pairwise renaming filter->adg,imp_of_mem->atx,sublist->ayk
open List.Perm renaming eq_of_pairwise->Re,swap->ayl
open List.cons renaming injEq->rQ
open Nat renaming le_refl->dO,le_trans->kD
open Option renaming bind_eq_some_iff->mX,getD_none->k5,getD_some->lI,map_eq_some_iff->hq,map_some->pB
open Option.some renaming inj->e6,injEq->dU
open Prod.mk renaming injEq->jo
open _root_ renaming False->eu,Option->bd,UInt8->cS,beq_iff_eq->ey,congrArg->fy,decide_eq_false->mv,decide_eq_false_iff_not->iO,decide_eq_true->lJ,decide_eq_true_eq->gy,eq_true->h2
namespace Go.Pv
section
open Go
structure bH where
 v:Int
 k:Int
 deriving DecidableEq,Inhabited
def bH.e(b:bH):af:= .agg [.int .i64 b.v,.int .i64 b.k]
@[simp]def bH.eta(b:bH):bH.mk b.v b.k=b:=rfl
@[simp]def Ru(v k:Int):af.agg [.int .i64 v,.int .i64 k]=(bH.mk v k).e:=rfl
@[simp]def av3(S:aB->Prop)(b:bH):az S b.e=True:=by simp[bH.e,-Ru]
@[simp]def axU(b:bH):b5 b.e=b.e:=by simp[bH.e,-Ru]
def XR(S:aB->Prop):∀l:List bH,aH S (l.map bH.e)
 |[]=>by simp[aH]
 |x::xs=>by simp[aH,XR S xs]
@[simp]def avM(S:aB->Prop)(l:List bH):aH S (l.map bH.e)=True:=h2 (XR S l)
@[simp]def Qr:∀l:List bH,cf (l.map bH.e)=l.map bH.e
 |[]=>rfl
 |x::xs=>by simp[cf,Qr xs]
@[simp]def axw(b:bH):eT b.e=true:=rfl
@[simp]def aud(b:bH):cells b.e=[.int .i64 b.v,.int .i64 b.k]:=rfl
@[simp]def avv(b:bH):qI 2 b.e:=⟨_,rfl,rfl⟩
@[simp]def auR(off:Nat)(a:Bool)(sz:Nat)(b:bH):vO off a sz b.e=if a then some (off+sz<=2,.agg (([.int .i64 b.v,.int .i64 b.k].drop off).take sz))else(([.int .i64 b.v,.int .i64 b.k]:List af)[off]?).map fun p=>(True,p):=rfl
@[simp]def auJ(off:Nat)(a:Bool)(sz:Nat)(b:bH):sY off a sz (.eptr b.e)=if a then some (off+sz<=2,.eptr (.agg (([.int .i64 b.v,.int .i64 b.k].drop off).take sz)))else(([.int .i64 b.v,.int .i64 b.k]:List af)[off]?).map fun p=>(eT p=true/\cells p=[p],.eptr p):=rfl
structure bo where
 v:Int
 s:List cS
 deriving DecidableEq,Inhabited
def bo.e(b:bo):af:= .agg [.int .i64 b.v,.str b.s]
@[simp]def bo.eta(b:bo):bo.mk b.v b.s=b:=rfl
@[simp]def KL(v:Int)(s:List cS):af.agg [.int .i64 v,.str s]=(bo.mk v s).e:=rfl
@[simp]def al2(S:aB->Prop)(b:bo):az S b.e=True:=by simp[bo.e,-KL]
@[simp]def axY(b:bo):b5 b.e=b.e:=by simp[bo.e,-KL]
def N0(S:aB->Prop):∀l:List bo,aH S (l.map bo.e)
 |[]=>by simp[aH]
 |x::xs=>by simp[aH,N0 S xs]
@[simp]def XT(S:aB->Prop)(l:List bo):aH S (l.map bo.e)=True:=h2 (N0 S l)
@[simp]def Qs:∀l:List bo,cf (l.map bo.e)=l.map bo.e
 |[]=>rfl
 |x::xs=>by simp[cf,Qs xs]
@[simp]def axy(b:bo):eT b.e=true:=rfl
@[simp]def auf(b:bo):cells b.e=[.int .i64 b.v,.str b.s]:=rfl
@[simp]def avx(b:bo):qI 2 b.e:=⟨_,rfl,rfl⟩
@[simp]def auS(off:Nat)(a:Bool)(sz:Nat)(b:bo):vO off a sz b.e=if a then some (off+sz<=2,.agg (([.int .i64 b.v,.str b.s].drop off).take sz))else(([.int .i64 b.v,.str b.s]:List af)[off]?).map fun p=>(True,p):=rfl
@[simp]def auK(off:Nat)(a:Bool)(sz:Nat)(b:bo):sY off a sz (.eptr b.e)=if a then some (off+sz<=2,.eptr (.agg (([.int .i64 b.v,.str b.s].drop off).take sz)))else(([.int .i64 b.v,.str b.s]:List af)[off]?).map fun p=>(eT p=true/\cells p=[p],.eptr p):=rfl
def gd(x y:bo):Int:=if fb x.v y.v=0 then lz x.s y.s else fb x.v y.v
def mP:kg gd:=by
 refine⟨fun x y=>?_,fun x y z J U=>?_,fun x y=>?_⟩
 ·unfold gd;have:=k2.neg x.v y.v;have:=Fe.neg x.s y.s;by_cases e:fb x.v y.v=0
  ·rw[if_pos e,if_pos Ω];omega
  ·rw[if_neg e,if_neg Ω];omega
 ·unfold gd at J U⊢;by_cases b:fb x.v y.v=0
  ·rw[if_pos b]at J;rw[(k2.zero _ _).1 b];by_cases a:fb y.v z.v=0
   ·rw[if_pos a]at U⊢;exact Fe.tr _ _ _ J U
   ·rw[if_neg a]at U⊢;exact U
  ·rw[if_neg b]at J;have c:fb x.v y.v<0:=Ω
   by_cases a:fb y.v z.v=0
   ·rw[<-(k2.zero _ _).1 a,if_neg b];exact J
   ·rw[if_neg a]at U;have:=k2.ltr c U;rw[if_neg Ω];omega
 ·unfold gd;by_cases e:fb x.v y.v=0
  ·rw[if_pos e,Fe.zero];have:=(k2.zero _ _).1 e;cases x;cases y;simp_all
  ·rw[if_neg e];exact⟨fun h=>absurd h e,fun h=>by rw[h]at e;exact absurd (k2.refl _) e⟩
def u5(x y:bo):Bool:=decide (x.v<y.v)||(x.v==y.v&&iu x.s y.s)
def aeb(a:List cS):iu a a=false:=by
 cases h:iu a a with
 |false=>rfl
 |true=>rw[KU a a h]at h;cases h
def YV(x y:bo):u5 x y=iL gd x y:=by
 unfold u5 iL gd;rw[qZ];simp only[oe,gy,cQ,ey];by_cases e:x.v=y.v
 ·have:fb x.v y.v=0:=(k2.zero _ _).2 e;rw[if_pos this];simp only[e,Int.lt_irrefl,false_or,true_and,lz];by_cases a:x.s=y.s
  ·rw[if_pos a,a,aeb];simp
  ·rw[if_neg a];split<;>simp_all
 ·have b:¬fb x.v y.v=0:=fun h=>e ((k2.zero _ _).1 h);rw[if_neg b];simp only[e,false_and,or_false];unfold fb;(repeat' split)<;>omega
def jf{α:Type}(p:α->Prop)(r:α->α->Prop)(l:List α)(i:Nat):Prop:= ∀b,l[i]? =some b->p b/\∀c,0<i->l[i-1]? =some c->r c b
def Rq{α:Type}{p:α->Prop}{r:α->α->Prop}(n:∀a b c,r a b->r b c->r a c){l:List α}:(∀i,i<l.length->jf p r l i)↔(∀b∈l,p b)/\l.Pairwise r:=by
 constructor
 ·intro h;refine⟨fun b f=>?_,?_⟩
  ·obtain⟨i,hi,e⟩:=pA f;exact(h i hi b (by rw[cl hi,e])).1
  ·rw[q2];have g:∀i (h:i+1<l.length),r l[i] l[i+1]:=fun i hi=>(h (i+1) hi l[i+1] (by simp[cl hi])).2 l[i] Ω (by simp[cl (show i<l.length by omega)]);have:∀(d i:Nat) (h:i+d+1<l.length),r l[i] l[i+d+1]:=by
    intro d;induction d with
    |zero=>intro i h;exact g i h
    |succ d k=>intro i h;exact n _ _ _ (k i Ω) (g (i+d+1) Ω)
   intro i j hi t q;have:=this (j-i-1) i Ω;simpa[show i+(j-i-1)+1=j from by omega]using this
 ·rintro⟨J,U⟩ i hi b f;refine⟨J b (ft f),fun c s aw=>?_⟩;obtain⟨g1,m⟩:=fH.1 aw;obtain⟨g2,o⟩:=fH.1 f;have:=q2.1 U (i-1) i g1 g2 Ω;rw[m,o]at this;exact this
def kX{α:Type}(c:α->α->Int)(x:α):List α->List α
 |[]=>[x]
 |y::l=>if c y x<0 then y::kX c x l else if c y x=0 then y::l else x::y::l
section
variable {α:Type} {c:α->α->Int}
def IH(aw:kg c){x z:α}:∀{l:List α},z∈kX c x l↔z=x\/z∈l
 |[]=>by simp[kX]
 |y::l=>by
  simp only[kX];split
  ·simp only[gI,IH aw (l:=l)];constructor
   ·rintro(h|h|h)
    ·exact .inr (.inl h)
    ·exact .inl h
    ·exact .inr (.inr h)
   ·rintro(h|h|h)
    ·exact .inr (.inl h)
    ·exact .inl h
    ·exact .inr (.inr h)
  ·split
   ·rename_i h;obtain rfl:=(aw.zero _ _).1 h;simp
   ·simp
def NG(aw:kg c){x:α}:∀{l:List α},iP c l->iP c (kX c x l)
 |[],_=>by simp[kX,iP]
 |y::l,h=>by
  obtain⟨J,U⟩:=og.1 h;simp only[kX];split
  ·rename_i d;refine og.2 ⟨fun z a=>?_,NG aw U⟩;rcases(IH aw).1 a with rfl|a
   ·exact d
   ·exact J z a
  ·split
   ·exact h
   ·rename_i d e;have b:c x y<0:=by have:=aw.neg x y;omega
    refine og.2 ⟨fun z a=>?_,h⟩;rcases gI.1 a with rfl|a
    ·exact b
    ·exact aw.ltr b (by have:=J z a;omega)
def NI(x:α):∀l:List α,(kX c x l).length<=l.length+1
 |[]=>by simp[kX]
 |y::l=>by
  have:=NI x l;simp only[kX];split
  ·simp;omega
  ·split<;>simp
def NH(aw:kg c)(x:α):∀(l:List α) (k:Nat),(∀i y,i<k->l[i]? =some y->c y x<0)->(∀y,l[k]? =some y->0<=c y x)->k<=l.length->kX c x l=if(match l[k]? with|some y=>decide (c y x=0)|none=>false)=true then l else l.take k++x::l.drop k
 |[],k,_,_,a=>by simp at a;subst a;simp[kX]
 |y::l,0,_,U,_=>by
  have:=U y rfl;by_cases e:c y x=0
  ·simp[kX,e]
  ·have g:¬c y x<0:=Ω
   simp[kX,g,e]
 |y::l,k+1,J,U,a=>by
  have f:=J 0 y Ω rfl;simp only[kX,if_pos f,List.take_succ_cons,List.drop_succ_cons,b7,List.getElem?_cons_succ];rw[NH aw x l k (fun i d hi b=>J (i+1) d Ω (by simpa using b)) (fun d b=>U d (by simpa using b)) (by simpa using a)];cases l[k]? with
  |none=>rfl
  |some z=>simp only[];split<;>rfl
end
structure jx (l:List bH):Prop where
 at':∀x∈l,(0<=x.v/\x.v<=100000)/\(x.k=2\/x.k=3)
 asc:l.Pairwise fun x y=>x.v<y.v
def ny(l:List bH)(v:Int):bd Int:=(l.find? fun x=>x.v==v).map (·.k)
def nv(x:bH):List bH->List bH
 |[]=>[x]
 |y::l=>if y.v<x.v then y::nv x l else x::y::l
def IJ{x z:bH}:∀{l:List bH},z∈nv x l↔z=x\/z∈l
 |[]=>by simp[nv]
 |y::l=>by
  simp only[nv];split
  ·simp only[gI,IJ (l:=l)];constructor
   ·rintro(h|h|h)
    ·exact .inr (.inl h)
    ·exact .inl h
    ·exact .inr (.inr h)
   ·rintro(h|h|h)
    ·exact .inr (.inl h)
    ·exact .inl h
    ·exact .inr (.inr h)
  ·simp
def Xj(x:bH):∀l:List bH,(nv x l).Perm (x::l)
 |[]=>.refl _
 |y::l=>by
  simp only[nv];split
  ·exact((Xj x l).cons y).trans (ayl _ _ _)
  ·exact .refl _
def NJ{x:bH}:∀{l:List bH},l.Pairwise (fun x y=>x.v<y.v)->(∀y∈l,y.v≠x.v)->(nv x l).Pairwise fun x y=>x.v<y.v
 |[],_,_=>by simp[nv]
 |y::l,h,b=>by
  obtain⟨J,U⟩:=og.1 h;have d:=b y Ψ;simp only[nv];split
  ·rename_i c;refine og.2 ⟨fun z a=>?_,NJ U fun z a=>b z (by simp[a])⟩;rcases IJ.1 a with rfl|a
   ·exact c
   ·exact J z a
  ·refine og.2 ⟨fun z a=>?_,h⟩;rcases gI.1 a with rfl|a
   ·omega
   ·have:=J z a;omega
def Xh(x:bH):∀(l:List bH) (k:Nat),(∀i y,i<k->l[i]? =some y->y.v<x.v)->(∀y,l[k]? =some y->¬y.v<x.v)->k<=l.length->nv x l=l.take k++x::l.drop k
 |[],k,_,_,a=>by simp at a;subst a;rfl
 |y::l,0,_,U,_=>by have:=U y rfl;simp[nv,this]
 |y::l,k+1,J,U,a=>by have c:=J 0 y Ω rfl;simp only[nv,if_pos c,List.take_succ_cons,List.drop_succ_cons,b7];rw[Xh x l k (fun i d hi b=>J (i+1) d Ω (by simpa using b)) (fun d b=>U d (by simpa using b)) (by simpa using a)]
def alU{l a:List bH}(b:a.Perm l)(d:l.Pairwise fun x y=>x.v<y.v)(g:a.Pairwise fun x y=>decide (y.v<x.v)=false):a=l:=by
 refine Re (le:=fun x y:bH=>x.v<=y.v) (fun x y k m J U=>?_) (g.imp Ψ) (d.imp Ω) b;have f:x∈l:=b.mem_iff.1 k;have e:y∈l:=m;obtain⟨i,hi,rfl⟩:=pA f;obtain⟨j,c,rfl⟩:=pA e;have:=q2.1 d;rcases Nat.lt_trichotomy i j with h|h|h
 ·have:=this i j hi c h;omega
 ·subst h;rfl
 ·have:=this j i c hi h;omega
def EK{l:List bH}{v:Int}:ny l v=none↔∀x∈l,x.v≠v:=by simp[ny]
def XJ{l:List bH}{v k:Int}(h:ny l v=some k):(⟨v,k⟩:bH)∈l:=by unfold ny at h;rw[hq]at h;obtain⟨x,J,rfl⟩:=h;have U:=List.find?_some J;simp at U;subst U;exact List.mem_of_find?_eq_some J
def NV{l:List bH}(a:l.Pairwise fun x y=>x.v<y.v){x:bH}(h:x∈l):ny l x.v=some x.k:=by
 induction l with
 |nil=>simp at h
 |cons y l b=>
  obtain⟨J,U⟩:=og.1 a;rcases gI.1 h with rfl|h
  ·simp[ny]
  ·have:=J x h;have e:=b U h;unfold ny at e⊢;rw[List.find?_cons_of_neg d6];exact e
def jr(l:List bH)(t:T)(k:Int):bd (List bH):=match t with
 | .var n=>match ny l n with
  |some bs=>if bs=k then some l else none
  |none=>some (nv ⟨n,k⟩ l)
 |t=>if t.kind=k then some l else none
def Gr{l b:List bH}{t:T}{k:Int}(h:jx l)(e:t.ok=true)(d:k=2\/k=3)(he:jr l t k=some b):jx b:=by
 unfold jr at he;split at he
 ·rename_i n;split at he
  ·split at he
   ·cases he;exact h
   ·cases he
  ·rename_i c;cases he;rw[EK]at c;refine⟨fun x a=>?_,NJ h.asc c⟩;rcases IJ.1 a with rfl|a
   ·exact⟨by simpa[T.ok]using e,d⟩
   ·exact h.at' x a
 ·split at he
  ·cases he;exact h
  ·cases he
def ss{l:List bH}(h:jx l):l.length<=100001:=by
 have J:(l.map (·.v)).Nodup:=by rw[List.nodup_iff_pairwise_ne,List.pairwise_map];exact h.asc.imp fun h e=>Ω
 have:=XH J fun v b=>by obtain⟨x,a,rfl⟩:=gZ.1 b;exact(h.at' x a).1
 simpa using this
def gS(s:List Bd):List bH->List bH->bd (List bH)
 |[],acc=>some acc
 |x::r,acc=>match jr acc (cG s x.v) x.k with
  |some a=>gS s r a
  |none=>none
structure iU (l:List bo):Prop where
 at':∀x∈l,(0<=x.v/\x.v<=100000)/\ks x.s=true
 asc:iP gd l
def _root_.Go.Pv.T.has(s:List cS):T->Bool
 | .sym n=>n==s
 | .pair a b=>a.has s||b.has s
 |_=>false
def nb(l:List bo)(t:T)(s:List cS):bd (List bo):=if t.has s then none else some (asc gd (l++(oT t).map fun v=>⟨v,s⟩))
def F4{t:T}{v:Int}:v∈oT t↔t.occ v=true:=by
 refine⟨fun h=>?_,zM⟩;induction t with
 |var n=>simp[oT]at h;simp[T.occ,h]
 |pair a b d c=>simp only[oT,kd]at h;simp only[T.occ,oe];exact h.imp d c
 |_=>simp[oT]at h
def EV{l a:List bo}{t:T}{s:List cS}(h:nb l t s=some a)(x:bo):x∈a↔x∈l\/(x.s=s/\t.occ x.v=true):=by
 unfold nb at h;split at h
 ·cases h
 ·cases h;rw[Yv,kd,gZ];refine or_congr_right ?_;constructor
  ·rintro⟨v,b,rfl⟩;exact⟨rfl,F4.1 b⟩
  ·rintro⟨J,U⟩;exact⟨x.v,F4.2 U,by rw[<-J]⟩
def KG{l a:List bo}{t:T}{s:List cS}(b:t.has s=false)(c:iP gd a)(hm:∀x,x∈a↔x∈l\/(x.s=s/\t.occ x.v=true)):nb l t s=some a:=by
 have h:nb l t s=some (asc gd (l++(oT t).map fun v=>⟨v,s⟩)):=by unfold nb;rw[b];rfl
 rw[h];congr 1;exact(KM mP _).ext mP c fun x=>by rw[hm,<-EV h]
def KH{l a:List bo}{t:T}{s:List cS}(h:iU l)(d:t.ok=true)(b:ks s=true)(he:nb l t s=some a):iU a:=by
 refine⟨fun x c=>?_,?_⟩
 ·rcases(EV he x).1 c with J|⟨J,U⟩
  ·exact h.at' x J
  ·exact⟨yv d U,by rw[J];exact b⟩
 ·unfold nb at he;split at he
  ·cases he
  ·cases he;exact KM mP _
def gW(s:List Bd):List bo->List bo->bd (List bo)
 |[],acc=>some acc
 |x::r,acc=>match nb acc (cG s x.v) x.s with
  |some a=>gW s r a
  |none=>none
end
end Go.Pv
namespace Go.Proofs.YtahlgcidhnjlbaaGreat
section
open Go Go.Pv
def Sa:C:=(aa [cZ 1 0,bz 2 false] (aa [bk 3 4 1,dT 4 131 [.t 3,(gX 5000)],aV 5 .gtr 4 0,I 2 5] .ret))
def Sz:C:=(aa [dt (.box 2 (some 201) (.t 0)),cZ 3 1,dI 4 eB,bz 5 false] (aa [bk 6 4 3,cd 7 (.mkf 138 [.t 2]),cb 8 137 6 7,cV 9 0 8,cV 10 1 8,bV 4 4 9,I 5 10] .ret))
def TF:C:=(aa [dI 2 eB] (aa [I 3 0,jn 4 eB [(0,1,(gX 1)),(1,1,(.t 3))],bV 4 2 4] .ret))
def AQ:C:=(aa [cZ 1 0,dI 2 eB] (aa [aF 6 0 1 1,ay 7 1 6,aF 8 1 1 1,ay 9 1 8,aF 10 2 1 1,ay 11 1 10,jn 12 eB [(0,1,(.t 7)),(1,1,(.t 9)),(2,1,(.t 11))],dI 3 eB,bV 4 3 12] (.seq (aa [aF 13 3 1 1,ay 14 1 13,cw 15 14,bP 16 0] (gw 17 16 15 (.seq (.block 1 (aa [ck 18 4 14 16,bk 19 4 18,dI 5 eB,bV 4 5 19] (.drawn true 29 [aF 20 3 1 3,ay 21 1 20,bk 22 4 5,c0 23 130 22,fe 24 4 30 [.t 23],h1 25 4 30 21 24,aF 26 3 1 3,bV 1 26 25]))) (.region [aV 27 .add 16 1,I 16 27])))) (aa [bk 28 4 3,bV 4 2 28] .ret))))
def Sv:C:=(aa [cZ 2 0,bP 4 0] (.seq (aa [I 7 1,aV 8 .lss 7 1] (aW 8 (aa [bP 4 (-1)] .ret) .skip)) (.seq (aa [aF 9 0 1 2,ay 10 1 9,aV 11 .neq 10 4] (aW 11 (.seq (aa [aF 12 3 1 2,ay 13 1 12,cw 14 13,aV 15 .neq 14 0] (aW 15 (aa [bP 4 (-1)] .ret) .skip)) (.seq (aa [aF 16 0 1 2,ay 17 1 16] (.block 0 (aa [aV 19 .eql 17 0,I 18 19] (aW 18 (aa [aF 20 1 1 2,ay 21 1 20,aV 22 .neq 21 0,I 23 22,ax 23 false (aF 24 2 1 2),ax 23 false (ay 25 1 24),yy 23 false 26 (.bin .neq false (.t 25) (.c (.str []))),ds 27 23 26] (aW 27 (aa [bP 4 (-1)] .ret) .skip)) (aa [aV 29 .eql 17 1,I 28 29] (aW 28 (aa [aF 30 1 1 2,ay 31 1 30,aV 32 .lss 31 0,I 33 32,ax 33 false (aF 34 1 1 2),ax 33 false (ay 35 1 34),ax 33 false (aV 36 .gtr 35 100000),ds 37 33 36,I 38 37,ax 38 false (aF 39 2 1 2),ax 38 false (ay 40 1 39),yy 38 false 41 (.bin .neq false (.t 40) (.c (.str []))),ds 42 38 41] (aW 42 (aa [bP 4 (-1)] .ret) .skip)) (aa [aV 44 .eql 17 2,I 43 44] (aW 43 (aa [aF 45 1 1 2,ay 46 1 45,aV 47 .neq 46 0,I 48 47,ax 48 false (aF 49 2 1 2),ax 48 false (ay 50 1 49),ax 48 false (c0 51 160 50),ax 48 false (cO 52 51),ds 53 48 52] (aW 53 (aa [bP 4 (-1)] .ret) .skip)) (aa [aV 55 .eql 17 3,I 54 55] (aW 54 (aa [aF 56 1 1 2,ay 57 1 56,aV 58 .lss 57 (-1000000000),I 59 58,ax 59 false (aF 60 1 1 2),ax 59 false (ay 61 1 60),ax 59 false (aV 62 .gtr 61 1000000000),ds 63 59 62,I 64 63,ax 64 false (aF 65 2 1 2),ax 64 false (ay 66 1 65),yy 64 false 67 (.bin .neq false (.t 66) (.c (.str []))),ds 68 64 67] (aW 68 (aa [bP 4 (-1)] .ret) .skip)) (aa [bP 4 (-1)] .ret))))))))))) (aa [bP 4 1] .ret))) .skip)) (.seq (aa [aF 69 1 1 2,ay 70 1 69,aV 71 .neq 70 0,I 72 71,ax 72 false (aF 73 2 1 2),ax 72 false (ay 74 1 73),yy 72 false 75 (.bin .neq false (.t 74) (.c (.str []))),ds 76 72 75,I 77 76,ax 77 false (aF 78 3 1 2),ax 77 false (ay 79 1 78),ax 77 false (cw 80 79),ax 77 false (aV 81 .neq 80 2),ds 82 77 81] (aW 82 (aa [bP 4 (-1)] .ret) .skip)) (aa [aF 83 3 1 2,ay 84 1 83,kB 85 4 84 0,bk 86 4 85,I 87 1,aV 88 .sub 87 1,cb 89 131 86 88,I 5 89] (.seq (aa [I 90 5,aV 91 .lss 90 0] (aW 91 (aa [bP 4 (-1)] .ret) .skip)) (aa [aF 92 3 1 2,ay 93 1 92,kB 94 4 93 1,bk 95 4 94,I 96 1,aV 97 .sub 96 1,I 98 5,bu 99 .sub 97 98,cb 100 131 95 99,I 6 100] (.seq (aa [I 101 6,aV 102 .lss 101 0] (aW 102 (aa [bP 4 (-1)] .ret) .skip)) (aa [I 103 5,cd 104 (.bin .add false (gX 1) (.t 103)),I 105 6,bu 106 .add 104 105,I 4 106] .ret)))))))))
def GG:C:=(aa [cZ 2 0,cZ 3 1,bP 4 0] (.seq (aa [aF 6 0 1 2,ay 7 1 6,aF 8 0 1 3,ay 9 1 8,bu 10 .neq 7 9] (aW 10 (aa [aF 11 0 1 2,ay 12 1 11,aF 13 0 1 3,ay 14 1 13,cb 15 190 12 14,I 4 15] .ret) .skip)) (.seq (aa [aF 16 1 1 2,ay 17 1 16,aF 18 1 1 3,ay 19 1 18,bu 20 .neq 17 19] (aW 20 (aa [aF 21 1 1 2,ay 22 1 21,aF 23 1 1 3,ay 24 1 23,cb 25 190 22 24,I 4 25] .ret) .skip)) (.seq (aa [aF 26 2 1 2,ay 27 1 26,aF 28 2 1 3,ay 29 1 28,bu 30 .neq 27 29] (aW 30 (.seq (aa [aF 31 2 1 2,ay 32 1 31,aF 33 2 1 3,ay 34 1 33,bu 35 .lss 32 34] (aW 35 (aa [bP 4 (-1)] .ret) .skip)) (aa [bP 4 1] .ret)) .skip)) (.seq (aa [aF 36 0 1 2,ay 37 1 36,aV 38 .neq 37 4] (aW 38 (aa [bP 4 0] .ret) .skip)) (.seq (.seq (.drawn true 60 [aF 39 3 1 2,ay 40 1 39,kB 41 4 40 0,bk 42 4 41,aF 43 3 1 3,ay 44 1 43,kB 45 4 44 0,bk 46 4 45,cb 47 133 42 46,I 5 47]) (aa [I 48 5,aV 49 .neq 48 0] (aW 49 (aa [I 50 5,I 4 50] .ret) .skip))) (.seq (.drawn true 60 [aF 51 3 1 2,ay 52 1 51,kB 53 4 52 1,bk 54 4 53,aF 55 3 1 3,ay 56 1 55,kB 57 4 56 1,bk 58 4 57,cb 59 133 54 58,I 4 59]) .ret)))))))
def yQ:C:=(aa [cZ 2 0] (.seq (aa [aF 4 0 1 2,ay 5 1 4,aV 6 .eql 5 1] (aW 6 (.region [I 7 1,aF 8 1 1 2,ay 9 1 8,hJ 10 7 [.t 9]]) .skip)) (aa [aF 11 0 1 2,ay 12 1 11,aV 13 .eql 12 4] (aW 13 (aa [aF 14 3 1 2,ay 15 1 14,kB 16 4 15 0,bk 17 4 16,I 18 1,cb 19 134 17 18] (.region [aF 20 3 1 2,ay 21 1 20,kB 22 4 21 1,bk 23 4 22,I 24 1,cb 25 134 23 24])) .skip))))
def SE:C:=(aa [fw 2 1] (aa [dt (.bslm 5 (some 306) 1 3 []),I 3 5] (.seq (aa [I 6 0,dt (.range 7 none (.t 6))] (.block 0 (.loop (aa [⟨none,.next 8 (.t 7)⟩,cV 9 0 8] (.seq (aW 9 .skip (.exit 0)) (.block 1 (aa [cd 10 (.ment (.t 7)),cV 11 0 10,I 4 11] (.region [I 12 3,I 13 4,fe 14 1 3 [.t 13],dt (.appm 15 none 1 3 (.t 12) (.t 14)),I 3 15])))))))) (aa [I 16 3,c0 17 191 16] (.seq (.pub 3 (.region [I 18 3,I 2 18])) .ret)))))
def SB:C:=(aa [cZ 2 0,dt (.box 3 (some 202) (.t 1)),dI 4 eB,bz 5 false] (aa [bk 7 4 2,cd 8 (.mkf 193 [.t 3]),cb 9 192 7 8,I 6 9] (.seq (aa [I 10 6,aV 11 .gtr 10 5000] (aW 11 (aa [jn 12 eB [],bV 4 4 12,bz 5 false] .ret) .skip)) (aa [bk 13 4 2,ay 14 1 3,cb 15 194 13 14,bV 4 4 15,bz 5 true] .ret))))
def SA:C:=(aa [dI 3 eB,bz 4 false] (.seq (aa [ay 6 1 1,I 7 0,cb 8 139 6 7,I 5 8] (aa [I 9 5,aV 10 .geq 9 0] (aW 10 (aa [ay 11 1 1,I 12 5,ck 13 5 11 12,hp 14 1 4 13,bk 15 4 14,bV 4 3 15,bz 4 true] .ret) .skip))) (aa [jn 16 eB [],bV 4 3 16,bz 4 false] .ret)))
def Sr:C:=(aa [dt (.box 2 (some 101) (.t 0)),dt (.box 3 (some 102) (.t 1)),bP 4 0] (aa [ay 6 1 2,cw 7 6,cd 8 (.mkf 196 [.t 2,.t 3]),cb 9 195 7 8,I 5 9] (.seq (.seq (.drawn true 24 [I 10 5,ay 11 1 2,cw 12 11,bu 13 .lss 10 12,I 14 13,ax 14 true (ay 15 1 2),cg 14 true 16 5,ax 14 true (ck 17 5 15 16),ax 14 true (aF 18 0 1 17),ax 14 true (ay 19 1 18),ax 14 true (ay 20 1 3),ax 14 true (bu 21 .eql 19 20),eg 22 14 21]) (aW 22 (aa [I 23 5,I 4 23] .ret) .skip)) (aa [bP 4 (-1)] .ret))))
def Sp:C:=(aa [cZ 2 0,cZ 3 1,bz 4 false] (aa [bk 5 4 2,bk 6 4 3,cb 7 133 5 6,aV 8 .eql 7 0,I 4 8] .ret))
def Dq:C:=(aa [cZ 1 0,dI 2 eB] (.seq (aa [aF 3 0 1 1,ay 4 1 3,aV 5 .neq 4 4] (aW 5 (aa [aF 6 0 1 1,ay 7 1 6,aF 8 1 1 1,ay 9 1 8,aF 10 2 1 1,ay 11 1 10,jn 12 eB [(0,1,(.t 7)),(1,1,(.t 9)),(2,1,(.t 11))],bV 4 2 12] .ret) .skip)) (.seq (.drawn true 25 [aF 13 3 1 1,ay 14 1 13,kB 15 4 14 0,bk 16 4 15,c0 17 143 16,aF 18 3 1 1,ay 19 1 18,kB 20 4 19 1,bk 21 4 20,c0 22 143 21,fe 23 4 30 [.t 17,.t 22],jn 24 eB [(0,1,(gX 4)),(3,1,(.t 23))],bV 4 2 24]) .ret)))
def Sb:C:=(aa [bz 2 false] (.seq (aa [I 5 0,cw 6 5,aV 7 .gtr 6 400] (aW 7 (aa [bz 2 false] .ret) .skip)) (.seq (aa [I 8 0,cw 9 8,bP 10 0] (gw 11 10 9 (.seq (.block 1 (aa [I 12 10,ck 13 5 8 10,bk 14 5 13,dI 4 ku,I 3 12,bV 5 4 14] (.seq (.drawn true 45 [aF 15 0 1 4,ay 16 1 15,aV 17 .lss 16 0,I 18 17,ax 18 false (aF 19 0 1 4),ax 18 false (ay 20 1 19),ax 18 false (aV 21 .gtr 20 100000),ds 22 18 21,I 23 22,cg 23 false 24 3,ax 23 false (aV 25 .gtr 24 0),cg 23 false 26 25,cg 26 true 27 0,cg 26 true 28 3,ax 26 true (aV 29 .sub 28 1),ax 26 true (ck 30 5 27 29),ax 26 true (aF 31 0 1 30),ax 26 true (ay 32 1 31),ax 26 true (aF 33 0 1 4),ax 26 true (ay 34 1 33),ax 26 true (bu 35 .geq 32 34),ax 23 false (eg 36 26 35),ds 37 23 36,I 38 37,ax 38 false (hp 39 1 4 4),ax 38 false (bk 40 4 39),ax 38 false (c0 41 64 40),ax 38 false (cO 42 41),ds 43 38 42]) (aW 43 (aa [bz 2 false] .ret) .skip)))) (.region [aV 44 .add 10 1,I 10 44])))) (aa [bz 2 true] .ret))))
def R1:C:=(aa [bz 2 false] (.seq (aa [I 4 0,cd 5 (.slen (.t 4)),aV 6 .lss 5 1,I 7 6,cg 7 false 8 0,ax 7 false (cd 9 (.slen (.t 8))),ax 7 false (aV 10 .gtr 9 12),ds 11 7 10,I 12 11,cg 12 false 13 0,ax 12 false (cd 14 (.sidx (.t 13) (gX 0))),ax 12 false (cd 15 (.bin .lss false (.t 14) (.c (.int .u8 97)))),ds 16 12 15,I 17 16,cg 17 false 18 0,ax 17 false (cd 19 (.sidx (.t 18) (gX 0))),ax 17 false (cd 20 (.bin .gtr false (.t 19) (.c (.int .u8 122)))),ds 21 17 20] (aW 21 (aa [bz 2 false] .ret) .skip)) (.seq (aa [bP 3 1] (.block 0 (.loop (.seq (aa [I 22 3,I 23 0,cd 24 (.slen (.t 23)),bu 25 .lss 22 24] (aW 25 .skip (.exit 0))) (.seq (.block 1 (aa [I 28 0,I 29 3,cd 30 (.sidx (.t 28) (.t 29)),cd 31 (.bin .geq false (.t 30) (.c (.int .u8 97))),I 32 31,cg 32 true 33 0,cg 32 true 34 3,ax 32 true (cd 35 (.sidx (.t 33) (.t 34))),ax 32 true (cd 36 (.bin .leq false (.t 35) (.c (.int .u8 122)))),eg 37 32 36,I 38 37,cg 38 false 39 0,cg 38 false 40 3,ax 38 false (cd 41 (.sidx (.t 39) (.t 40))),ax 38 false (cd 42 (.bin .geq false (.t 41) (.c (.int .u8 48)))),cg 38 false 43 42,cg 43 true 44 0,cg 43 true 45 3,ax 43 true (cd 46 (.sidx (.t 44) (.t 45))),ax 43 true (cd 47 (.bin .leq false (.t 46) (.c (.int .u8 57)))),ax 38 false (eg 48 43 47),ds 49 38 48,I 50 49,cg 50 false 51 0,cg 50 false 52 3,ax 50 false (cd 53 (.sidx (.t 51) (.t 52))),ax 50 false (cd 54 (.bin .eql false (.t 53) (.c (.int .u8 45)))),ds 55 50 54,cO 56 55] (aW 56 (aa [bz 2 false] .ret) .skip))) (.region [I 26 3,aV 27 .add 26 1,I 3 27])))))) (aa [bz 2 true] .ret))))
def K4:C:=(aa [bz 2 false] (.seq (aa [I 5 0,cw 6 5,bP 7 0] (gw 8 7 6 (.seq (.block 1 (aa [ck 9 4 5 7,bk 10 4 9,dI 4 eB,bV 4 4 10] (aa [bk 11 4 4,c0 12 64 11,cO 13 12] (aW 13 (aa [bz 2 false] .ret) .skip)))) (.region [aV 14 .add 7 1,I 7 14])))) (aa [bz 2 true] .ret)))
def TC:C:=(aa [cZ 2 0,cZ 3 1,dI 4 eB] (aa [bk 5 4 2,bk 6 4 3,fe 7 4 30 [.t 5,.t 6],jn 8 eB [(0,1,(gX 4)),(3,1,(.t 7))],bV 4 4 8] .ret))
def Sx:C:=(aa [bP 4 0] (.seq (aa [I 5 0,I 6 1,bu 7 .lss 5 6] (aW 7 (aa [bP 4 (-1)] .ret) .skip)) (.seq (aa [I 8 0,I 9 1,bu 10 .gtr 8 9] (aW 10 (aa [bP 4 1] .ret) .skip)) (aa [bP 4 0] .ret))))
def w3:C:=(aa [cZ 2 0,bP 4 0] (.seq (aa [aF 6 0 1 2,ay 7 1 6] (.block 0 (aa [aV 9 .eql 7 1,I 8 9] (aW 8 (aa [I 10 1,aF 11 1 1 2,ay 12 1 11,hJ 13 10 [.t 12],cd 14 (.min2 (.t 13) (gX 5001)),I 4 14] .ret) (aa [aV 16 .eql 7 4,I 15 16] (aW 15 (aa [aF 17 3 1 2,ay 18 1 17,kB 19 4 18 0,bk 20 4 19,I 21 1,cb 22 192 20 21,I 5 22] (.seq (aa [I 23 5,aV 24 .gtr 23 5000] (aW 24 (aa [I 25 5,I 4 25] .ret) .skip)) (aa [I 26 5,cd 27 (.bin .add false (gX 1) (.t 26)),aF 28 3 1 2,ay 29 1 28,kB 30 4 29 1,bk 31 4 30,I 32 1,cb 33 192 31 32,bu 34 .add 27 33,cd 35 (.min2 (.t 34) (gX 5001)),I 4 35] .ret))) .skip)))))) (aa [bP 4 1] .ret)))
def SC:C:=(aa [bP 3 0] (.seq (aa [ay 7 1 1,I 8 0,hJ 9 7 [.t 8],I 6 9,cV 10 0 6,cV 11 1 6,dI 4 eB,bV 4 4 10,I 5 11] (aa [I 12 5] (aW 12 (aa [bk 13 4 4,dT 14 131 [.t 13,(gX 5000)],I 3 14] .ret) .skip))) (aa [bP 3 1] .ret)))
def yR:C:=(aa [cZ 2 0,dI 4 eB] (.seq (aa [aF 7 0 1 2,ay 8 1 7] (.block 0 (aa [aV 10 .eql 8 1,I 9 10] (aW 9 (.seq (aa [I 12 1,aF 13 1 1 2,ay 14 1 13,hJ 15 12 [.t 14],I 11 15,cV 16 0 11,cV 17 1 11,dI 5 eB,bV 4 5 16,I 6 17] (aa [I 18 6] (aW 18 (aa [bk 19 4 5,c0 20 143 19,bV 4 4 20] .ret) .skip))) (aa [bk 21 4 2,bV 4 4 21] .ret)) (aa [aV 23 .eql 8 4,I 22 23] (aW 22 (.seq (.drawn false 38 [aF 24 3 1 2,ay 25 1 24,kB 26 4 25 0,bk 27 4 26,I 28 1,cb 29 194 27 28,aF 30 3 1 2,ay 31 1 30,kB 32 4 31 1,bk 33 4 32,I 34 1,cb 35 194 33 34,cb 36 221 29 35,bV 4 4 36]) .ret) .skip)))))) (aa [bk 37 4 2,bV 4 4 37] .ret)))
def S8:C:=(aa [bP 4 0] (aa [I 8 0,bP 5 0,I 6 8] (.seq (.block 0 (.loop (.seq (aa [I 9 5,I 10 6,bu 11 .lss 9 10] (aW 11 .skip (.exit 0))) (.block 1 (aa [I 12 5,I 13 6,bu 14 .add 12 13,cd 15 (.conv .u64 (.t 14)),cd 16 (.bin .shr false (.t 15) (.c (.int .u64 1))),cd 17 (.conv .i64 (.t 16)),I 7 17] (aa [I 18 1,I 19 7,hJ 20 18 [.t 19],cO 21 20] (aW 21 (.region [I 22 7,aV 23 .add 22 1,I 5 23]) (.region [I 24 7,I 6 24])))))))) (aa [I 25 5,I 4 25] .ret))))
def Ss:C:=(aa [bz 4 false] (.seq (.drawn true 12 [ay 5 1 1,I 6 0,ck 7 5 5 6,aF 8 0 1 7,ay 9 1 8,ay 10 1 2,bu 11 .geq 9 10,I 4 11]) .ret))
def Sy:C:=(aa [cZ 2 0,cZ 3 1,dI 4 eB] (aa [bk 5 4 2,bk 6 4 3,fe 7 4 30 [.t 5,.t 6],jn 8 eB [(0,1,(gX 4)),(3,1,(.t 7))],bV 4 4 8] .ret))
def aT:List (Nat×ev):=[(3,⟨1,8,.int .i64,.int .i64 0⟩),(4,⟨1,1,.bool,.bool false⟩),(5,⟨1,1,.int .u8,.int .u8 0⟩),(9,⟨1,16,.str,.str []⟩),(22,⟨1,24,.slice 24,.slice 4 .nil []⟩),(24,⟨4,56,.struct [(0,3),(1,3),(2,9),(3,22)],.agg [.int .i64 0,.int .i64 0,.str [],.slice 4 .nil []]⟩),(27,⟨1,24,.slice 30,.slice 4 .nil []⟩),(30,⟨4,56,.struct [(0,3),(1,3),(2,9),(3,27)],.agg [.int .i64 0,.int .i64 0,.str [],.slice 4 .nil []]⟩),(38,⟨1,24,.slice 111,.slice 5 .nil []⟩),(39,⟨1,24,.slice 38,.slice 1 .nil []⟩),(40,⟨1,24,.slice 158,.slice 2 .nil []⟩),(41,⟨1,24,.slice 146,.slice 2 .nil []⟩),(43,⟨5,104,.struct [(0,3),(1,38),(2,39),(3,40),(4,41)],.agg [.int .i64 0,.slice 5 .nil [],.slice 1 .nil [],.slice 2 .nil [],.slice 2 .nil []]⟩),(46,⟨1,24,.slice 113,.slice 5 .nil []⟩),(47,⟨1,24,.slice 46,.slice 1 .nil []⟩),(48,⟨1,24,.slice 98,.slice 2 .nil []⟩),(49,⟨1,24,.slice 100,.slice 2 .nil []⟩),(51,⟨5,104,.struct [(0,3),(1,46),(2,47),(3,48),(4,49)],.agg [.int .i64 0,.slice 5 .nil [],.slice 1 .nil [],.slice 2 .nil [],.slice 2 .nil []]⟩),(76,⟨1,24,.slice 3,.slice 1 .nil []⟩),(98,⟨2,16,.struct [(0,3),(1,3)],.agg [.int .i64 0,.int .i64 0]⟩),(100,⟨2,24,.struct [(0,3),(1,9)],.agg [.int .i64 0,.str []]⟩),(111,⟨5,64,.struct [(0,3),(1,24)],.agg [.int .i64 0,.int .i64 0,.int .i64 0,.str [],.slice 4 .nil []]⟩),(113,⟨5,64,.struct [(0,3),(1,30)],.agg [.int .i64 0,.int .i64 0,.int .i64 0,.str [],.slice 4 .nil []]⟩),(136,⟨1,8,.map 3 4,.junk⟩),(141,⟨1,8,.other,.junk⟩),(143,⟨1,8,.other,.junk⟩),(144,⟨1,24,.slice 5,.slice 1 .nil []⟩),(146,⟨2,24,.struct [(0,3),(1,9)],.agg [.int .i64 0,.str []]⟩),(158,⟨2,16,.struct [(0,3),(1,3)],.agg [.int .i64 0,.int .i64 0]⟩),(165,⟨1,8,.map 100 4,.junk⟩),(181,⟨1,8,.other,.junk⟩),(185,⟨2,16,.struct [(0,143),(1,181)],.agg [.junk,.junk]⟩),(192,⟨1,8,.int .u64,.int .u64 0⟩),(194,⟨1,8,.other,.nilp⟩),(206,⟨1,4,.int .u32,.int .u32 0⟩),(208,⟨1,8,.int .u64,.int .u64 0⟩),(216,⟨1,8,.map 3 3,.junk⟩),(217,⟨1,8,.map 3 30,.junk⟩),(219,⟨6,48,.struct [(0,216),(1,217),(2,136),(3,216),(4,216),(5,217)],.agg [.junk,.junk,.junk,.junk,.junk,.junk]⟩),(222,⟨1,8,.int .u64,.int .u64 0⟩)]
def mixed:au.follows .mixedOrders=true:=bi
def bI{aT:List (Nat×ev)}(e:hY au aT=true){f:FuncId}{fn:Func}(h:au.funcs[f]? =some fn){c:C}{a:List bW}{n:Nat}(b:b4 aT c a n fn=true){args:List af}{r:af}(he:eM args->df au [] c (bZ a r) ⟨jc 0 args,[],[],0,[]⟩)(d:args.length<=n:=by simp)(g:az (fun _=>eu) r:=by simp[az]):bU au f args r:=bU.mk mixed e h b d g he
def a6:hY au aT=true:=bi
def anu:b4 aT Sa [.tmp 2] 1 Tryz.f64=true:=bi
def anT:b4 aT Sz [.cell 4 true 4,.tmp 5] 2 Tryz.f69=true:=bi
def aoV:b4 aT TF [.cell 2 true 4] 1 Tryz.f114=true:=bi
def E8:b4 aT AQ [.cell 2 true 4] 1 Tryz.f130=true:=bi
def anP:b4 aT Sv [.tmp 4] 2 Tryz.f131=true:=bi
def O2:b4 aT GG [.tmp 4] 2 Tryz.f133=true:=bi
def Cj:b4 aT yQ [] 2 Tryz.f134=true:=bi
def anY:b4 aT SE [.tmp 2] 1 Tryz.f136=true:=bi
def anV:b4 aT SB [.cell 4 true 4,.tmp 5] 2 Tryz.f137=true:=bi
def anU:b4 aT SA [.cell 3 true 4,.tmp 4] 2 Tryz.f138=true:=bi
def anL:b4 aT Sr [.tmp 4] 2 Tryz.f139=true:=bi
def anJ:b4 aT Sp [.tmp 4] 2 Tryz.f142=true:=bi
def I1:b4 aT Dq [.cell 2 true 4] 1 Tryz.f143=true:=bi
def anv:b4 aT Sb [.tmp 2] 1 Tryz.f158=true:=bi
def anl:b4 aT R1 [.tmp 2] 1 Tryz.f160=true:=bi
def Zk:b4 aT K4 [.tmp 2] 1 Tryz.f172=true:=bi
def aoS:b4 aT TC [.cell 4 true 4] 2 Tryz.f189=true:=bi
def anR:b4 aT Sx [.tmp 4] 2 Tryz.f190=true:=bi
def zR:b4 aT w3 [.tmp 4] 2 Tryz.f192=true:=bi
def anW:b4 aT SC [.tmp 3] 2 Tryz.f193=true:=bi
def Ck:b4 aT yR [.cell 4 true 4] 2 Tryz.f194=true:=bi
def aop:b4 aT S8 [.tmp 4] 2 Tryz.f195=true:=bi
def anM:b4 aT Ss [.tmp 4] 3 Tryz.f196=true:=bi
def anS:b4 aT Sy [.cell 4 true 4] 2 Tryz.f221=true:=bi
def alC(s:List cS)(k:Nat)(st:bp):Prop:=∃i:Nat,1<=i/\i<=s.length/\k=s.length-i/\((s.drop 1).all nW=(s.drop i).all nW)/\st=⟨[(0,.str s),(3,aj i)],[],[],0,[]⟩
def vi(s:List cS):bU au 160 [.str s] (.bool (ks s)):=by
 refine bU.mk mixed a6 Tryz.func160 anl Ψ dl fun m=>?_;unfold R1;simp;(with_reducible repeat' first|((first|refine ct (fun h=>?_) fun h=>?_|refine cz (fun h=>?_) fun h=>?_|refine cy (fun h=>?_) fun h=>?_)<;>try simp at h)|refine al ?_|simp);case refine_1.refine_1.refine_1.refine_2=>
  have b:ks s=(s.drop 1).all nW:=by simp[ks,low];omega
  rw[b];refine qq (alC s) (s.length-1) _ ⟨Ψ,by simp[hy],by simp[p9],Ψ⟩ ⟨1,Ω,Ω,rfl,rfl,rfl⟩ ?_;rintro k st ⟨i,f,j,n,c,rfl⟩ g l;rw[c];simp;refine ct (fun a=>?_) (fun e=>?_)
  ·simp at a;have d:s.drop i=s[i]?.getD 0::s.drop (i+1):=by rw[lG a];simp[a]
   simp;(with_reducible repeat' first|((first|refine ct (fun h=>?_) fun h=>?_|refine cz (fun h=>?_) fun h=>?_|refine cy (fun h=>?_) fun h=>?_)<;>try simp at h)|refine al ?_|simp);all_goals first
    |(simp[bZ,ba,be,a1,d,nW,low];omega)
    |(simp only[Gd];refine⟨s.length-(i+1),_,Ω,⟨Ψ,by simp[hy],by simp[p9],Ψ⟩,i+1,Ω,Ω,rfl,?_,rfl⟩;rw[c,d];simp[nW,low];omega)
  ·simp at e;have:s.drop i=[]:=by simp;omega
   simp[bZ,ba,be,a1,this]
 all_goals simp[bZ,ba,be,a1,ks,low]
 all_goals omega
def acO(m:Nat):∀(t:Tm),t.sz<=m->∀(room:Int),0<=room/\room<=10000->bU au 131 [enc t,aj room] (aj (gr t room)):=by
 induction m with
 |zero=>intro t c;cases t;simp[Tm.sz]at c
 |succ m d=>
 rintro⟨k,n,s,args⟩ c room f;refine bI a6 Tryz.func131 anP fun p=>?_;unfold Sv;simp[Tm.kind,Tm.num,Tm.name,Tm.args];(with_reducible repeat' first|((first|refine ct (fun h=>?_) fun h=>?_|refine cz (fun h=>?_) fun h=>?_|refine cy (fun h=>?_) fun h=>?_)<;>try simp at h)|refine al ?_|simp);all_goals try refine CallDo.val Ψ (vi _) ?_
 all_goals try simp
 (with_reducible repeat' first|((first|refine ct (fun h=>?_) fun h=>?_|refine cz (fun h=>?_) fun h=>?_|refine cy (fun h=>?_) fun h=>?_)<;>try simp at h)|refine al ?_|simp);all_goals try simp[bZ,ba,be,a1]
 case succ.refine_2.refine_2.refine_1.refine_1.refine_2=>
  rename_i l J U e;match args,h with
  |[a,b],_=>
  simp[Tm.sz,Tm.szL]at c;subst J U e;simp;(with_reducible repeat' first|((first|refine ct (fun h=>?_) fun h=>?_|refine cz (fun h=>?_) fun h=>?_|refine cy (fun h=>?_) fun h=>?_)<;>try simp at h)|refine al ?_|simp);refine CallDo.val Ψ (d a Ω (room-1) Ω) ?_;simp;have j:=ON a (room-1);have g:=E1 a (room-1);(with_reducible repeat' first|((first|refine ct (fun h=>?_) fun h=>?_|refine cz (fun h=>?_) fun h=>?_|refine cy (fun h=>?_) fun h=>?_)<;>try simp at h)|refine al ?_|simp)
  ·simp[bZ,ba,be,a1];rw[OM];simp;omega
  ·refine CallDo.val Ψ (d b Ω (room-1-gr a (room-1)) Ω) ?_;simp;have o:=ON b (room-1-gr a (room-1));have i:=E1 b (room-1-gr a (room-1));(with_reducible repeat' first|((first|refine ct (fun h=>?_) fun h=>?_|refine cz (fun h=>?_) fun h=>?_|refine cy (fun h=>?_) fun h=>?_)<;>try simp at h)|refine al ?_|simp);all_goals simp[bZ,ba,be,a1]
   all_goals rw[OM];simp;omega
 all_goals rw[OM]
 all_goals simp_all[ml]
 all_goals first|omega|(split<;>simp at h⊢)
def J7(t:Tm):bU au 64 [enc t] (.bool t.fits):=by refine bI a6 Tryz.func64 anu fun a=>?_;unfold Sa;simp;refine CallDo.val Ψ (acO t.sz t (dO _) 5000 Ω) ?_;simp;simp[bZ,ba,be,a1];simp[Tm.fits]
def ar1(t:T):bU au 64 [t.e] (.bool t.fit):=by have:=J7 t.tm;rwa[mB,Tm.fits_T]at this
def Kf(a b:T):bU au 221 [a.e,b.e] (T.pair a b).e:=by refine bI a6 Tryz.func221 anS fun c=>?_;unfold Sy;simp;(with_reducible repeat' first|((first|refine ct (fun h=>?_) fun h=>?_|refine cz (fun h=>?_) fun h=>?_|refine cy (fun h=>?_) fun h=>?_)<;>try simp at h)|refine al ?_|simp);all_goals try simp[bZ,ba,be,a1]
def J9(a b:T):bU au 189 [a.e,b.e] (T.pair a b).e:=by refine bI a6 Tryz.func189 aoS fun c=>?_;unfold TC;simp;(with_reducible repeat' first|((first|refine ct (fun h=>?_) fun h=>?_|refine cz (fun h=>?_) fun h=>?_|refine cy (fun h=>?_) fun h=>?_)<;>try simp at h)|refine al ?_|simp);all_goals try simp[bZ,ba,be,a1]
def vj(t:T):bU au 143 [t.e] t.e:=by
 induction t with
 |pair a b e d=>refine bI a6 Tryz.func143 I1 fun c=>?_;unfold Dq;exact cr
 |_=>refine bI a6 Tryz.func143 I1 fun c=>?_;unfold Dq;exact cr
def pq(a b:Int):bU au 190 [aj a,aj b] (aj (fb a b)):=by
 refine bI a6 Tryz.func190 anR fun c=>?_;unfold Sx;simp;((repeat' first|refine al ?_|simp|((first|apply ct|apply cz|apply cy)<;>intro h<;>try simp at h))<;>(try exact c3));all_goals simp[bZ,ba,be,a1]
 all_goals simp[fb]
 all_goals omega
def CZ(a:T):∀b:T,bU au 133 [a.e,b.e] (aj (e4 a b)):=by
 induction a with
 |pair g a2 e d=>
  intro b;cases b with
  |pair f i=>
   refine bI a6 Tryz.func133 O2 fun c=>?_;unfold GG;simp;((repeat' first|refine al ?_|refine aO (e _) ?_|refine aP (e _) ?_|refine aO (d _) ?_|refine aP (d _) ?_|refine aO (pq _ _) ?_|refine aP (pq _ _) ?_|simp|((first|apply ct|apply cz|apply cy)<;>intro h<;>try simp at h))<;>(try exact c3));all_goals simp[bZ,ba,be,a1]
   all_goals simp_all[e4]
  |_=>
   refine bI a6 Tryz.func133 O2 fun c=>?_;unfold GG;simp;(repeat' first|refine al ?_|refine aO (pq _ _) ?_|refine aP (pq _ _) ?_|simp);all_goals simp[bZ,ba,be,a1]
   all_goals simp_all[e4]
 |_=>
  intro b;cases b<;>
  (refine bI a6 Tryz.func133 O2 fun c=>?_;unfold GG
   simp
   (with_reducible repeat' first|((first|apply ct|apply cz|apply cy)<;>intro h<;>try simp at h)|refine al ?_|refine aO (pq _ _) ?_|refine aP (pq _ _) ?_|simp)
   all_goals simp[bZ,ba,be,a1]
   all_goals simp_all[e4,lz])
def vk(a b:T):bU au 142 [a.e,b.e] (.bool (decide (a=b))):=by
 refine bI a6 Tryz.func142 anJ fun c=>?_;unfold Sp;simp;(repeat' first|refine al ?_|refine aO (CZ _ _) ?_|refine aP (CZ _ _) ?_|simp);all_goals simp[bZ,ba,be,a1]
 have:=sA a b;by_cases h:e4 a b=0<;>simp_all
open Classical in
def alG(l:List Bt)(k:Nat)(st:bp):Prop:=∃i:Nat,i<=l.length/\k=l.length-i/\(∀j,j<i->Ci l j)/\st=⟨[(0,bL (l.map Bt.e)),(8,bL (l.map Bt.e)),(9,aj l.length),(10,aj i)],[],[],0,[]⟩
open Classical in
def ar2(l:List Bt):bU au 158 [bL (l.map Bt.e)] (.bool (decide (AF l))):=by
 refine bI a6 Tryz.func158 anv fun w=>?_;unfold Sb;simp;(with_reducible repeat' first|((first|apply ct|apply cz|apply cy)<;>intro h<;>try simp at h)|refine al ?_|simp)
 ·simp[bZ,ba,be,a1];intro a;have:=a.1;omega
 ·refine qq (alG l) l.length _ ⟨Ψ,by simp[hy],by simp[p9],Ψ⟩ ⟨0,Ω,Ω,Ψ,rfl⟩ ?_;rintro k st ⟨i,hi,v,g,rfl⟩ p q;simp;refine ct (fun d=>?_) (fun o=>?_)
  ·simp at d;obtain⟨b,f⟩:∃b,l[i]? =some b:=⟨_,cl d⟩;obtain⟨c,aw⟩:∃c,l[i-1]? =some c:=⟨_,cl Ω⟩;clear p q;simp[f,aw];((repeat' first|refine al ?_|refine aO (J7 _) ?_|refine aP (J7 _) ?_|simp[aw]|((first|apply ct|apply cz|apply cy)<;>intro h<;>try simp at h))<;>(try exact c3));all_goals first
    |(simp[bZ,ba,be,a1];intro a;have J:=a.2 i d b f;have U:=J.2.1 c;have r:=J.2.2;first|omega|(have:=U Ω aw;omega)|(rw[r]at h;cases h)|simp_all)
    |(simp only[Gd];refine⟨l.length-(i+1),_,Ω,⟨Ψ,by simp[hy],by simp[p9],Ψ⟩,i+1,Ω,rfl,fun j s=>?_,rfl⟩
      by_cases e:j=i
      ·subst e;intro b2 n;rw[f]at n;cases n;refine⟨Ω,fun t u m=>?_,by assumption⟩;rw[aw]at m;cases m;omega
      ·exact g j Ω)
  ·simp at o;simp[bZ,ba,be,a1];exact⟨Ω,fun j s=>g j Ω⟩
def nE(p:Nat->Bool)(i j:Nat):Nat:=if i<j then(if p ((i+j)/2)then nE p i ((i+j)/2)else nE p ((i+j)/2+1) j)else i
termination_by j-i
def alF(s:cR)(n g:Nat)(dH:List af)(p:Nat->Bool)(k:Nat)(st:bp):Prop:=∃i j:Nat,i<=j/\j<=n/\k=j-i/\nE p i j=nE p 0 n/\st=⟨[(1,.func g dH),(5,aj i),(6,aj j)],s.b,s.e,0,cK s⟩
def aiE(s:cR)(a:ez s)(n g:Nat)(z:n<=1000000)(dH:List af)(aw:aH (aM s) dH)(dy:cf dH=dH)(p:Nat->Bool)(t:∀i:Nat,i<n->bG au g (aj i::dH) s fun r b=>r= .bool (p i)/\b=s):
  bG au 195 [aj n,.func g dH] s fun r b=>r=aj (nE p 0 n)/\b=s:=by
 refine bG.mk mixed a6 Tryz.func195 aop Ψ a.obj fun y e=>?_;unfold S8;simp;refine qq (alF s n g dH p) n _ (gn.ob a (by simp[aw]) aX aX) ⟨0,n,Ω,Ω,rfl,rfl,rfl⟩ ?_;rintro k st ⟨i,j,v,w,x,d,rfl⟩ o e;clear o e;simp;refine ct (fun c=>?_) (fun f=>?_)
 ·simp at c;have hw:ik.wrap ((i:Int)+j)=i+j:=by simp[ub,ps,ua];omega
  obtain⟨m,hm⟩:∃m,m=(i+j)/2:=⟨_,rfl⟩;have q:Int.fdiv ((i:Int)+j) 2=(m:Int):=by rw[Int.fdiv_eq_ediv_of_nonneg _ Ω];omega
  have l:vn.wrap (m:Int)=m:=by rw[pt];omega
  have u:ik.bits=64:=rfl;simp[hw,dy,u,q,l];refine⟨by unfold tB;omega,?_⟩;refine CallDo.ob (t m Ω) a aX aX (by simp[aw]) ?_;rintro r b ⟨rfl,rfl⟩;refine⟨Same.refl _,?_⟩;simp[hH];(with_reducible repeat' first|((first|apply ct|apply cz|apply cy)<;>intro h<;>try simp at h)|refine al ?_|simp)
  ·simp only[Gd];refine⟨j-(m+1),_,Ω,gn.ob a (by simp[aw]) aX aX,m+1,j,Ω,Ω,rfl,?_,rfl⟩;rw[<-d];conv=>rhs;unfold nE
   simp[c,<-hm,h]
  ·simp only[Gd];refine⟨m-i,_,Ω,gn.ob a (by simp[aw]) aX aX,i,m,Ω,Ω,rfl,?_,rfl⟩;rw[<-d];conv=>rhs;unfold nE
   simp[c,<-hm,h]
 ·simp at f;have:nE p 0 n=i:=by rw[<-d];unfold nE;rw[if_neg Ω]
  rw[this];simp;refine c5.at s (.inl rfl) a (Same.refl s) aX aX ?_;simp[dc,ba,be,a1]
def ox(l:List Bd)(v:Int):Int:=
 let i:=nE (fun i=>match l[i]? with|some b=>decide (v<=b.v)|none=>false) 0 l.length
 match l[i]? with|some b=>if b.v=v then i else-1|none=> -1
def aiK(l:List Bd)(v:Int)(i:Nat)(b:Bd)(c:l[i]? =some b):bG au 196 [aj i,.ptr (.obj 101) 0,.ptr (.obj 102) 0] ⟨[(.obj 101,[bL (l.map Bd.e)]),(.obj 102,[aj v])],[]⟩ fun r d=>r= .bool (decide (v<=b.v))/\d=⟨[(.obj 101,[bL (l.map Bd.e)]),(.obj 102,[aj v])],[]⟩:=by have a:ez ⟨[(.obj 101,[bL (l.map Bd.e)]),(.obj 102,[aj v])],[]⟩:=(ez.of ⟨by intro m;simp[ae],by intro m;simp[ae]⟩ (by simp[aH,az,aM,ae]) (by simp[aH,az,aM,ae]));have f:i<l.length:=(fH.1 c).1;refine bG.mk mixed a6 Tryz.func196 anM Ψ a.obj fun g e=>?_;unfold Ss;simp[c];(repeat' first|refine al ?_|simp);refine c5.at _ (.inl rfl) a (Same.refl _) aX aX ?_;simp[dc,ba,be,a1]
def vl(l:List Bd)(v:Int)(e:l.length<=1000000):bU au 139 [bL (l.map Bd.e),aj v] (aj (ox l v)):=by
 refine bI a6 Tryz.func139 anL fun g=>?_;unfold Sr;simp;have d:ez ⟨[(.obj 101,[bL (l.map Bd.e)]),(.obj 102,[aj v])],[]⟩:=(ez.of ⟨by intro m;simp[ae],by intro m;simp[ae]⟩ (by simp[aH,az,aM,ae]) (by simp[aH,az,aM,ae]));refine CallDo.ob (aiE ⟨[(.obj 101,[bL (l.map Bd.e)]),(.obj 102,[aj v])],[]⟩ d l.length 196 e [.ptr (.obj 101) 0,.ptr (.obj 102) 0] (by simp[aM]) Ψ (fun i=>match l[i]? with|some b=>decide (v<=b.v)|none=>false) fun i hi=>?_) d aX aX (by simp[aM]) ?_
 ·obtain⟨b,a⟩:∃b,l[i]? =some b:=⟨_,cl hi⟩;simp only[a];exact aiK l v i b a
 rintro r f ⟨rfl,rfl⟩;refine⟨Same.refl _,?_⟩;unfold ox;generalize nE _ 0 l.length=i;cases a:l[i]? with
 |none=>
  have c:¬i<l.length:=by simpa using a
  simp[cL,c];exact cr
 |some b=>
  have c:i<l.length:=(fH.1 a).1;simp[cL,a,c];((repeat' first|refine al ?_|simp[a]|((first|apply ct|apply cz|apply cy)<;>intro h<;>try simp at h))<;>(try exact c3));all_goals simp[bZ,ba,be,a1]
  all_goals simp_all
def tP(l:List Bd)(v:Int):bd T:=if ox l v<0 then none else(l[(ox l v).toNat]?).map (·.t)
def Vk(l:List Bd)(v:Int):ox l v<l.length/\ -1<=ox l v:=by
 unfold ox;simp only;split
 ·rename_i b a;have:=(fH.1 a).1;split<;>omega
 ·omega
def VN(l:List Bd)(v:Int)(e:l.length<=1000000)(o:bd T)(ar:o=tP l v):bG au 138 [aj v,.ptr (.obj 201) 0] ⟨[(.obj 201,[bL (l.map Bd.e)])],[]⟩ fun r f=>r= .tuple [(o.getD .nil).e,.bool o.isSome]/\f=⟨[(.obj 201,[bL (l.map Bd.e)])],[]⟩:=by
 have c:ez ⟨[(.obj 201,[bL (l.map Bd.e)])],[]⟩:=(ez.of ⟨by intro m;simp[ae],by intro m;simp[ae]⟩ (by simp[aH,az,aM,ae]) (by simp[aH,az,aM,ae]));have i:=(Vk l v).1;unfold tP at ar;refine bG.mk mixed a6 Tryz.func138 anU Ψ c.obj fun j g=>?_;unfold SA;simp;(with_reducible repeat' first|((first|apply ct|apply cz|apply cy)<;>intro h<;>try simp at h)|refine al ?_|refine aO (vl l v e) ?_|refine aP (vl l v e) ?_|simp)
 ·obtain⟨b,d⟩:∃b,l[(ox l v).toNat]? =some b:=⟨_,cl Ω⟩;have a:o=some b.t:=by rw[ar,if_neg Ω,d];rfl
  simp[d];(with_reducible repeat' first|((first|apply ct|apply cz|apply cy)<;>intro h<;>try simp at h)|refine al ?_|simp[d]);refine c5.at _ (.inl rfl) c (Same.refl _) aX aX ?_;simp[dc,ba,be,a1];simp[a]
 ·have a:o=none:=by rw[ar,if_pos h]
  refine c5.at _ (.inl rfl) c (Same.refl _) aX aX ?_;simp[dc,ba,be,a1];simp[a]
def ajh(s:cR)(c:ez s)(g:Nat)(dH:List af)(aw:aH (aM s) dH)(dy:cf dH=dH)(f:Int->Int)(o:∀v,-1<=f v)(t:T)(j:∀v,t.occ v=true->bG au g (aj v::dH) s fun r e=>r=aj (f v)/\e=s):
  bG au 192 [t.e,.func g dH] s fun r e=>r=aj (mn f t)/\e=s:=by
 have d:∀m,ae (.loc m) s.b=none:=c.obj.1;have hu:∀m cs,cJ (.loc m) cs s.b=s.b++[(.loc m,cs)]:=fun m cs=>kO (d m);have ar:∀m,aB.loc m∉cK s:=kJ c.obj;induction t with
 |pair a b q p=>
  have w:=JU f o a;have u:=JU f o b;refine bG.mk mixed a6 Tryz.func192 zR Ψ c.obj fun l k=>?_;unfold w3;simp[hu,ar,c6,d,dy];(repeat' first|refine al ?_|simp[hu,ar,c6,d]);refine CallDo.ob (q fun v i=>j v (by simp[T.occ,i])) c aX aX (by simp[aw]) ?_;rintro r e ⟨rfl,rfl⟩;refine⟨Same.refl _,?_⟩;simp[hH,jz,cL,d];(with_reducible repeat' first|((first|apply ct|apply cz|apply cy)<;>intro h<;>try simp at h)|refine al ?_|simp[hu,ar,c6,d])
  ·refine c5.at e (.inl rfl) c (Same.refl _) aX aX ?_;simp[dc,ba,be,a1];simp[mn];omega
  ·rw[dy];refine CallDo.ob (p fun v i=>j v (by simp[T.occ,i])) c aX aX (by simp[aw]) ?_;rintro r s2 ⟨rfl,rfl⟩;refine⟨Same.refl _,?_⟩;simp[hH,jz,cL,d];(with_reducible repeat' first|((first|apply ct|apply cz|apply cy)<;>intro h<;>try simp at h)|refine al ?_|simp[hu,ar,c6,d]);refine c5.at s2 (.inl rfl) c (Same.refl _) aX aX ?_;simp[dc,ba,be,a1];simp[mn];omega
 |var n=>refine bG.mk mixed a6 Tryz.func192 zR Ψ c.obj fun l k=>?_;unfold w3;simp[hu,ar,c6,d,dy];(repeat' first|refine al ?_|simp[hu,ar,c6,d]);refine CallDo.ob (j n (by simp[T.occ])) c aX aX (by simp[aw]) ?_;rintro r e ⟨rfl,rfl⟩;refine⟨Same.refl _,?_⟩;simp[hH,jz,cL,d];refine c5.at e (.inl rfl) c (Same.refl _) aX aX ?_;simp[dc,ba,be,a1];simp[mn]
 |_=>refine bG.mk mixed a6 Tryz.func192 zR Ψ c.obj fun l k=>?_;unfold w3;simp[hu,ar,c6,d,dy];(repeat' first|refine al ?_|simp[hu,ar,c6,d]);refine c5.at s (.inl rfl) c (Same.refl _) aX aX ?_;simp[dc,ba,be,a1];simp[mn]
def aiW(s:cR)(d:ez s)(g:Nat)(dH:List af)(aw:aH (aM s) dH)(dy:cf dH=dH)(f:Int->bd T)(t:T)(k:∀v,t.occ v=true->bG au g (aj v::dH) s fun r i=>r= .tuple [((f v).getD .nil).e,.bool (f v).isSome]/\i=s):
  bG au 194 [t.e,.func g dH] s fun r i=>r=(t.sub f).e/\i=s:=by
 have c:∀m,ae (.loc m) s.b=none:=d.obj.1;have l:∀m,ae (.loc m) s.e=none:=d.obj.2;have hu:∀m cs,cJ (.loc m) cs s.b=s.b++[(.loc m,cs)]:=fun m cs=>kO (c m);have ar:∀m,aB.loc m∉cK s:=kJ d.obj;have e:∀m p r,cJ (.loc m) p (s.b++r)=s.b++cJ (.loc m) p r:=fun m p r=>CV (c m);induction t with
 |pair a b w u=>refine bG.mk mixed a6 Tryz.func194 Ck Ψ d.obj fun q o=>?_;unfold yR;simp[hu,ar,c6,c,l,dy,e];(repeat' first|refine al ?_|simp[hu,ar,c6,c,l,e]);refine hK.ob (w fun v j=>k v (by simp[T.occ,j])) d d (Same.refl _) aX aX (by simp[aw]) ?_;simp[hH,jz,cL,c,dy];refine hK.ob (u fun v j=>k v (by simp[T.occ,j])) d d (Same.refl _) aX aX (by simp[aw]) ?_;simp[hH,jz,cL,c,dy];(repeat' first|refine al ?_|refine aO (Kf _ _) ?_|refine aP (Kf _ _) ?_|simp);refine c5.at s (.inl rfl) d (Same.refl _) aX aX ?_;simp[dc,ba,be,a1,c6,c];simp[T.sub]
 |var n=>
  refine bG.mk mixed a6 Tryz.func194 Ck Ψ d.obj fun q o=>?_;unfold yR;simp[hu,ar,c6,c,dy,e];(repeat' first|refine al ?_|simp[hu,ar,c6,c,e]);refine CallDo.ob (k n (by simp[T.occ])) d aX aX (by simp[aw]) ?_;rintro r i ⟨rfl,rfl⟩;refine⟨Same.refl _,?_⟩;simp[hH,jz,cL,c,hu,ar,c6];(with_reducible repeat' first|((first|apply ct|apply cz|apply cy)<;>intro h<;>try simp at h)|refine al ?_|refine aO (vj _) ?_|refine aP (vj _) ?_|simp[hu,ar,c6,c,e]);all_goals refine c5.at i (.inl rfl) d (Same.refl _) aX aX ?_
  all_goals simp[dc,ba,be,a1,c6,c]
  all_goals cases x:f n<;>simp_all[T.sub]
 |_=>refine bG.mk mixed a6 Tryz.func194 Ck Ψ d.obj fun q o=>?_;unfold yR;simp[hu,ar,c6,c,dy,e];(with_reducible repeat' first|((first|apply ct|apply cz|apply cy)<;>intro h<;>try simp at h)|refine al ?_|simp[hu,ar,c6,c,e]);refine c5.at s (.inl rfl) d (Same.refl _) aX aX ?_;simp[dc,ba,be,a1,c6,c];simp[T.sub]
def pE(l:List Bd):cR:=⟨[(.obj 201,[bL (l.map Bd.e)])],[]⟩
def sQ(l:List Bd):cR:=⟨[(.obj 201,[bL (l.map Bd.e)]),(.obj 202,[.func 138 [.ptr (.obj 201) 0]])],[]⟩
def Da(l:List Bd):ez (pE l):=by unfold pE;exact(ez.of ⟨by intro m;simp[ae],by intro m;simp[ae]⟩ (by simp[aH,az,aM,ae]) (by simp[aH,az,aM,ae]))
def Ks(l:List Bd):ez (sQ l):=by unfold sQ;exact(ez.of ⟨by intro m;simp[ae],by intro m;simp[ae]⟩ (by simp[aH,az,aM,ae]) (by simp[aH,az,aM,ae]))
def vP(l:List Bd)(v:Int):Int:=match tP l v with|some x=>gr x.tm 5000|none=>1
def aiw(l:List Bd)(v:Int): -1<=vP l v:=by
 unfold vP;split
 ·rename_i x _;rcases E1 x.tm 5000 with h|h<;>omega
 ·omega
def acP(t:T):bU au 131 [t.e,aj 5000] (aj (gr t.tm 5000)):=by have:=acO t.tm.sz t.tm (dO _) 5000 Ω;rwa[mB]at this
def aje(l:List Bd)(v:Int)(c:l.length<=1000000):bG au 193 [aj v,.ptr (.obj 202) 0] (sQ l) fun r b=>r=aj (vP l v)/\b=sQ l:=by
 have a:=Ks l;unfold sQ at a⊢;refine bG.mk mixed a6 Tryz.func193 anW Ψ a.obj fun f d=>?_;unfold SC;simp;refine CallDo.ob (VN l v c _ rfl) (Da l) aX aX (by simp[aM]) ?_;rintro r b ⟨rfl,rfl⟩;refine⟨Same.refl _,?_⟩;simp[cL];(with_reducible repeat' first|((first|apply ct|apply cz|apply cy)<;>intro h<;>try simp at h)|refine al ?_|refine aO (acP _) ?_|refine aP (acP _) ?_|simp);all_goals refine c5.at _ (.inl rfl) a (Same.refl _) aX aX ?_
 all_goals simp[dc,ba,be,a1]
 all_goals unfold vP
 all_goals cases e:tP l v<;>simp_all
def Fl(l:List Bd)(t:T):T:=t.sub (tP l)
def u9(l:List Bd)(t:T):Bool:=decide (mn (vP l) t<=5000)
def ajd(l:List Bd)(t:T)(c:l.length<=1000000):bG au 137 [t.e,.func 138 [.ptr (.obj 201) 0]] (pE l) fun r b=>r= .tuple [(if u9 l t then Fl l t else .nil).e,.bool (u9 l t)]/\b=pE l:=by
 have a:=Da l;unfold pE at a⊢;refine bG.mk mixed a6 Tryz.func137 anV Ψ a.obj fun f e=>?_;unfold SB;simp;refine CallDo.ob (ajh (sQ l) (Ks l) 193 [.ptr (.obj 202) 0] (by simp[aM,sQ]) Ψ (vP l) (aiw l) t fun v d=>aje l v c) (Ks l) (by unfold sQ;exact aX) (by unfold sQ;exact aX) (by simp[aM,sQ]) ?_;rintro r b ⟨rfl,rfl⟩;refine⟨Same.refl _,?_⟩;unfold sQ;simp[cL];(with_reducible repeat' first|((first|apply ct|apply cz|apply cy)<;>intro h<;>try simp at h)|refine al ?_|simp)
 ·refine c5.at _ (.inl rfl) a (Same.refl _) aX aX ?_;simp[dc,ba,be,a1];have:u9 l t=false:=by simp[u9];omega
  simp[this]
 ·refine CallDo.ob (aiW (pE l) (Da l) 138 [.ptr (.obj 201) 0] (by simp[aM,pE]) Ψ (tP l) t fun v d=>VN l v c _ rfl) (Da l) (by unfold pE;exact aX) (by unfold pE;exact aX) (by simp[aM,pE]) ?_;rintro r b ⟨rfl,rfl⟩;refine⟨Same.refl _,?_⟩;unfold pE;simp[cL];refine c5.at _ (.inl rfl) a (Same.refl _) aX aX ?_;simp[dc,ba,be,a1];have:u9 l t=true:=by simp[u9];omega
  simp[this,Fl]
def asS(l:List Bd)(t:T)(a:l.length<=1000000):bU au 69 [bL (l.map Bd.e),t.e] (.tuple [(if u9 l t then Fl l t else .nil).e,.bool (u9 l t)]):=by refine bI a6 Tryz.func69 anT fun c=>?_;unfold Sz;simp;refine CallDo.ob (ajd l t a) (Da l) (by unfold pE;exact aX) (by unfold pE;exact aX) (by simp[aM,pE]) ?_;rintro r b ⟨rfl,rfl⟩;refine⟨Same.refl _,?_⟩;unfold pE;simp[cL];simp[bZ,ba,be,a1]
def Ql(p:Nat->Bool)(n:Nat)(hm:∀k bs,k<=bs->bs<n->p k=true->p bs=true):∀(m i j:Nat),j-i<=m->i<=j->j<=n->(∀k,k<i->p k=false)->(∀k,j<=k->k<n->p k=true)->
  (i<=nE p i j/\nE p i j<=j)/\(∀k,k<nE p i j->p k=false)/\(∀k,nE p i j<=k->k<n->p k=true)
 |m,i,j,l,g,f,J,U=>by
  rw[nE];split
  ·rename_i h;obtain⟨m,rfl⟩:∃e,m=e+1:=⟨m-1,Ω⟩;split
   ·rename_i a;have:=Ql p n hm m i ((i+j)/2) Ω Ω Ω J (fun k c d=>hm _ k c d a);exact⟨⟨this.1.1,Ω⟩,this.2⟩
   ·rename_i a;have:=Ql p n hm m ((i+j)/2+1) j Ω Ω f (fun k c=>by
     by_cases b:p k=true
     ·exact absurd (hm k ((i+j)/2) Ω Ω b) a
     ·simpa using b) U
    exact⟨⟨Ω,this.1.2⟩,this.2⟩
  ·obtain rfl:i=j:=Ω
   exact⟨⟨dO _,dO _⟩,J,U⟩
def Pk{l:List Bd}(G:jB l)(v:Int):tP l v=dG l v:=by
 have f:∀(i j:Nat) (x y:Bd),i<j->l[i]? =some x->l[j]? =some y->x.v<y.v:=by intro i j x y B K L;obtain⟨J,rfl⟩:=fH.1 K;obtain⟨U,rfl⟩:=fH.1 L;exact q2.1 G i j J U B
 obtain⟨p,q⟩:∃p:Nat->Bool,p=(fun i=>match l[i]? with|some b=>decide (v<=b.v)|none=>false):=⟨_,rfl⟩;have d:∀i b,l[i]? =some b->p i=decide (v<=b.v):=fun i b a=>by rw[q];simp[a]
 have hm:∀k bs,k<=bs->bs<l.length->p k=true->p bs=true:=by
  intro k bs c E h;have s:l[k]? =some l[k]:=cl Ω;have u:l[bs]? =some l[bs]:=cl E;rw[d k _ s]at h;rw[d bs _ u];simp only[gy]at h⊢;rcases Nat.lt_or_eq_of_le c with A|rfl
  ·have:=f k bs _ _ A s u;omega
  ·exact h
 obtain⟨⟨_,hle⟩,hbef,haft⟩:=Ql p l.length hm l.length 0 l.length Ω Ω (dO _) (fun k c=>Ω) (fun k J U=>Ω);have n:ox l v=(match l[nE p 0 l.length]? with|some b=>if b.v=v then((nE p 0 l.length:Nat):Int)else-1|none=> -1):=by rw[q];rfl
 generalize nE p 0 l.length=r at hle hbef haft n;by_cases hex:∃(k:Nat) (b:Bd),l[k]? =some b/\b.v=v
 ·obtain⟨k,b,a,w⟩:=hex;have o:k<l.length:=(fH.1 a).1;have F:r<=k:=by
   rcases Nat.lt_or_ge k r with h|h
   ·have:=hbef k h;rw[d k b a]at this;simp at this;omega
   ·exact h
  have t:l[r]? =some l[r]:=cl Ω;have z:=haft r (dO _) Ω;rw[d r _ t]at z;simp only[gy]at z;have g:r=k:=by
   rcases Nat.lt_or_eq_of_le F with h|h
   ·have:=f r k _ _ h t a;omega
   ·exact h
  subst g;have m:ox l v=r:=by rw[n,a];simp[w]
  have J:tP l v=some b.t:=by unfold tP;rw[m,if_neg Ω];simp[a]
  have U:l.find? (fun b=>b.v==v)=some b:=by
   rw[List.find?_eq_some_iff_getElem];refine⟨by simp[w],r,o,?_,fun j H=>?_⟩
   ·rw[cl o]at a;simpa using a
   ·have:=f j r l[j] b H (cl Ω) a;simp;omega
  rw[J];simp[dG,U]
 ·have U:l.find? (fun b=>b.v==v)=none:=by rw[List.find?_eq_none];intro b a;obtain⟨k,c,rfl⟩:=List.mem_iff_getElem.1 a;simp;intro e;exact hex ⟨k,l[k],cl c,e⟩
  have m:ox l v= -1:=by
   rw[n];split
   ·rename_i b a;rw[if_neg (fun e=>hex ⟨r,b,a,e⟩)]
   ·rfl
  unfold tP;rw[m];simp[dG,U]
def Vl{l:List Bd}(a:jB l)(v:Int):ox l v<0↔dG l v=none:=by
 rw[<-Pk a v];unfold tP;have J:=Vk l v;by_cases h:ox l v<0
 ·simp[h]
 ·simp only[h,if_false,false_iff];intro e;rw[Option.map_eq_none_iff,List.getElem?_eq_none_iff]at e;omega
def A9(s:List Bd):Prop:= ∀b∈s,b.t.fit=true
def aiv{l:List Bd}(a:jB l)(h:A9 l)(v:Int):vP l v=(cG l v).size:=by
 unfold vP cG;rw[Pk a];cases b:dG l v with
 |none=>simp[T.size]
 |some x=>have:=h _ (kQ b);simp only[T.fit,cQ,gy]at this;simp only[lI];rw[IU,if_pos ⟨this.1,Ω⟩]
def aqW{l:List Bd}(e:jB l)(h:A9 l)(t:T):mn (vP l) t=cut (t.ap (cG l)).size:=by
 induction t with
 |var n=>simp only[mn,aiv e h,T.ap];rfl
 |pair a b d c=>have f:=T.size_pos (b.ap (cG l));simp only[mn,d,c,T.ap,T.size];unfold cut;(repeat' split)<;>omega
 |_=>simp[mn,T.ap,T.size,cut]
def apv{l:List Bd}(a:jB l)(h:A9 l)(t:T):u9 l t=decide ((t.ap (cG l)).size<=5000):=by unfold u9;rw[aqW a h];unfold cut;split<;>simp<;>omega
def apw{l:List Bd}(a:jB l)(t:T):Fl l t=t.ap (cG l):=by unfold Fl;rw[abS];exact vC fun v _=>by rw[Pk a];rfl
def Kg(l:List Bd)(t:T)(b:l.length<=1000000)(a:jB l)(h:A9 l):bU au 69 [bL (l.map Bd.e),t.e] (.tuple [(if(t.ap (cG l)).size<=5000 then t.ap (cG l)else .nil).e,.bool (decide ((t.ap (cG l)).size<=5000))]):=by have:=asS l t b;rw[apv a h,apw a]at this;simpa using this
def Yn(l:List (Int×T)):List af:=k0 (l.map fun x=>(x.1,x.2.e))
@[simp]def awm:Yn []=k0 []:=rfl
@[simp]def awW(l:List (Int×T)):gV (Yn l)=false:=rfl
end
end Go.Proofs.YtahlgcidhnjlbaaGreat
namespace Go.Proofs
section
open Go.Shelf
def Tryz.lays191_ren:Go.Shelf.Ren:=⟨fun|191=>191|189=>220|125=>213|257=>250|128=>236|129=>237|294=>261|295=>262|296=>263|297=>264|298=>265|299=>266|216=>267|300=>268|301=>269|328=>272|329=>273|330=>274|331=>275|332=>276|215=>277|343=>278|n=>n,fun|28=>76|0=>0|3=>3|46=>192|51=>206|53=>208|4=>4|183=>230|182=>229|131=>214|5=>5|9=>9|218=>238|222=>226|228=>241|229=>236|n=>n,fun|n=>n⟩
def Tryz.lays191:Go.Proofs.Lays.n191 au Tryz.lays191_ren:={
 mixed:=bi
 f125:=Tryz.func213.trans (fy some bi)
 f128:=Tryz.func236.trans (fy some bi)
 f129:=Tryz.func237.trans (fy some bi)
 f189:=Tryz.func220.trans (fy some bi)
 f191:=Tryz.func191.trans (fy some bi)
 f215:=Tryz.func277.trans (fy some bi)
 f216:=Tryz.func267.trans (fy some bi)
 f257:=Tryz.func250.trans (fy some bi)
 f294:=Tryz.func261.trans (fy some bi)
 f295:=Tryz.func262.trans (fy some bi)
 f296:=Tryz.func263.trans (fy some bi)
 f297:=Tryz.func264.trans (fy some bi)
 f298:=Tryz.func265.trans (fy some bi)
 f299:=Tryz.func266.trans (fy some bi)
 f300:=Tryz.func268.trans (fy some bi)
 f301:=Tryz.func269.trans (fy some bi)
 f328:=Tryz.func272.trans (fy some bi)
 f329:=Tryz.func273.trans (fy some bi)
 f330:=Tryz.func274.trans (fy some bi)
 f331:=Tryz.func275.trans (fy some bi)
 f332:=Tryz.func276.trans (fy some bi)
 f343:=Tryz.func278.trans (fy some bi)
 t0:=Tryz.underlying0
 a0:=Tryz.isAgg0
 z0:=Tryz.sizeOf0
 v0:=Tryz.zeroValue0
 t3:=Tryz.underlying3
 a3:=Tryz.isAgg3
 z3:=Tryz.sizeOf3
 v3:=Tryz.zeroValue3
 t4:=Tryz.underlying4
 a4:=Tryz.isAgg4
 z4:=Tryz.sizeOf4
 v4:=Tryz.zeroValue4
 t5:=Tryz.underlying5
 a5:=Tryz.isAgg5
 z5:=Tryz.sizeOf5
 v5:=Tryz.zeroValue5
 t9:=Tryz.underlying9
 a9:=Tryz.isAgg9
 z9:=Tryz.sizeOf9
 v9:=Tryz.zeroValue9
 t28:=Tryz.underlying76
 a28:=Tryz.isAgg76
 z28:=Tryz.sizeOf76
 v28:=Tryz.zeroValue76
 t46:=Tryz.underlying192
 a46:=Tryz.isAgg192
 z46:=Tryz.sizeOf192
 v46:=Tryz.zeroValue192
 t51:=Tryz.underlying206
 a51:=Tryz.isAgg206
 z51:=Tryz.sizeOf206
 v51:=Tryz.zeroValue206
 t53:=Tryz.underlying208
 a53:=Tryz.isAgg208
 z53:=Tryz.sizeOf208
 v53:=Tryz.zeroValue208
 t131:=Tryz.underlying214
 a131:=Tryz.isAgg214
 z131:=Tryz.sizeOf214
 v131:=Tryz.zeroValue214
 t182:=Tryz.underlying229
 a182:=Tryz.isAgg229
 z182:=Tryz.sizeOf229
 v182:=Tryz.zeroValue229
 t183:=Tryz.underlying230
 a183:=Tryz.isAgg230
 z183:=Tryz.sizeOf230
 v183:=Tryz.zeroValue230
 t218:=Tryz.underlying238
 a218:=Tryz.isAgg238
 z218:=Tryz.sizeOf238
 v218:=Tryz.zeroValue238
 t222:=Tryz.underlying226
 a222:=Tryz.isAgg226
 z222:=Tryz.sizeOf226
 v222:=Tryz.zeroValue226
 t228:=Tryz.underlying241
 a228:=Tryz.isAgg241
 z228:=Tryz.sizeOf241
 v228:=Tryz.zeroValue241
 t229:=Tryz.underlying236
 a229:=Tryz.isAgg236
 z229:=Tryz.sizeOf236
 v229:=Tryz.zeroValue236}
end
end Go.Proofs

namespace Go.Proofs.YtahlgcidhnjlbaaGreat
section
open Go Go.Pv
def e2(xs:List Int):List af:=xs.map (af.int .i64)
def aa9{w:World}{ν:bc}:∀{xs:List Int} {us:List Value},dw w ν 1 (e2 xs) us->us=xs.map (Value.int .i64)
 |[],us,h=>by simpa[e2,dw]using h
 |x::xs,us,h=>by simp only[e2,gY,dw]at h;obtain⟨u,a,rfl,⟨J,_,_⟩,U⟩:=h;simp only[aU]at J;subst J;rw[aa9 U];rfl
def Xk(w:World)(ν:bc):∀xs:List Int,dw w ν 1 (e2 xs) (xs.map (Value.int .i64))
 |[]=>by simp[e2,dw]
 |x::xs=>by simp only[e2,gY,dw];exact⟨.int .i64 x,_,rfl,⟨by simp[aU],rfl,by intro c aw;simp[pw]at aw;subst aw;rfl⟩,Xk w ν xs⟩
def oi(K:Nat)(xs:List Int):cR:=⟨[],[(.obj K,⟨xs.length,3,1,some (e2 xs)⟩)]⟩
def uV(S:aB->Prop)(xs:List Int):aH S (e2 xs):=by
 induction xs with
 |nil=>simp[e2,aH]
 |cons x r a=>simp only[e2,gY,aH,az];exact⟨trivial,a⟩
def Kv(K:Nat)(xs:List Int):ez (oi K xs):=by unfold oi;refine ez.of ⟨by intro m;simp[ae],by intro m;simp[ae]⟩ Ψ ?_;intro x a ys b;simp at a;subst a;simp at b;subst b;exact uV _ xs
def sD(xs:List Int):List Int:=xs.mergeSort fun x y=>decide (x<=y)
def abH(xs:List Int):(sD xs).length=xs.length:=List.length_mergeSort xs
def ajm(K:Nat)(xs:List Int)(av:xs.length<=1000000):bG au 191 [.row 1 (.obj K) xs.length] (oi K xs) fun r O=>r= .tuple []/\O=oi K (sD xs):=by
 refine bG.sem (Kv K xs).obj fun w ν bm F h=>?_;refine .inl ⟨⟨Tryz.f191,Tryz.func191,by kernel_rfl,by kernel_rfl⟩,?_⟩;have c:=h.slot 0;simp only[jc,Pv.get,if_true]at c;have m:ae (.obj K) (oi K xs).e=some ⟨xs.length,3,1,some (e2 xs)⟩:=by simp[oi,ae]
 obtain⟨v,us,y,p,bX,H⟩:=h.good.own (.obj K) _ m;obtain⟨Y,E,W⟩:=H _ rfl;have A:=aa9 E;subst A;simp only[aU]at c;obtain⟨⟨S,R,z⟩,_,n',u,d,aC,N⟩:=c;rw[y]at d;simp only[dU,jo]at d;obtain⟨rfl,rfl⟩:=d;have t:=N rfl;have f:bm= #[v]:=by
  have J:bm.size=1:=by simpa using F
  apply Array.ext (by simpa using J);intro i U s;simp at s;subst s;rw[<-t];simp[Array.getD,J]
 have L:v≠ .slice none 0 0:=by rw[<-t,z];simp
 obtain⟨g,cap,rfl,_,B,X,P,D8,V⟩:=Lib.holds_of_ownsRow p L;have aw:=Any.sort_Ints Tryz.lays191 g 0 cap xs w V B Ω;subst f;refine aw.mono ?_;rintro e w' ⟨rfl,n,os,rfl⟩;have b:=abH xs;have l:=Lib.ownsRow_putRow (q:=n) (k:=xs.length) (ys:=sD xs) p b (dO _);rw[iv Ω]at l;obtain⟨M,Z,_⟩:=h.setRowM (w':=Sort.putRow (Value.int .i64) (Sort.ahead w n) g 0 (sD xs).toArray) m rfl y (bl:=g) rfl (v':= .slice (some ⟨g,0,none⟩) xs.length cap) rfl (xs':=e2 (sD xs)) (us:=(sD xs).map (Value.int .i64)) (.inl ⟨by simp[e2,b],rfl⟩) rfl rfl rfl
  (fun j Q=>by simp[Sort.putRow,Sort.mapBlock,Sort.ahead,Array.getElem?_modify,Ne.symm Q]) (by simp[Sort.putRow,Sort.mapBlock,Sort.ahead]) (by simpa[e2,b]using l) (Xk _ _ _)
 have G:=M.grown (w':=Sort.grow (Sort.putRow (Value.int .i64) (Sort.ahead w n) g 0 (sD xs).toArray) os) ⟨rfl,rfl,rfl,Ψ,fun k a _=>Sort.heap_grow_old _ _ a⟩;refine⟨_,_,_,_,.tuple [],oi K (sD xs),rfl,G,by simp[aU,c7],by simp[oi,lX],?_,?_,?_,(Kv K _).obj,by simp[az,aH],rfl,rfl⟩
 ·simp[oi,lX,aM,ae]
 ·intro k cs a;simp[oi,ae]at a
 ·intro k o a;have hm:=uY a;simp[oi]at hm;obtain⟨rfl,rfl⟩:=hm;refine⟨by simp[oi,ae,cJ,e2,b],.inr (by simp[a]),fun ys x=>?_⟩;simp at x;subst x;exact uV _ _
def pK(l:List Int):List af:=k0 (l.map fun x=>(x,.bool true))
def n1(S:aB->Prop)(l:List Int):aH S (pK l):=by
 have:∀l:List Int,aH S (flat (l.map fun x=>(x,.bool true))):=by
  intro l;induction l with
  |nil=>simp[flat,aH]
  |cons x r a=>simp[flat,aH,a,az]
 simp[pK,k0,aH,this,az]
def KJ(v:Int)(l:List Int):List Int:=if v∈l then l else l++[v]
def RC(k:Int):∀l:List Int,qk k (.bool true) (l.map fun x=>(x,af.bool true))=if k∈l then some (l.map fun x=>(x,af.bool true))else none
 |[]=>rfl
 |i::r=>by
  by_cases h:k=i
  ·simp[qk,h]
  ·by_cases U:k∈r<;>simp[qk,h,U,RC k r]
@[simp]def awC(k:Int)(l:List Int):qN .i (aj k) (.bool true) (pK l)=some (pK (KJ k l)):=by
 simp only[pK,YW,Gt,RC,KJ];split<;>rename_i h
 ·split at h
  ·simp at h;subst h;simp[*]
  ·cases h
 ·split at h
  ·cases h
  ·simp[*]
@[simp]def atP:pK []=k0 []:=rfl
@[simp]def awU(l:List Int):gV (pK l)=false:=rfl
@[simp]def aw2(m:aB)(l:List Int):z6 m (pK l)=some (cc l.length [] m):=by simp[pK]
def amw(f:aB->bd (List af))(gk mk:aB)(n:Nat)(seen:List Nat)(b:Nat)(l:List Int)(x:Int)(hi:f gk=some (cc n (seen++[b]) mk))(hm:f mk=some (pK l))(c:n=l.length)(a:l[b]? =some x):qL f (.ptr gk 0)=some (True,.tuple [aj x,.bool true]):=by rw[Yy f gk mk n seen b _ hi hm (by simpa using c)];simp[a]
def afs{st:bp}{d:Nat}{K:bp->Prop}{gk mk:aB}{n:Nat}{seen:List Nat}{l:List Int}(hi:ae gk st.b=some (cc n seen mk))(hm:ae mk st.b=some (pK l))(g:n=l.length)
  (J:(∀b,b<l.length->b∈seen)->K {st with t:=Pv.put d (.tuple [.bool false]) st.t}) (U:∀b x,l[b]? =some x->b∉seen->K {st with t:=Pv.put d (.tuple [.bool true,aj x,.bool true]) st.t,b:=cJ gk (cc n (seen++[b]) mk) st.b}):
  uA st d (.ptr gk 0) K:=by
 refine UF hi hm (by simpa using g) (fun h=>J fun b a=>h b Ω) (fun b k v a f=>?_);simp only[List.getElem?_map,hq]at a;obtain⟨x,e,c⟩:=a;simp only[jo]at c;obtain⟨rfl,rfl⟩:=c;exact U b x e f
def _root_.Go.Pv.T.fold{α:Type}(f:Int->α->α):T->α->α
 | .var n,a=>f n a
 | .pair x y,a=>y.fold f (x.fold f a)
 |_,a=>a
def VB{α:Type}(S:α->cR)(dF:∀a,ez (S a))(e7:∀a b,Same (S a) (S b))(g:Nat)(dH:List af)(aw:∀a,aH (aM (S a)) dH)(dy:cf dH=dH)(f:Int->α->α)(l:∀v a,bG au g (aj v::dH) (S a) fun r e=>r= .tuple []/\e=S (f v a))(t:T):
  ∀a,bG au 134 [t.e,.func g dH] (S a) fun r e=>r= .tuple []/\e=S (t.fold f a):=by
 have c:∀a m,ae (.loc m) (S a).b=none:=fun a=>(dF a).obj.1;have hu:∀a m cs,cJ (.loc m) cs (S a).b=(S a).b++[(.loc m,cs)]:=fun a m cs=>kO (c a m);have ar:∀a m,aB.loc m∉cK (S a):=fun a=>kJ (dF a).obj;induction t with
 |pair x y k j=>intro a;have d:=dF a;refine bG.mk mixed a6 Tryz.func134 Cj Ψ d.obj fun i h=>?_;unfold yQ;simp[hu,ar,c6,c,dy];(repeat' first|refine al ?_|simp[hu,ar,c6,c]);refine CallDo.ob (k a) d aX aX (by simp[aw]) ?_;rintro r e ⟨rfl,rfl⟩;refine⟨e7 _ _,?_⟩;simp[hH,jz,cL,c];(repeat' first|refine al ?_|simp[hu,ar,c6,c]);rw[dy];refine CallDo.ob (j (x.fold f a)) (dF (x.fold f a)) aX aX (by simp[aw]) ?_;rintro r e ⟨rfl,rfl⟩;refine⟨e7 _ _,?_⟩;simp[hH,jz,cL,c];refine c5.at (S (y.fold f (x.fold f a))) (.inr rfl) (dF _) (e7 _ _) aX aX ?_;simp[dc,ba,be,a1];simp[T.fold]
 |var n=>intro a;have d:=dF a;refine bG.mk mixed a6 Tryz.func134 Cj Ψ d.obj fun i h=>?_;unfold yQ;simp[hu,ar,c6,c,dy];(repeat' first|refine al ?_|simp[hu,ar,c6,c]);refine CallDo.ob (l n a) d aX aX (by simp[aw]) ?_;rintro r e ⟨rfl,rfl⟩;refine⟨e7 _ _,?_⟩;simp[hH,jz,cL,c,c6];refine c5.at (S (f n a)) (.inr rfl) (dF _) (e7 _ _) aX aX ?_;simp[dc,ba,be,a1];simp[T.fold]
 |_=>intro a;have d:=dF a;refine bG.mk mixed a6 Tryz.func134 Cj Ψ d.obj fun i h=>?_;unfold yQ;simp[hu,ar,c6,c,dy];(repeat' first|refine al ?_|simp[hu,ar,c6,c]);refine c5.at (S a) (.inr rfl) d (Same.refl _) aX aX ?_;simp[dc,ba,be,a1];simp[T.fold]
def vv(l:List Int):cR:=⟨[(.obj 304,pK l)],[]⟩
def Rm(l:List Int):ez (vv l):=by unfold vv;exact ez.of ⟨by intro m;simp[ae],by intro m;simp[ae]⟩ (by simp[n1,aH,az,aM,ae]) Ψ
def KX:C:=(aa [cZ 1 0,bz 2 false] (.seq (.seq (.fz false 1 (.region [ay 6 1 1,c0 7 158 6,cO 8 7])) (aW 8 (aa [bz 2 false] .ret) .skip)) (.seq (aa [ay 9 1 1,cw 10 9,bP 11 0] (gw 12 11 10 (.seq (.block 1 (aa [ck 13 5 9 11,bk 14 5 13,dI 4 ku,bV 5 4 14] (aa [dt (.alloc 5 (some 731) (.bool false)),dt (.store 1 (.t 5) (.c (.bool true)))] (aa [hp 15 1 4 4,bk 16 4 15,cd 17 (.mkf 159 [.t 1,.t 5]),cb 18 134 16 17] (aa [ay 19 1 5,cO 20 19,I 21 20,ax 21 false (hp 22 1 4 4),ax 21 false (aF 23 0 1 22),ax 21 false (ay 24 1 23),ax 21 false (aV 25 .eql 24 1),cg 21 false 26 25,ax 26 true (hp 27 1 4 4),ax 26 true (aF 28 1 1 27),ax 26 true (ay 29 1 28),ax 26 true (aF 30 0 1 4),ax 26 true (ay 31 1 30),ax 26 true (bu 32 .geq 29 31),ax 21 false (eg 33 26 32),ds 34 21 33] (aW 34 (aa [bz 2 false] .ret) .skip)))))) (.region [aV 35 .add 11 1,I 11 35])))) (aa [bz 2 true] .ret))))
def KY:C:=(aa [ay 4 1 1,I 5 0,cb 6 139 4 5,aV 7 .geq 6 0] (aW 7 (.region [dt (.store 1 (.t 2) (.c (.bool false)))]) .skip))
def R2:C:=(aa [fw 4 5,bz 5 false] (.seq (aa [I 8 0,c0 9 86 8,cO 10 9,I 11 10,cg 11 false 12 1,ax 11 false (c0 13 86 12),ax 11 false (cO 14 13),ds 15 11 14] (aW 15 (aa [fw 4 5,bz 5 false] .ret) .skip)) (aa [I 17 1,c0 18 205 17,I 16 18,cV 19 0 16,cV 20 1 16,I 6 19,I 7 20] (aa [I 21 0,I 22 6,I 23 7,dT 24 186 [.t 21,.t 22,.t 23],cV 25 0 24,cV 26 1 24,I 4 25,I 5 26] .ret))))
def R7:C:=(aa [fw 4 5] (.seq (aa [I 8 0,c0 9 86 8,cO 10 9,I 11 10,cg 11 false 12 1,ax 11 false (c0 13 86 12),ax 11 false (cO 14 13),ds 15 11 14] (aW 15 (aa [fw 4 5] .ret) .skip)) (aa [fe 16 5 113 [],I 5 16] (.seq (aa [I 17 1,cw 18 17,bP 19 0] (gw 20 19 18 (.seq (.block 1 (aa [ck 21 5 17 19,bk 22 5 21,dI 7 ku,bV 5 7 22] (aa [I 23 0,aF 24 0 1 7,ay 25 1 24,cb 26 139 23 25,aV 27 .lss 26 0] (aW 27 (.drawn true 39 [I 28 5,aF 29 0 1 7,ay 30 1 29,hp 31 1 4 7,bk 32 4 31,c0 33 143 32,jn 34 ku [(0,1,(.t 30)),(1,4,(.t 33))],fe 35 5 113 [.t 34],h1 36 5 113 28 35,I 5 36]) .skip)))) (.region [aV 37 .add 19 1,I 19 37])))) (aa [I 38 5,I 4 38] .ret)))))
def K1:C:=(aa [fw 2 5] (aa [fe 6 5 113 [],I 3 6] (.seq (aa [I 7 0,cw 8 7,bP 9 0] (gw 10 9 8 (.seq (.block 1 (aa [ck 11 5 7 9,bk 12 5 11,dI 5 ku,bV 5 5 12] (.drawn true 24 [I 13 3,aF 14 0 1 5,ay 15 1 14,hp 16 1 4 5,bk 17 4 16,c0 18 143 17,jn 19 ku [(0,1,(.t 15)),(1,4,(.t 18))],fe 20 5 113 [.t 19],h1 21 5 113 13 20,I 3 21]))) (.region [aV 22 .add 9 1,I 9 22])))) (aa [I 23 3,I 2 23] .ret))))
def K3:C:=(aa [bz 4 false] (.seq (aa [I 6 0,cw 7 6,I 8 1,cw 9 8,bu 10 .neq 7 9] (aW 10 (aa [bz 4 false] .ret) .skip)) (.seq (aa [I 11 0,cw 12 11,bP 13 0] (gw 14 13 12 (.seq (.block 1 (aa [I 15 13,I 5 15] (.seq (.drawn true 42 [I 16 0,I 17 5,ck 18 5 16 17,aF 19 0 1 18,ay 20 1 19,I 21 1,I 22 5,ck 23 5 21 22,aF 24 0 1 23,ay 25 1 24,bu 26 .neq 20 25,I 27 26,cg 27 false 28 0,cg 27 false 29 5,ax 27 false (ck 30 5 28 29),ax 27 false (hp 31 1 4 30),ax 27 false (bk 32 4 31),cg 27 false 33 1,cg 27 false 34 5,ax 27 false (ck 35 5 33 34),ax 27 false (hp 36 1 4 35),ax 27 false (bk 37 4 36),ax 27 false (cb 38 142 32 37),ax 27 false (cO 39 38),ds 40 27 39]) (aW 40 (aa [bz 4 false] .ret) .skip)))) (.region [aV 41 .add 13 1,I 13 41])))) (aa [bz 4 true] .ret))))
def Sq:C:=(aa [fw 2 4,fw 3 4] (aa [fe 8 4 30 [],I 4 8] (aa [fe 9 4 30 [],I 5 9] (.seq (aa [I 10 0,cw 11 10,bP 12 0] (gw 13 12 11 (.seq (.block 1 (aa [ck 14 5 10 12,bk 15 5 14,dI 7 ku,bV 5 7 15] (aa [I 16 4,aF 17 0 1 7,ay 18 1 17,c0 19 116 18,fe 20 4 30 [.t 19],h1 21 4 30 16 20,I 4 21] (.region [I 22 5,hp 23 1 4 7,bk 24 4 23,fe 25 4 30 [.t 24],h1 26 4 30 22 25,I 5 26])))) (.region [aV 27 .add 12 1,I 12 27])))) (aa [I 28 4,I 29 5,I 2 28,I 3 29] .ret)))))
def Sw:C:=(aa [bP 4 0] (.seq (aa [bP 5 0] (.block 0 (.loop (.seq (aa [I 8 5,I 9 0,cw 10 9,bu 11 .lss 8 10,I 12 11,cg 12 true 13 5,cg 12 true 14 1,ax 12 true (cw 15 14),ax 12 true (bu 16 .lss 13 15),eg 17 12 16] (aW 17 .skip (.exit 0))) (.seq (.block 1 (.seq (.seq (.drawn true 53 [I 20 0,I 21 5,ck 22 5 20 21,aF 23 0 1 22,ay 24 1 23,I 25 1,I 26 5,ck 27 5 25 26,aF 28 0 1 27,ay 29 1 28,cb 30 190 24 29,I 6 30]) (aa [I 31 6,aV 32 .neq 31 0] (aW 32 (aa [I 33 6,I 4 33] .ret) .skip))) (.seq (.drawn true 53 [I 34 0,I 35 5,ck 36 5 34 35,hp 37 1 4 36,bk 38 4 37,I 39 1,I 40 5,ck 41 5 39 40,hp 42 1 4 41,bk 43 4 42,cb 44 133 38 43,I 7 44]) (aa [I 45 7,aV 46 .neq 45 0] (aW 46 (aa [I 47 7,I 4 47] .ret) .skip))))) (.region [I 18 5,aV 19 .add 18 1,I 5 19])))))) (aa [I 48 0,cw 49 48,I 50 1,cw 51 50,cb 52 190 49 51,I 4 52] .ret)))
def St:C:=(aa [bz 4 false] (.seq (aa [I 11 0,cw 12 11,bP 13 0] (gw 14 13 12 (.seq (.block 1 (aa [ck 15 5 11 13,bk 16 5 15,dI 6 ku,bV 5 6 16] (aa [I 18 1,aF 19 0 1 6,ay 20 1 19,c0 21 116 20,cb 22 69 18 21,I 17 22,cV 23 0 17,cV 24 1 17,dI 7 eB,bV 4 7 23,I 8 24] (aa [I 26 1,hp 27 1 4 6,bk 28 4 27,cb 29 69 26 28,I 25 29,cV 30 0 25,cV 31 1 25,dI 9 eB,bV 4 9 30,I 10 31] (aa [I 32 8,cO 33 32,I 34 33,cg 34 false 35 10,ax 34 false (cO 36 35),ds 37 34 36,I 38 37,ax 38 false (bk 39 4 7),ax 38 false (bk 40 4 9),ax 38 false (cb 41 142 39 40),ax 38 false (cO 42 41),ds 43 38 42] (aW 43 (aa [bz 4 false] .ret) .skip)))))) (.region [aV 44 .add 13 1,I 13 44])))) (aa [bz 4 true] .ret)))
def Ze:b4 aT KX [.tmp 2] 1 Tryz.f86=true:=bi
def Zf:b4 aT KY [] 3 Tryz.f159=true:=bi
def anm:b4 aT R2 [.tmp 4,.tmp 5] 2 Tryz.f165=true:=bi
def anr:b4 aT R7 [.tmp 4] 2 Tryz.f166=true:=bi
def Zi:b4 aT K1 [.tmp 2] 1 Tryz.f168=true:=bi
def Zj:b4 aT K3 [.tmp 4] 2 Tryz.f169=true:=bi
def anK:b4 aT Sq [.tmp 2,.tmp 3] 1 Tryz.f205=true:=bi
def anQ:b4 aT Sw [.tmp 4] 2 Tryz.f207=true:=bi
def anN:b4 aT St [.tmp 4] 2 Tryz.f208=true:=bi
def SF:C:=(aa [dI 2 eB] (aa [I 3 0,jn 4 eB [(0,1,(gX 1)),(1,1,(.t 3))],bV 4 2 4] .ret))
def Su:C:=(aa [cd 0 (.mov (.c (.nilp)))] (aa [dt (.mkmap 1 (some 702)),dt (.mkmap 2 (some 703)),dt (.mkmap 3 (some 704)),dt (.mkmap 4 (some 705)),dt (.mkmap 5 (some 706)),dt (.mkmap 6 (some 707)),cd 7 (.build [.junk,.junk,.junk,.junk,.junk,.junk] [(0,1,(.t 1)),(1,1,(.t 2)),(2,1,(.t 3)),(3,1,(.t 4)),(4,1,(.t 5)),(5,1,(.t 6))]),cZ 8 7,I 0 8] (.fz true 0 .ret)))
def Sj:C:=(aa [bP 4 0] (.seq (aa [I 8 0,gv 9 8,aF 10 0 1 9,ay 11 1 10,I 12 1,cd 13 (.mget .i (.int .i64 0) true (.t 11) (.t 12)),I 7 13,cV 14 0 7,cV 15 1 7,I 5 14,I 6 15] (aa [I 16 6,cO 17 16] (aW 17 (.region [I 18 0,gv 19 18,aF 20 0 1 19,ay 21 1 20,I 22 1,I 23 1,dt (.mput .i (.t 21) (.t 22) (.t 23))]) .skip))) (.seq (.block 0 (.loop (.seq (aa [I 24 0,gv 25 24,aF 26 0 1 25,ay 27 1 26,I 28 1,cd 29 (.mget .i (.int .i64 0) false (.t 27) (.t 28)),I 30 1,bu 31 .neq 29 30] (aW 31 .skip (.exit 0))) (.block 1 (.seq (.drawn true 55 [I 32 0,gv 33 32,aF 34 0 1 33,ay 35 1 34,I 36 1,I 37 0,gv 38 37,aF 39 0 1 38,ay 40 1 39,I 41 0,gv 42 41,aF 43 0 1 42,ay 44 1 43,I 45 1,cd 46 (.mget .i (.int .i64 0) false (.t 44) (.t 45)),cd 47 (.mget .i (.int .i64 0) false (.t 40) (.t 46)),dt (.mput .i (.t 35) (.t 36) (.t 47))]) (.region [I 48 0,gv 49 48,aF 50 0 1 49,ay 51 1 50,I 52 1,cd 53 (.mget .i (.int .i64 0) false (.t 51) (.t 52)),I 1 53])))))) (aa [I 54 1,I 4 54] .ret))))
def Sf:C:=(aa [cZ 2 0,cZ 3 1] (.fz false 2 (.region [bk 4 4 3,cd 5 (.mkf 245 [.t 2]),cb 6 134 4 5])))
def w2:C:=(aa [cZ 4 1,cZ 5 2,bz 6 false] (.seq (.block 0 (aa [aF 12 0 1 4,ay 13 1 12,aV 14 .eql 13 1,I 15 14,ax 15 true (aF 16 0 1 5),ax 15 true (ay 17 1 16),ax 15 true (aV 18 .eql 17 1),eg 19 15 18,I 11 19] (aW 11 (aa [I 20 0,aF 21 1 1 4,ay 22 1 21,cb 23 216 20 22,I 7 23] (aa [I 24 0,aF 25 1 1 5,ay 26 1 25,cb 27 216 24 26,I 8 27] (.seq (aa [I 28 7,I 29 8,bu 30 .eql 28 29] (aW 30 (aa [bz 6 true] .ret) .skip)) (.seq (aa [I 31 8,I 32 7,bu 33 .lss 31 32] (aW 33 (.region [I 34 8,I 35 7,I 7 34,I 8 35]) .skip)) (aa [I 36 0,gv 37 36,aF 38 0 1 37,ay 39 1 38,I 40 8,I 41 7,dt (.mput .i (.t 39) (.t 40) (.t 41))] (.seq (aa [I 42 0,gv 43 42,aF 44 2 1 43,ay 45 1 44,I 46 8,cd 47 (.mget .i (.bool false) false (.t 45) (.t 46)),cO 48 47] (aW 48 (aa [I 49 0,gv 50 49,aF 51 2 1 50,ay 52 1 51,I 53 7,cd 54 (.mget .i (.bool false) false (.t 52) (.t 53)),cO 55 54,I 56 55,cg 56 false 57 0,cg 56 false 58 0,ax 56 false (gv 59 58),ax 56 false (aF 60 1 1 59),ax 56 false (ay 61 1 60),cg 56 false 62 7,yy 56 false 63 (.mget .i (.agg eB) false (.t 61) (.t 62)),cg 56 false 64 7,ys 56 false (.mkmap 65 (some 715)),ax 56 false (dT 66 246 [.t 57,.t 63,.t 64,.t 65]),ax 56 false (cO 67 66),ds 68 56 67,I 6 68] .ret) .skip)) (aa [I 69 0,gv 70 69,aF 71 1 1 70,ay 72 1 71,I 73 8,cd 74 (.mget .i (.agg eB) false (.t 72) (.t 73)),dI 9 eB,bV 4 9 74] (.seq (aa [I 75 0,gv 76 75,aF 77 2 1 76,ay 78 1 77,I 79 7,cd 80 (.mget .i (.bool false) false (.t 78) (.t 79)),cO 81 80] (aW 81 (aa [I 82 0,I 83 7,bk 84 4 9,dT 85 247 [.t 82,.t 83,.t 84],I 6 85] .ret) .skip)) (.seq (.drawnW [715,716] 198 [I 86 0,bk 87 4 9,I 88 7,dt (.mkmap 89 (some 715)),dT 90 246 [.t 86,.t 87,.t 88,.t 89],cO 91 90,I 92 91,cg 92 true 93 0,cg 92 true 94 0,ax 92 true (gv 95 94),ax 92 true (aF 96 1 1 95),ax 92 true (ay 97 1 96),cg 92 true 98 7,yy 92 true 99 (.mgetB .i (.agg eB) false (.t 97) (.t 98)),cg 92 true 100 7,ys 92 true (.mkmap 101 (some 716)),ax 92 true (dT 102 246 [.t 93,.t 99,.t 100,.t 101]),ax 92 true (cO 103 102),eg 104 92 103,I 105 104,cg 105 true 106 0,cg 105 true 107 0,ax 105 true (gv 108 107),ax 105 true (aF 109 1 1 108),ax 105 true (ay 110 1 109),cg 105 true 111 7,yy 105 true 112 (.mgetB .i (.agg eB) false (.t 110) (.t 111)),ax 105 true (bk 113 4 9),ax 105 true (dT 114 218 [.t 106,.t 112,.t 113]),eg 115 105 114,I 6 115]) .ret))))))))) (aa [aF 117 0 1 4,ay 118 1 117,aV 119 .eql 118 1,I 116 119] (aW 116 (aa [I 120 0,aF 121 1 1 4,ay 122 1 121,cb 123 216 120 122,I 10 123] (.seq (aa [I 124 0,gv 125 124,aF 126 2 1 125,ay 127 1 126,I 128 10,cd 129 (.mget .i (.bool false) false (.t 127) (.t 128)),cO 130 129] (aW 130 (aa [I 131 0,I 132 10,bk 133 4 5,dT 134 247 [.t 131,.t 132,.t 133],I 6 134] .ret) .skip)) (.seq (.drawn false 198 [I 135 0,I 136 0,gv 137 136,aF 138 1 1 137,ay 139 1 138,I 140 10,cd 141 (.mgetB .i (.agg eB) false (.t 139) (.t 140)),bk 142 4 5,dT 143 218 [.t 135,.t 141,.t 142],I 6 143]) .ret))) (aa [aF 145 0 1 5,ay 146 1 145,aV 147 .eql 146 1,I 144 147] (aW 144 (aa [I 148 0,bk 149 4 5,bk 150 4 4,dT 151 218 [.t 148,.t 149,.t 150],I 6 151] .ret) (aa [aF 153 0 1 4,ay 154 1 153,aF 155 0 1 5,ay 156 1 155,bu 157 .neq 154 156,I 158 157,ax 158 false (aF 159 1 1 4),ax 158 false (ay 160 1 159),ax 158 false (aF 161 1 1 5),ax 158 false (ay 162 1 161),ax 158 false (bu 163 .neq 160 162),ds 164 158 163,I 165 164,ax 165 false (aF 166 2 1 4),ax 165 false (ay 167 1 166),ax 165 false (aF 168 2 1 5),ax 165 false (ay 169 1 168),ax 165 false (bu 170 .neq 167 169),ds 171 165 170,I 152 171] (aW 152 (aa [bz 6 false] .ret) (aa [aF 173 0 1 4,ay 174 1 173,aV 175 .eql 174 4,I 172 175] (aW 172 (.seq (.drawn false 198 [I 176 0,aF 177 3 1 4,ay 178 1 177,kB 179 4 178 0,bk 180 4 179,aF 181 3 1 5,ay 182 1 181,kB 183 4 182 0,bk 184 4 183,dT 185 218 [.t 176,.t 180,.t 184],I 186 185,cg 186 true 187 0,ax 186 true (aF 188 3 1 4),ax 186 true (ay 189 1 188),ax 186 true (kB 190 4 189 1),ax 186 true (bk 191 4 190),ax 186 true (aF 192 3 1 5),ax 186 true (ay 193 1 192),ax 186 true (kB 194 4 193 1),ax 186 true (bk 195 4 194),ax 186 true (dT 196 218 [.t 187,.t 191,.t 195]),eg 197 186 196,I 6 197]) .ret) .skip))))))))))) (aa [bz 6 true] .ret)))
def Sg:C:=(.region [ay 3 1 1,I 4 0,cb 5 216 3 4])
def Sh:C:=(aa [cZ 4 0,cZ 5 1,cZ 6 2,cZ 7 3,bz 8 false] (aa [dt (.alloc 9 (some 712) (.bool false)),dt (.store 1 (.t 9) (.c (.bool false)))] (.seq (.fz false 7 (.fz false 6 (.fz false 4 (.region [bk 10 4 5,cd 11 (.mkf 257 [.t 4,.t 9,.t 6,.t 7]),cb 12 134 10 11])))) (aa [ay 13 1 9,I 8 13] .ret))))
def Se:C:=(aa [cZ 5 2,bz 6 false] (.seq (.drawn true 24 [I 7 0,gv 8 7,aF 9 1 1 8,ay 10 1 9,I 11 1,bk 12 4 5,dt (.mput .i (.t 10) (.t 11) (.t 12))]) (aa [I 13 0,gv 14 13,aF 15 2 1 14,ay 16 1 15,I 17 1,dt (.mput .i (.t 16) (.t 17) (.c (.bool true)))] (aa [I 18 0,bk 19 4 5,I 20 1,dt (.mkmap 21 (some 715)),dT 22 246 [.t 18,.t 19,.t 20,.t 21],cO 23 22,I 6 23] .ret))))
def AO:C:=(aa [cZ 2 0,bz 4 false] (.seq (.seq (.fz false 2 (.region [ay 6 1 2,gv 7 6,aF 8 3 1 7,ay 9 1 8,I 10 1,cd 11 (.mget .i (.int .i64 0) false (.t 9) (.t 10)),aV 12 .eql 11 2])) (aW 12 (aa [bz 4 true] .ret) .skip)) (.seq (aa [ay 13 1 2,gv 14 13,aF 15 3 1 14,ay 16 1 15,I 17 1,cd 18 (.mget .i (.int .i64 0) false (.t 16) (.t 17)),aV 19 .eql 18 1] (aW 19 (aa [bz 4 false] .ret) .skip)) (aa [ay 20 1 2,gv 21 20,aF 22 3 1 21,ay 23 1 22,I 24 1,dt (.mput .i (.t 23) (.t 24) (gX 1))] (aa [ay 25 1 2,gv 26 25,aF 27 4 1 26,ay 28 1 27,I 29 1,dt (.mput .i (.t 28) (.t 29) (gX 1))] (.seq (aa [ay 30 1 2,gv 31 30,aF 32 2 1 31,ay 33 1 32,I 34 1,cd 35 (.mget .i (.bool false) false (.t 33) (.t 34))] (aW 35 (aa [dt (.alloc 5 (some 712) (.bool false)),dt (.store 1 (.t 5) (.c (.bool true)))] (aa [ay 36 1 2,gv 37 36,aF 38 1 1 37,ay 39 1 38,I 40 1,cd 41 (.mget .i (.agg eB) false (.t 39) (.t 40)),cd 42 (.mkf 258 [.t 5,.t 2]),cb 43 134 41 42] (.seq (aa [ay 44 1 5,cO 45 44] (aW 45 (aa [bz 4 false] .ret) .skip)) (.drawn false 64 [ay 46 1 2,gv 47 46,aF 48 4 1 47,ay 49 1 48,I 50 1,ay 51 1 2,gv 52 51,aF 53 1 1 52,ay 54 1 53,I 55 1,cd 56 (.mgetB .i (.agg eB) false (.t 54) (.t 55)),cd 57 (.mkf 259 [.t 2]),cb 58 192 56 57,dt (.mput .i (.t 49) (.t 50) (.t 58))])))) .skip)) (aa [ay 59 1 2,gv 60 59,aF 61 3 1 60,ay 62 1 61,I 63 1,dt (.mput .i (.t 62) (.t 63) (gX 2))] (aa [bz 4 true] .ret))))))))
def GC:C:=(aa [cZ 2 0,dI 4 eB] (.seq (.seq (.fz false 2 (.region [ay 9 1 2,gv 10 9,aF 11 5 1 10,ay 12 1 11,I 13 1,cd 14 (.mget .i (.agg eB) true (.t 12) (.t 13)),I 8 14,cV 15 0 8,cV 16 1 8,dI 5 eB,bV 4 5 15,I 6 16])) (aa [I 17 6] (aW 17 (aa [bk 18 4 5,bV 4 4 18] .ret) .skip))) (aa [I 19 1,c0 20 116 19,dI 7 eB,bV 4 7 20] (.seq (aa [ay 21 1 2,gv 22 21,aF 23 2 1 22,ay 24 1 23,I 25 1,cd 26 (.mget .i (.bool false) false (.t 24) (.t 25))] (aW 26 (.region [ay 27 1 2,gv 28 27,aF 29 1 1 28,ay 30 1 29,I 31 1,cd 32 (.mget .i (.agg eB) false (.t 30) (.t 31)),cd 33 (.mkf 260 [.t 2]),cb 34 194 32 33,bV 4 7 34]) .skip)) (.seq (.drawn true 42 [ay 35 1 2,gv 36 35,aF 37 5 1 36,ay 38 1 37,I 39 1,bk 40 4 7,dt (.mput .i (.t 38) (.t 39) (.t 40))]) (aa [bk 41 4 7,bV 4 4 41] .ret))))))
def Si:C:=(aa [ay 7 1 1,I 8 0,cb 9 216 7 8,I 6 9] (.seq (aa [ay 10 1 2,I 11 10,cg 11 false 12 6,ax 11 false (ay 13 1 3),ax 11 false (bu 14 .eql 12 13),ds 15 11 14] (aW 15 (aa [dt (.store 1 (.t 2) (.c (.bool true)))] .ret) .skip)) (aa [ay 16 1 4,I 17 6,cd 18 (.mget .i (.bool false) false (.t 16) (.t 17)),cO 19 18,I 20 19,ax 20 true (ay 21 1 1),ax 20 true (gv 22 21),ax 20 true (aF 23 2 1 22),ax 20 true (ay 24 1 23),cg 20 true 25 6,ax 20 true (cd 26 (.mget .i (.bool false) false (.t 24) (.t 25))),eg 27 20 26] (aW 27 (aa [ay 28 1 4,I 29 6,dt (.mput .i (.t 28) (.t 29) (.c (.bool true)))] (.drawn false 40 [ay 30 1 1,ay 31 1 1,gv 32 31,aF 33 1 1 32,ay 34 1 33,I 35 6,cd 36 (.mgetB .i (.agg eB) false (.t 34) (.t 35)),ay 37 1 3,ay 38 1 4,dT 39 246 [.t 30,.t 36,.t 37,.t 38],bV 1 2 39])) .skip))))
def K0:C:=(.seq (.drawn false 13 [cd 4 (.loadB false 1 (.t 1)),I 5 4,ax 5 true (ay 6 1 2),ax 5 true (ay 7 1 2),cg 5 true 8 0,ax 5 true (cb 9 216 7 8),ax 5 true (cb 10 248 6 9),ax 5 true (cO 11 10),eg 12 5 11]) (aW 12 (.region [dt (.store 1 (.t 1) (.c (.bool false)))]) .skip))
def Sm:C:=(aa [bP 3 0] (.seq (.drawn false 12 [ay 4 1 1,gv 5 4,aF 6 4 1 5,ay 7 1 6,ay 8 1 1,I 9 0,cb 10 216 8 9,cd 11 (.mgetB .i (.int .i64 0) false (.t 7) (.t 10)),I 3 11]) .ret))
def Sl:C:=(aa [dI 3 eB,bz 4 false] (.seq (.drawn false 10 [ay 5 1 1,ay 6 1 1,I 7 0,cb 8 216 6 7,cb 9 249 5 8,bV 4 3 9,bz 4 true]) .ret))
def anZ:b4 aT SF [.cell 2 true 4] 1 Tryz.f116=true:=bi
def anO:b4 aT Su [.tmp 0] 0 Tryz.f215=true:=bi
def anE:b4 aT Sj [.tmp 4] 2 Tryz.f216=true:=bi
def anA:b4 aT Sf [] 2 Tryz.f217=true:=bi
def zQ:b4 aT w2 [.tmp 6] 3 Tryz.f218=true:=bi
def anB:b4 aT Sg [] 2 Tryz.f245=true:=bi
def anC:b4 aT Sh [.tmp 8] 4 Tryz.f246=true:=bi
def anz:b4 aT Se [.tmp 6] 3 Tryz.f247=true:=bi
def E6:b4 aT AO [.tmp 4] 2 Tryz.f248=true:=bi
def OZ:b4 aT GC [.cell 4 true 4] 2 Tryz.f249=true:=bi
def anD:b4 aT Si [] 5 Tryz.f257=true:=bi
def Zh:b4 aT K0 [] 3 Tryz.f258=true:=bi
def anH:b4 aT Sm [.tmp 3] 2 Tryz.f259=true:=bi
def anG:b4 aT Sl [.cell 3 true 4,.tmp 4] 2 Tryz.f260=true:=bi
end
section
open Go Go.Pv
section
variable {α:Type} (S:α->cR) (dF:∀a,ez (S a)) (e7:∀a b,Same (S a) (S b)) (g:Nat) (dH:List af) (aw:∀a,aH (aM (S a)) dH) (dy:cf dH=dH)
include dF e7 aw dy in
theorem VC(e:α->Prop)(f:Int->α->bd α)(o:∀v a br,e a->f v a=some br->e br/\bG au g (aj v::dH) (S a) fun r d=>r= .tuple []/\d=S br)(t:T):
  ∀a br,e a->t.foldO f a=some br->e br/\bG au 134 [t.e,.func g dH] (S a) fun r d=>r= .tuple []/\d=S br:=by
 have b:∀a m,ae (.loc m) (S a).b=none:=fun a=>(dF a).obj.1;have hu:∀a m cs,cJ (.loc m) cs (S a).b=(S a).b++[(.loc m,cs)]:=fun a m cs=>kO (b a m);have ar:∀a m,aB.loc m∉cK (S a):=fun a=>kJ (dF a).obj;induction t with
 |pair x y l k=>intro a br hi he;have c:=dF a;simp only[T.foldO,mX]at he;obtain⟨h,J,U⟩:=he;obtain⟨i1,g1⟩:=l a h hi J;obtain⟨i2,g2⟩:=k h br i1 U;refine⟨i2,?_⟩;refine bG.mk mixed a6 Tryz.func134 Cj Ψ c.obj fun j i=>?_;unfold yQ;simp[hu,ar,c6,b,dy];(repeat' first|refine al ?_|simp[hu,ar,c6,b]);refine CallDo.ob g1 c aX aX (by simp[aw]) ?_;rintro r d ⟨rfl,rfl⟩;refine⟨e7 _ _,?_⟩;simp[hH,jz,cL,b];(repeat' first|refine al ?_|simp[hu,ar,c6,b]);rw[dy];refine CallDo.ob g2 (dF h) aX aX (by simp[aw]) ?_;rintro r d ⟨rfl,rfl⟩;refine⟨e7 _ _,?_⟩;simp[hH,jz,cL,b];refine c5.at (S br) (.inr rfl) (dF _) (e7 _ _) aX aX ?_;simp[dc,ba,be,a1]
 |var n=>intro a br hi he;have c:=dF a;simp only[T.foldO]at he;obtain⟨i1,g1⟩:=o n a br hi he;refine⟨i1,?_⟩;refine bG.mk mixed a6 Tryz.func134 Cj Ψ c.obj fun j i=>?_;unfold yQ;simp[hu,ar,c6,b,dy];(repeat' first|refine al ?_|simp[hu,ar,c6,b]);refine CallDo.ob g1 c aX aX (by simp[aw]) ?_;rintro r d ⟨rfl,rfl⟩;refine⟨e7 _ _,?_⟩;simp[hH,jz,cL,b,c6];refine c5.at (S br) (.inr rfl) (dF _) (e7 _ _) aX aX ?_;simp[dc,ba,be,a1]
 |_=>intro a br hi he;have c:=dF a;simp only[T.foldO,dU]at he;subst he;refine⟨hi,?_⟩;refine bG.mk mixed a6 Tryz.func134 Cj Ψ c.obj fun j i=>?_;unfold yQ;simp[hu,ar,c6,b,dy];(repeat' first|refine al ?_|simp[hu,ar,c6,b]);refine c5.at (S a) (.inr rfl) c (Same.refl _) aX aX ?_;simp[dc,ba,be,a1]
include dF e7 aw dy in
theorem Ml(f:Int->α->bd α)(c:∀v a br,f v a=some br->bG au g (aj v::dH) (S a) fun r b=>r= .tuple []/\b=S br)(t:T)(a br:α)(h:t.foldO f a=some br):bG au 134 [t.e,.func g dH] (S a) fun r b=>r= .tuple []/\b=S br:=(VC S dF e7 g dH aw dy (fun _=>True) f (fun v a br _ h=>⟨trivial,c v a br h⟩) t a br trivial h).2
include dF e7 aw dy in
theorem aiX(f:Int->α->bd (T×α))(s:∀v a p,f v a=some p->bG au g (aj v::dH) (S a) fun r h=>r= .tuple [p.1.e,.bool true]/\h=S p.2)(t:T):
  ∀a p,t.mapO f a=some p->bG au 194 [t.e,.func g dH] (S a) fun r h=>r=p.1.e/\h=S p.2:=by
 have b:∀a m,ae (.loc m) (S a).b=none:=fun a=>(dF a).obj.1;have j:∀a m,ae (.loc m) (S a).e=none:=fun a=>(dF a).obj.2;have hu:∀a m cs,cJ (.loc m) cs (S a).b=(S a).b++[(.loc m,cs)]:=fun a m cs=>kO (b a m);have ar:∀a m,aB.loc m∉cK (S a):=fun a=>kJ (dF a).obj;have c:∀a m p r,cJ (.loc m) p ((S a).b++r)=(S a).b++cJ (.loc m) p r:=fun a m p r=>CV (b a m);induction t with
 |pair x y q o=>intro a p he;have d:=dF a;simp only[T.mapO,mX,hq]at he;obtain⟨e,J,i,U,rfl⟩:=he;refine bG.mk mixed a6 Tryz.func194 Ck Ψ d.obj fun l k=>?_;unfold yR;simp[hu,ar,c6,b,j,dy,c];(repeat' first|refine al ?_|simp[hu,ar,c6,b,j,c]);refine hK.ob (q a e J) d (dF e.2) (e7 _ _) aX aX (by simp[aw]) ?_;simp[hH,jz,cL,b,dy];(repeat' first|refine al ?_|simp[hu,ar,c6,b,j,c]);refine hK.ob (o e.2 i U) (dF e.2) (dF i.2) (e7 _ _) aX aX (by simp[aw,dy]) ?_;simp[hH,jz,cL,b,dy];(repeat' first|refine al ?_|refine aO (Kf _ _) ?_|refine aP (Kf _ _) ?_|simp[c6,b,c]);refine c5.at (S i.2) (.inl rfl) (dF _) (e7 _ _) aX aX ?_;simp[dc,ba,be,a1,c6,b]
 |var n=>
  intro a p he;have d:=dF a;simp only[T.mapO]at he;refine bG.mk mixed a6 Tryz.func194 Ck Ψ d.obj fun l k=>?_;unfold yR;simp[hu,ar,c6,b,dy,c];(repeat' first|refine al ?_|simp[hu,ar,c6,b,c]);refine CallDo.ob (s n a p he) d aX aX (by simp[aw]) ?_;rintro r h ⟨rfl,rfl⟩;refine⟨e7 _ _,?_⟩;simp[hH,jz,cL,b,hu,ar,c6];(repeat' first|refine al ?_|refine aO (vj _) ?_|refine aP (vj _) ?_|simp[hu,ar,c6,b,c]);all_goals refine c5.at (S p.2) (.inl rfl) (dF _) (e7 _ _) aX aX ?_
  all_goals simp[dc,ba,be,a1,c6,b]
 |_=>intro a p he;have d:=dF a;simp only[T.mapO,dU]at he;subst he;refine bG.mk mixed a6 Tryz.func194 Ck Ψ d.obj fun l k=>?_;unfold yR;simp[hu,ar,c6,b,dy,c];(repeat' first|refine al ?_|simp[hu,ar,c6,b,c]);refine c5.at (S a) (.inl rfl) d (Same.refl _) aX aX ?_;simp[dc,ba,be,a1,c6,b]
include dF e7 aw dy in
theorem aji(i:α->Prop)(f:Int->α->bd (Int×α))(A:∀v a p,i a->f v a=some p->i p.2/\0<=p.1/\p.1<=1000000)(z:∀v a p,i a->f v a=some p->bG au g (aj v::dH) (S a) fun r e=>r=aj p.1/\e=S p.2)(t:T):
  ∀a p,i a->t.sizeO f a=some p->i p.2/\(0<=p.1/\p.1<=5001)/\bG au 192 [t.e,.func g dH] (S a) fun r e=>r=aj p.1/\e=S p.2:=by
 have b:∀a m,ae (.loc m) (S a).b=none:=fun a=>(dF a).obj.1;have hu:∀a m cs,cJ (.loc m) cs (S a).b=(S a).b++[(.loc m,cs)]:=fun a m cs=>kO (b a m);have ar:∀a m,aB.loc m∉cK (S a):=fun a=>kJ (dF a).obj;induction t with
 |pair x y s q=>
  intro a p hi he;have c:=dF a;simp only[T.sizeO,mX]at he;obtain⟨d,J,U⟩:=he;obtain⟨i1,u,g1⟩:=s a d hi J;by_cases o:5000<d.1
  ·rw[if_pos o]at U;cases U;refine⟨i1,u,?_⟩;refine bG.mk mixed a6 Tryz.func192 zR Ψ c.obj fun k j=>?_;unfold w3;simp[hu,ar,c6,b,dy];(repeat' first|refine al ?_|simp[hu,ar,c6,b]);refine CallDo.ob g1 c aX aX (by simp[aw]) ?_;rintro r e ⟨rfl,rfl⟩;refine⟨e7 _ _,?_⟩;simp[hH,jz,cL,b];((with_reducible repeat' first|((first|apply ct|apply cz|apply cy)<;>intro h<;>try simp at h)|refine al ?_|simp[hu,ar,c6,b])<;>(try contradiction));all_goals first|omega|(refine c5.at (S p.2) (.inl rfl) (dF _) (e7 _ _) aX aX ?_;simp[dc,ba,be,a1])
  ·rw[if_neg o,hq]at U;obtain⟨l,U,rfl⟩:=U;obtain⟨i2,B,g2⟩:=q d.2 l i1 U;refine⟨i2,by simp only;split<;>omega,?_⟩;refine bG.mk mixed a6 Tryz.func192 zR Ψ c.obj fun k j=>?_;unfold w3;simp[hu,ar,c6,b,dy];(with_reducible repeat' first|((first|apply ct|apply cz|apply cy)<;>intro h<;>try simp at h)|refine al ?_|simp[hu,ar,c6,b]);refine CallDo.ob g1 c aX aX (by simp[aw]) ?_;rintro r e ⟨rfl,rfl⟩;refine⟨e7 _ _,?_⟩;simp[hH,jz,cL,b];((repeat' first|refine al ?_|simp[hu,ar,c6,b]|((first|apply ct|apply cz|apply cy)<;>intro h<;>try simp at h))<;>(try exact c3));all_goals first|omega|skip
   rw[dy];refine CallDo.ob g2 (dF d.2) aX aX (by simp[aw]) ?_;rintro r s2 ⟨rfl,rfl⟩;refine⟨e7 _ _,?_⟩;simp[hH,jz,cL,b];(repeat' first|refine al ?_|simp[hu,ar,c6,b]);refine c5.at (S l.2) (.inl rfl) (dF _) (e7 _ _) aX aX ?_;simp[dc,ba,be,a1]
 |var n=>intro a p hi he;have c:=dF a;simp only[T.sizeO,hq]at he;obtain⟨d,J,rfl⟩:=he;have w:=A n a d hi J;refine⟨w.1,by simp only;split<;>omega,?_⟩;refine bG.mk mixed a6 Tryz.func192 zR Ψ c.obj fun k j=>?_;unfold w3;simp[hu,ar,c6,b,dy];(repeat' first|refine al ?_|simp[hu,ar,c6,b]);refine CallDo.ob (z n a d hi J) c aX aX (by simp[aw]) ?_;rintro r e ⟨rfl,rfl⟩;refine⟨e7 _ _,?_⟩;simp[hH,jz,cL,b];refine c5.at (S d.2) (.inl rfl) (dF _) (e7 _ _) aX aX ?_;simp[dc,ba,be,a1]
 |_=>intro a p hi he;have c:=dF a;simp only[T.sizeO,dU]at he;subst he;refine⟨hi,Ψ,?_⟩;refine bG.mk mixed a6 Tryz.func192 zR Ψ c.obj fun k j=>?_;unfold w3;simp[hu,ar,c6,b,dy];(repeat' first|refine al ?_|simp[hu,ar,c6,b]);refine c5.at (S a) (.inl rfl) c (Same.refl _) aX aX ?_;simp[dc,ba,be,a1]
end
end
end Go.Proofs.YtahlgcidhnjlbaaGreat
namespace Go.Pv
section
open Go Go.RowKit
section
variable {P:cI} {ob:List aB} {st:bp} {Q:Exit->bp->Prop} {c:C} {α:Type}
def eZ(b:List Nat)(cs:Nat->α->List (Nat×af))(n:Nat)(d:Nat->α->Prop)(a0:α)(hw:gn ob st (qM st b (cs 0 a0)))(g:d 0 a0)(e:∀a,d n a->(∀i,eV (get i (qM st b (cs n a)).t))->df P ob c (bY ob (Az (fun i a=>qM st b (cs i a)) n d) 0 Q) (qM st b (cs n a)))
  (f:∀i a,i<n->d i a->(∀j,eV (get j (qM st b (cs i a)).t))->df P ob c (bY ob (Az (fun i a=>qM st b (cs i a)) n d) (n-i) Q) (qM st b (cs i a))):df P ob (.loop c) Q st:=
 fS (fun i a=>qM st b (cs i a)) n d a0 hw g e f
def xb(b:List Nat)(cs:α->List (Nat×af))(μ:α->Nat)(d:α->Prop)(a0:α)(hw:gn ob st (qM st b (cs a0)))(f:d a0)
  (e:∀a,d a->(∀j,eV (get j (qM st b (cs a)).t))->df P ob c (bY ob (C6 (fun a=>qM st b (cs a)) μ d) (μ a) Q) (qM st b (cs a))):df P ob (.loop c) Q st:=
 o7 (fun a=>qM st b (cs a)) μ d a0 hw f e
end
attribute [simp] amT
end
end Go.Pv
namespace Go.Proofs.YtahlgcidhnjlbaaGreat
section
open Go Go.Pv
def Od{α β:Type}(k:aB):∀{l:List (aB×α)} {a:List (aB×β)},l.map (·.1)=a.map (·.1)->(ae k l).isSome=(ae k a).isSome
 |[],[],_=>rfl
 |[],_::_,h=>by simp at h
 |_::_,[],h=>by simp at h
 |(i,x)::r,(j,y)::b,h=>by
  simp only[gY,rQ]at h;simp only[ae];obtain⟨rfl,h⟩:=h;split
  ·rfl
  ·exact Od k h
def _root_.Go.Pv.Same.keys{s a:cR}(b:s.b.map (·.1)=a.b.map (·.1))(he:s.e.map (·.1)=a.e.map (·.1)):Same s a:=⟨fun k=>Od k b,fun k=>Od k he⟩
section
variable {α:Type} (e:α->af)
def tH(l:List (Int×α)):List af:=k0 (l.map fun x=>(x.1,e x.2))
def Rx(k:Int):∀l:List (Int×α),yL k (l.map fun x=>(x.1,e x.2))=(dp k l).map e
 |[]=>rfl
 |(i,v)::r=>by
  simp only[gY,yL,dp];split
  ·rfl
  ·exact Rx k r
def RE(k:Int)(v:α):∀l:List (Int×α),qk k (e v) (l.map fun x=>(x.1,e x.2))=if(dp k l).isSome then some ((fA k v l).map fun x=>(x.1,e x.2))else none
 |[]=>rfl
 |(i,w)::r=>by
  simp only[gY,qk,dp,fA];by_cases h:k=i
  ·subst h;simp
  ·simp only[h,if_false,RE k v r];cases (dp k r).isSome<;>simp
def ach{k:Int}{v:α}:∀{l:List (Int×α)},dp k l=none->fA k v l=l++[(k,v)]
 |[],_=>rfl
 |(i,w)::r,h=>by
  simp only[dp]at h;split at h
  ·cases h
  ·rename_i a;simp[fA,a,ach h]
def OC(k:Int)(v:α)(l:List (Int×α)):qN .i (aj k) (e v) (tH e l)=some (tH e (fA k v l)):=by
 simp only[tH,YW,Gt,RE];cases h:dp k l with
 |some w=>simp
 |none=>simp[ach h]
def Ox(f:aB->bd (List af))(m:aB)(l:List (Int×α))(z:af)(ok:Bool)(k:Int)(hm:f m=some (tH e l)):pf f .i z ok (.gmap m) (aj k)=some (True,if ok then .tuple [((dp k l).map e).getD z,.bool (dp k l).isSome]else((dp k l).map e).getD z):=by rw[amC f m _ z ok k hm,Rx];cases dp k l<;>rfl
@[simp]def aw0(l:List (Int×α)):gV (tH e l)=false:=rfl
def NZ(S:aB->Prop)(he:∀x,az S (e x))(l:List (Int×α)):aH S (tH e l):=by
 have:∀l:List (Int×α),aH S (flat (l.map fun x=>(x.1,e x.2))):=by
  intro l;induction l with
  |nil=>simp[flat,aH]
  |cons x r a=>simp[flat,aH,a,he]
 simp[tH,k0,aH,this,az]
end
def oI:List (Int×Int)->List af:=tH (af.int .i64)
def rB:List (Int×Bool)->List af:=tH af.bool
def u2:List (Int×T)->List af:=tH T.e
@[simp]def awX(l):gV (oI l)=false:=rfl
@[simp]def awV(l):gV (rB l)=false:=rfl
@[simp]def awZ(l):gV (u2 l)=false:=rfl
@[simp]def avF(S:aB->Prop)(l):aH S (oI l)=True:=h2 (NZ _ S (fun _=>by simp) l)
@[simp]def avE(S:aB->Prop)(l):aH S (rB l)=True:=h2 (NZ _ S (fun _=>by simp) l)
@[simp]def avG(S:aB->Prop)(l):aH S (u2 l)=True:=h2 (NZ _ S (fun _=>by simp) l)
@[simp]def awE(k v:Int)(l):qN .i (aj k) (aj v) (oI l)=some (oI (fA k v l)):=OC _ k v l
@[simp]def awD(k:Int)(v:Bool)(l):qN .i (aj k) (.bool v) (rB l)=some (rB (fA k v l)):=OC _ k v l
@[simp]def awG(k:Int)(v:T)(l):qN .i (aj k) v.e (u2 l)=some (u2 (fA k v l)):=OC _ k v l
def EW(a:kh)(z:af)(ok:Bool)(o:bd (List af))(k:af):bd (Prop×af):=pf (fun _=>o) a z ok (.gmap (.loc 0)) k
@[simp]def awB(f:aB->bd (List af))(a:kh)(z:af)(ok:Bool)(m:aB)(k:af):pf f a z ok (.gmap m) k=EW a z ok (f m) k:=by simp only[EW,YC]
def amE(f:aB->bd (List af))(m:aB)(l:List (Int×Int))(ok:Bool)(k:Int)(hm:f m=some (oI l)):pf f .i (aj 0) ok (.gmap m) (aj k)=some (True,if ok then .tuple [aj (jS l k),.bool (dp k l).isSome]else aj (jS l k)):=by rw[Ox _ f m l _ ok k hm];unfold jS;cases dp k l<;>rfl
def amD(f:aB->bd (List af))(m:aB)(l:List (Int×Bool))(ok:Bool)(k:Int)(hm:f m=some (rB l)):pf f .i (.bool false) ok (.gmap m) (aj k)=some (True,if ok then .tuple [.bool ((dp k l).getD false),.bool (dp k l).isSome]else .bool ((dp k l).getD false)):=by rw[Ox _ f m l _ ok k hm];cases dp k l<;>rfl
def ab4:af:= .agg [aj 0,aj 0,.str [],.slice 4 .nil []]
def yr(o:bd T):af:=(o.map T.e).getD ab4
def amF(f:aB->bd (List af))(m:aB)(l:List (Int×T))(ok:Bool)(k:Int)(hm:f m=some (u2 l)):pf f .i (.agg [aj 0,aj 0,.str [],.slice 4 .nil []]) ok (.gmap m) (aj k)=some (True,if ok then .tuple [yr (dp k l),.bool (dp k l).isSome]else yr (dp k l)):=by rw[Ox _ f m l _ ok k hm];rfl
@[simp]def awz(l:List (Int×Int))(ok:Bool)(k:Int):EW .i (aj 0) ok (some (oI l)) (aj k)=some (True,if ok then .tuple [aj (jS l k),.bool (dp k l).isSome]else aj (jS l k)):=amE _ _ l ok k rfl
@[simp]def awy(l:List (Int×Bool))(ok:Bool)(k:Int):EW .i (.bool false) ok (some (rB l)) (aj k)=some (True,if ok then .tuple [.bool ((dp k l).getD false),.bool (dp k l).isSome]else .bool ((dp k l).getD false)):=amD _ _ l ok k rfl
@[simp]def awA(l:List (Int×T))(ok:Bool)(k:Int):EW .i (.agg [aj 0,aj 0,.str [],.slice 4 .nil []]) ok (some (u2 l)) (aj k)=some (True,if ok then .tuple [yr (dp k l),.bool (dp k l).isSome]else yr (dp k l)):=amF _ _ l ok k rfl
@[simp]def axZ(o:bd T):b5 (yr o)=(o.getD .nil).e:=by cases o<;>simp[yr,ab4,b5,cf]
@[simp]def awn:[af.hdm 0 []]=k0 []:=rfl
def aE:af:= .eptr (.agg [.gmap (.obj 702),.gmap (.obj 703),.gmap (.obj 704),.gmap (.obj 705),.gmap (.obj 706),.gmap (.obj 707)])
def aD(c:bJ):List (aB×List af):=[(.obj 702,oI c.up),(.obj 703,u2 c.shape),(.obj 704,rB c.shaped),(.obj 705,oI c.color),(.obj 706,oI c.size),(.obj 707,u2 c.full)]
def aQ(c:bJ):cR:=⟨aD c,[]⟩
def cx(c:bJ):ez (aQ c):=by unfold aQ aD;exact ez.of ⟨by intro m;simp[ae],by intro m;simp[ae]⟩ Ψ Ψ
def Gj(c a:bJ):Same (aQ c) (aQ a):=by
 refine⟨fun k=>?_,fun k=>rfl⟩;simp only[aQ,aD,ae];repeat' split
 all_goals rfl
def sZ(c:bJ)(v r:Int)(d:bJ)(he:rt c v=some (r,d)):bG au 216 [aE,aj v] (aQ c) fun g j=>g=aj r/\j=aQ d:=by
 have f:=cx c;have e:=cx d;have e7:=Gj c d;simp only[rt,hq,jo]at he;obtain⟨⟨i,m1⟩,he,rfl,rfl⟩:=he;unfold aQ aD at f e e7⊢;simp only at e e7⊢;unfold aE;refine bG.mk mixed a6 Tryz.func216 anE Ψ f.obj fun o l=>?_;unfold Sj;simp;(with_reducible repeat' first|((first|apply ct|apply cz|apply cy)<;>intro h<;>try simp at h)|refine al ?_|simp);all_goals
  refine o7 (α:=Nat×Int×List (Int×Int)) (fun a=>⟨[(0,aE),(1,aj a.2.1)],[(.obj 702,oI a.2.2),(.obj 703,u2 c.shape),(.obj 704,rB c.shaped),(.obj 705,oI c.color),(.obj 706,oI c.size),(.obj 707,u2 c.full)],[],0,[.obj 702,.obj 703,.obj 704,.obj 705,.obj 706,.obj 707]⟩) (fun a=>a.1) (fun a=>yh a.1 a.2.2 a.2.1=some (i,m1)) (v.toNat+1,v,AG v c.up) (by simp[AG,h,aE];exact⟨by simp[fresh,aH,az,cc,aM,ae,aE],eo (by simp[fresh,aH,az,cc,aM,ae,aE]),ep (by simp[fresh,aH,az,dV,aM,ae,aE]),Ψ⟩) he ?_
  rintro⟨n,u,m⟩ b k
  simp only at b k⊢
  cases n with
  |zero=>simp[yh]at b
  |succ n=>
   simp only[yh]at b
   simp[aE]
   (with_reducible repeat' first|((first|apply ct|apply cz|apply cy)<;>intro h<;>try simp at h)|refine al ?_|simp)
   ·rw[if_neg h]at b
    refine bY.whl (n,jS (fA u (jS m (jS m u)) m) u,fA u (jS m (jS m u)) m) (Nat.lt_succ_self n) b ?_
    simp[aE]
    exact⟨by simp[fresh,aH,az,cc,aM,ae,aE],eo (by simp[fresh,aH,az,cc,aM,ae,aE]),ep (by simp[fresh,aH,az,dV,aM,ae,aE]),Ψ⟩
   ·rw[if_pos h]at b
    cases b
    refine c5.at _ (.inl rfl) e e7 aX aX ?_
    simp[dc,ba,be,a1]
end
section
open Go Go.Pv
def ai6(c:bJ)(v r:Int)(a:bJ)(he:rt c v=some (r,a)):bG au 245 [aj v,.eptr aE] (aQ c) fun e b=>e= .tuple []/\b=aQ a:=by have d:=cx c;simp only[aQ,aD]at d⊢;refine bG.mk mixed a6 Tryz.func245 anB Ψ d.obj fun g f=>?_;unfold Sg;simp[aE];(refine CallDo.ob (sZ c v r a he) ci bv bv d7 ?_;rintro r b ⟨rfl,rfl⟩;refine⟨(Same.keys co co),?_⟩;simp[cL,aQ,aD,aE]);(refine c5.at (aQ a) Ψ ci (Same.keys co co) bv bv ?_;simp[dc,ba,be,a1,aM,ae,aQ,aD,aE])
def Mo(c:bJ)(t:T)(b:bJ)(he:B3 t c=some b):bG au 217 [aE,t.e] (aQ c) fun f d=>f= .tuple []/\d=aQ b:=by
 have e:=cx c;have key:=Ml aQ cx Gj 245 [.eptr aE] (fun a=>by simp[aQ,aD,aE,aM,ae]) rfl (fun(v:Int) (c:bJ)=>(rt c v).map Prod.snd) (fun v a br h=>by rw[hq]at h;obtain⟨⟨r,g⟩,J,rfl⟩:=h;exact ai6 a v r g J) t c b he
 simp only[aQ,aD]at e⊢;refine bG.mk mixed a6 Tryz.func217 anA Ψ e.obj fun j i=>?_;unfold Sf;simp[aE];(refine CallDo.ob (key) ci bv bv d7 ?_;rintro r d ⟨rfl,rfl⟩;refine⟨(Same.keys co co),?_⟩;simp[cL,aQ,aD,aE]);(refine c5.at (aQ b) Ψ ci (Same.keys co co) bv bv ?_;simp[dc,ba,be,a1,aM,ae,aQ,aD,aE])
def ff(K:Nat)(a:bJ×List (Int×Bool)):cR:=⟨aD a.1++[(.obj K,rB a.2)],[]⟩
def gU(K:Nat)(a:vu):cR:=⟨aD a.c++[(.obj K,rB a.seen),(.obj 712,[.bool a.found])],[]⟩
def zO(K:Nat):Prop:=K=715\/K=716
def je{K:Nat}(b:zO K)(a):ez (ff K a):=by unfold ff aD;rcases b with rfl|rfl;all_goals exact ez.of ⟨by intro m;simp[ae],by intro m;simp[ae]⟩ Ψ Ψ
def q5{K:Nat}(b:zO K)(a):ez (gU K a):=by unfold gU aD;rcases b with rfl|rfl;all_goals exact ez.of ⟨by intro m;simp[ae],by intro m;simp[ae]⟩ Ψ Ψ
def Ku{K:Nat}(a b):Same (gU K a) (gU K b):=by
 refine⟨fun k=>?_,fun k=>rfl⟩;simp only[gU,aD,b7,ca,ae];repeat' split
 all_goals rfl
def ajc{K:Nat}(k:zO K)(n:Nat)(x:Int)(m:∀t c seen a,qP n x t c seen=some a->bG au 246 [aE,t.e,aj x,.gmap (.obj K)] (ff K (c,seen)) fun r g=>r= .bool a.found/\g=ff K (a.c,a.seen))
  (v:Int) (a br:vu) (he:yf (qP n x) x v a=some br):bG au 257 [aj v,.eptr aE,.ptr (.obj 712) 0,.eptr (aj x),.eptr (.gmap (.obj K))] (gU K a) fun r g=>r= .tuple []/\g=gU K br:=by
 have l:=q5 k a;simp only[yf,mX]at he;obtain⟨⟨r,b⟩,J,U⟩:=he;simp only at U;have o:=k;rcases o with rfl|rfl;all_goals
  simp only[gU,aD,b7,ca]at l⊢
  refine bG.mk mixed a6 Tryz.func257 anD Ψ l.obj fun u s=>?_;unfold Si
  simp[aE]
  (refine CallDo.ob (sZ a.c v r b J) ci bv bv d7 ?_;rintro r g ⟨rfl,rfl⟩;refine⟨(Same.keys co co),?_⟩;simp[cL,aQ,aD,aE])
  obtain⟨ac,e,q⟩:=a
  cases q with
  |true=>
   simp at U;subst U
   (repeat' first|refine al ?_|simp)
   (refine c5.at (gU _ ⟨b,e,true⟩) Ψ (by first|exact q5 _|exact q5 ‹_› _) (Same.keys (by simp[gU,aD,aE]) (by simp[gU,aD,aE])) d9 d9 ?_;simp[dc,ba,be,a1,aM,ae,gU,aD,aE])
  |false=>
   by_cases h:r=x
   ·simp[h]at U;subst U
    (repeat' first|refine al ?_|simp[h])
    (refine c5.at (gU _ ⟨b,e,true⟩) Ψ (by first|exact q5 _|exact q5 ‹_› _) (Same.keys (by simp[gU,aD,aE]) (by simp[gU,aD,aE])) d9 d9 ?_;simp[dc,ba,be,a1,aM,ae,gU,aD,aE])
   ·have i:(r==x)=false:=by simp[h]
    simp only[h,hR,or_self,if_false]at U
    cases d:(dp r e).getD false with
    |true=>
     simp[d]at U;subst U
     (repeat' first|refine al ?_|simp[i,d])
     (refine c5.at (gU _ ⟨b,e,false⟩) Ψ (by first|exact q5 _|exact q5 ‹_› _) (Same.keys (by simp[gU,aD,aE]) (by simp[gU,aD,aE])) d9 d9 ?_;simp[dc,ba,be,a1,aM,ae,gU,aD,aE])
    |false=>
     cases f:b.shd r with
     |false=>
      have j:(dp r b.shaped).getD false=false:=f
      simp[d,f]at U;subst U
      (repeat' first|refine al ?_|simp[i,d,j])
      (refine c5.at (gU _ ⟨b,e,false⟩) Ψ (by first|exact q5 _|exact q5 ‹_› _) (Same.keys (by simp[gU,aD,aE]) (by simp[gU,aD,aE])) d9 d9 ?_;simp[dc,ba,be,a1,aM,ae,gU,aD,aE])
     |true=>
      have j:(dp r b.shaped).getD false=true:=f
      simp[d,f]at U
      have p:=m _ _ _ _ U
      (repeat' first|refine al ?_|simp[i,d,j])
      (refine hK.ob (p) d8 d8 (Same.keys (by simp[ff,aD,aE]) (by simp[ff,aD,aE])) (by simp only[ff,aD,aE,b7,ca];exact aX) (by simp only[ff,aD,aE,b7,ca];exact aX) (by simp[aM,ae,ff,aD,aE]) ?_;simp[cL,ff,aD,aE])
      (repeat' first|refine al ?_|simp)
      (refine c5.at (gU _ br) Ψ (by first|exact q5 _|exact q5 ‹_› _) (Same.keys (by simp[gU,aD,aE]) (by simp[gU,aD,aE])) d9 d9 ?_;simp[dc,ba,be,a1,aM,ae,gU,aD,aE])
def Hs{K:Nat}(b:zO K)(x:Int)(n:Nat):∀(t:T) (c:bJ) (seen:List (Int×Bool)) (a:vu),qP n x t c seen=some a->bG au 246 [aE,t.e,aj x,.gmap (.obj K)] (ff K (c,seen)) fun r d=>r= .bool a.found/\d=ff K (a.c,a.seen):=by
 induction n with
 |zero=>intro t c seen a h;simp[qP]at h
 |succ n f=>
  intro t c seen a h;simp only[qP]at h;have e:=je b (c,seen);have key:=Ml (gU K) (q5 b) Ku 257 [.eptr aE,.ptr (.obj 712) 0,.eptr (aj x),.eptr (.gmap (.obj K))] (fun a=>by rcases b with rfl|rfl<;>simp[gU,aD,aE,aM,ae]) rfl (yf (qP n x) x) (fun v a br h=>ajc b n x f v a br h) t ⟨c,seen,false⟩ a h;have g:=b;rcases g with rfl|rfl;all_goals
   simp only[ff,aD,b7,ca]at e⊢
   refine bG.mk mixed a6 Tryz.func246 anC Ψ e.obj fun j i=>?_;unfold Sh
   simp[aE]
   refine CallDo.new key (q5 b _) d9 d9 (by simp[aM,ae,gU,aD,aE]) ?_
   rintro r d ⟨rfl,rfl⟩
   refine⟨fun m hm=>.inl ⟨?_,Ku _ _⟩,?_⟩
   ·exact((Ku _ _).inObs _).2 hm
   simp[cL,gU,aD]
   (repeat' first|refine al ?_|simp)
   (refine c5.at (ff _ (a.c,a.seen)) Ψ d8 (Same.keys (by simp[ff,aD,aE]) (by simp[ff,aD,aE])) (by simp only[ff,aD,aE,b7,ca];exact aX) (by simp only[ff,aD,aE,b7,ca];exact aX) ?_;simp[dc,ba,be,a1,aM,ae,ff,aD,aE])
@[simp]def Og:rB []=k0 []:=rfl
@[simp]def ax2(t:T):yr (some t)=t.e:=rfl
@[simp]def ax1:yr none= .agg [aj 0,aj 0,.str [],.slice 4 .nil []]:=rfl
def VH(n:Nat)(x:Int)(t:T)(c:bJ)(p:Bool×bJ)(he:wq n x t c=some p):bG au 247 [aE,aj x,t.e] (aQ c) fun r b=>r= .bool p.1/\b=aQ p.2:=by have d:=cx c;simp only[wq,hq]at he;obtain⟨a,J,rfl⟩:=he;have e:zO 715:= .inl rfl;have key:=Hs e x n t (c.know x t) [] a J;simp only[aQ,aD]at d⊢;refine bG.mk mixed a6 Tryz.func247 anz Ψ d.obj fun g f=>?_;unfold Se;simp[aE];(refine CallDo.ob (key) d8 (by simp only[ff,aD,aE,bJ.know,b7,ca];exact aX) (by simp only[ff,aD,aE,bJ.know,b7,ca];exact aX) (by simp[aM,ae,ff,aD,aE,bJ.know]) ?_;rintro r b ⟨rfl,rfl⟩;refine⟨(Same.keys (by simp[ff,aD,aE,bJ.know]) (by simp[ff,aD,aE,bJ.know])),?_⟩;simp[cL,ff,aD,aE,bJ.know]);(refine c5.at (aQ a.c) Ψ ci (Same.keys co co) bv bv ?_;simp[dc,ba,be,a1,aM,ae,aQ,aD,aE])
def VD(n:Nat):∀(a b:T) (c:bJ) (p:Bool×bJ),hs n a b c=some p->bG au 218 [aE,a.e,b.e] (aQ c) fun r w=>r= .bool p.1/\w=aQ p.2:=by
 induction n with
 |zero=>intro a b c p h;simp[hs]at h
 |succ n L=>
  intro a b c p he;have t:=cx c;have Ew:∀i j,a= .var i->b= .var j->bG au 218 [aE,a.e,b.e] (aQ c) fun r w=>r= .bool p.1/\w=aQ p.2:=by
   rintro i j rfl rfl;simp only[hs,mX]at he;obtain⟨⟨x,A⟩,J,⟨y,s⟩,U,E⟩:=he;simp only at U E;simp only[aQ,aD]at t⊢;refine bG.mk mixed a6 Tryz.func218 zQ Ψ t.obj fun M K=>?_;unfold w2;simp[aE];(refine CallDo.ob (sZ c i x A J) ci bv bv d7 ?_;rintro r w ⟨rfl,rfl⟩;refine⟨(Same.keys co co),?_⟩;simp[cL,aQ,aD,aE]);(repeat' first|refine al ?_|simp);(refine CallDo.ob (sZ A j y s U) ci bv bv d7 ?_;rintro r w ⟨rfl,rfl⟩;refine⟨(Same.keys co co),?_⟩;simp[cL,aQ,aD,aE]);by_cases V:x=y
   ·rw[if_pos V]at E;cases E;(repeat' first|refine al ?_|simp[V]);(refine c5.at (aQ s) Ψ ci (Same.keys co co) bv bv ?_;simp[dc,ba,be,a1,aM,ae,aQ,aD,aE])
   ·rw[if_neg V]at E;have O:(x==y)=false:=by simp[V]
    have V2:zO 715:= .inl rfl;have Z:zO 716:= .inr rfl;obtain⟨u,v,P,z⟩:∃u v,((u=y/\v=x/\y<x)\/(u=x/\v=y/\¬y<x))/\sX (hs n) n u v (s.join u v)=some p:=by
     by_cases q:y<x
     ·rw[if_pos q]at E;exact⟨y,x,.inl ⟨rfl,rfl,q⟩,E⟩
     ·rw[if_neg q]at E;exact⟨x,y,.inr ⟨rfl,rfl,q⟩,E⟩
    clear E;obtain⟨d,G⟩:∃d,d=s.join u v:=⟨_,rfl⟩;have m:d.up=fA v u s.up:=by rw[G];rfl
    have f:d.shape=s.shape:=by rw[G];rfl
    have e:d.shaped=s.shaped:=by rw[G];rfl
    have k:d.color=s.color:=by rw[G];rfl
    have g:d.size=s.size:=by rw[G];rfl
    have l:d.full=s.full:=by rw[G];rfl
    rw[<-G]at z;simp only[sX]at z;cases N:d.shd v with
    |false=>
     have F:(dp v s.shaped).getD false=false:=by rw[<-e];exact N
     rw[if_pos N]at z;cases hu:d.shd u with
     |false=>
      have B:(dp u s.shaped).getD false=false:=by rw[<-e];exact hu
      rw[if_pos hu]at z;cases z;rcases P with⟨rfl,rfl,q⟩|⟨rfl,rfl,q⟩;all_goals
       (repeat' first|refine al ?_|simp[O,q,F,B])
       (refine c5.at (aQ d) Ψ ci (Same.keys (by simp[aQ,aD,aE,m,f,e,k,g,l]) (by simp[aQ,aD,aE,m,f,e,k,g,l])) (by simp only[aQ,aD,aE,m,f,e,k,g,l,b7,ca];exact aX) (by simp only[aQ,aD,aE,m,f,e,k,g,l,b7,ca];exact aX) ?_;simp[dc,ba,be,a1,aM,ae,aQ,aD,aE,m,f,e,k,g,l])
     |true=>
      have B:(dp u s.shaped).getD false=true:=by rw[<-e];exact hu
      rw[if_neg (by simp[hu]),hq]at z;obtain⟨a,Y,rfl⟩:=z;have key:=Hs V2 u n _ _ _ _ Y;rw[show d.shp u=(dp u s.shape).getD .nil from by rw[<-f];rfl]at key;rcases P with⟨rfl,rfl,q⟩|⟨rfl,rfl,q⟩;all_goals
       (repeat' first|refine al ?_|simp[O,q,F,B])
       (refine CallDo.ob (key) d8 (by simp only[ff,aD,aE,m,f,e,k,g,l,b7,ca];exact aX) (by simp only[ff,aD,aE,m,f,e,k,g,l,b7,ca];exact aX) (by simp[aM,ae,ff,aD,aE,m,f,e,k,g,l]) ?_;rintro r w ⟨rfl,rfl⟩;refine⟨(Same.keys (by simp[ff,aD,aE,m,f,e,k,g,l]) (by simp[ff,aD,aE,m,f,e,k,g,l])),?_⟩;simp[cL,ff,aD,aE,m,f,e,k,g,l])
       (repeat' first|refine al ?_|simp)
       (refine c5.at (aQ a.c) Ψ ci (Same.keys co co) bv bv ?_;simp[dc,ba,be,a1,aM,ae,aQ,aD,aE])
    |true=>
     have F:(dp v s.shaped).getD false=true:=by rw[<-e];exact N
     rw[if_neg (by simp[N])]at z;rw[show d.shp v=(dp v s.shape).getD .nil from by rw[<-f];rfl]at z;cases hu:d.shd u with
     |false=>
      have B:(dp u s.shaped).getD false=false:=by rw[<-e];exact hu
      rw[if_pos hu]at z;have key:=VH n u _ d p z;cases H:dp v s.shape;all_goals
       rw[H]at key
       simp only[lI,k5]at key
       rcases P with⟨rfl,rfl,q⟩|⟨rfl,rfl,q⟩
       all_goals
        (repeat' first|refine al ?_|simp[O,q,F,B,H])
        (refine CallDo.ob (key) ci (by simp only[aQ,aD,aE,m,f,e,k,g,l,b7,ca];exact aX) (by simp only[aQ,aD,aE,m,f,e,k,g,l,b7,ca];exact aX) (by simp[aM,ae,aQ,aD,aE,m,f,e,k,g,l]) ?_;rintro r w ⟨rfl,rfl⟩;refine⟨(Same.keys (by simp[aQ,aD,aE,m,f,e,k,g,l]) (by simp[aQ,aD,aE,m,f,e,k,g,l])),?_⟩;simp[cL,aQ,aD,aE,m,f,e,k,g,l])
        (repeat' first|refine al ?_|simp)
        (refine c5.at (aQ p.2) Ψ ci (Same.keys co co) bv bv ?_;simp[dc,ba,be,a1,aM,ae,aQ,aD,aE])
     |true=>
      have B:(dp u s.shaped).getD false=true:=by rw[<-e];exact hu
      rw[if_neg (by simp[hu]),mX]at z;obtain⟨a,Y,R⟩:=z;have key:=Hs V2 u n _ _ _ _ Y;obtain⟨o,H⟩:∃o,dp v s.shape=o:=⟨_,rfl⟩;rw[H]at key R;obtain⟨ac,CN,KK⟩:=a;cases KK with
      |true=>
       simp at R;subst R;cases o;all_goals
        simp only[lI,k5]at key
        rcases P with⟨rfl,rfl,q⟩|⟨rfl,rfl,q⟩
        all_goals
         (repeat' first|refine al ?_|simp[O,q,F,B,H])
         (refine hK.ob (key) d8 d8 (Same.keys (by simp[ff,aD,aE,m,f,e,k,g,l]) (by simp[ff,aD,aE,m,f,e,k,g,l])) (by simp only[ff,aD,aE,m,f,e,k,g,l,b7,ca];exact aX) (by simp only[ff,aD,aE,m,f,e,k,g,l,b7,ca];exact aX) (by simp[aM,ae,ff,aD,aE,m,f,e,k,g,l]) ?_;simp[cL,ff,aD,aE,m,f,e,k,g,l])
         (repeat' first|refine al ?_|simp)
         (refine c5.at (aQ ac) Ψ ci (Same.keys co co) bv bv ?_;simp[dc,ba,be,a1,aM,ae,aQ,aD,aE])
      |false=>
       simp only[hR,if_false,mX]at R;obtain⟨b,eb,S⟩:=R;have Q:=Hs Z u n _ _ _ _ eb;rw[show ac.shp u=(dp u ac.shape).getD .nil from rfl]at Q;obtain⟨KR,atT,ad4⟩:=b;cases ad4 with
       |true=>
        simp at S;subst S;cases o;all_goals
         simp only[lI,k5]at key
         rcases P with⟨rfl,rfl,q⟩|⟨rfl,rfl,q⟩
         all_goals
          (repeat' first|refine al ?_|simp[O,q,F,B,H])
          (refine hK.ob (key) d8 d8 (Same.keys (by simp[ff,aD,aE,m,f,e,k,g,l]) (by simp[ff,aD,aE,m,f,e,k,g,l])) (by simp only[ff,aD,aE,m,f,e,k,g,l,b7,ca];exact aX) (by simp only[ff,aD,aE,m,f,e,k,g,l,b7,ca];exact aX) (by simp[aM,ae,ff,aD,aE,m,f,e,k,g,l]) ?_;simp[cL,ff,aD,aE,m,f,e,k,g,l])
          (repeat' first|refine al ?_|simp)
          (refine hK.ob (Q) d8 d8 (Same.keys (by simp[ff,aD,aE]) (by simp[ff,aD,aE])) (by simp only[ff,aD,aE,b7,ca];exact aX) (by simp only[ff,aD,aE,b7,ca];exact aX) (by simp[aM,ae,ff,aD,aE]) ?_;simp[cL,ff,aD,aE])
          (repeat' first|refine al ?_|simp)
          (refine c5.at (aQ KR) Ψ ci (Same.keys co co) bv bv ?_;simp[dc,ba,be,a1,aM,ae,aQ,aD,aE])
       |false=>
        simp only[hR,if_false]at S;have NT:=L _ _ _ _ S;rw[show KR.shp u=(dp u KR.shape).getD .nil from rfl]at NT;cases o;all_goals
         simp only[lI,k5]at key NT
         rcases P with⟨rfl,rfl,q⟩|⟨rfl,rfl,q⟩
         all_goals
          (repeat' first|refine al ?_|simp[O,q,F,B,H])
          (refine hK.ob (key) d8 d8 (Same.keys (by simp[ff,aD,aE,m,f,e,k,g,l]) (by simp[ff,aD,aE,m,f,e,k,g,l])) (by simp only[ff,aD,aE,m,f,e,k,g,l,b7,ca];exact aX) (by simp only[ff,aD,aE,m,f,e,k,g,l,b7,ca];exact aX) (by simp[aM,ae,ff,aD,aE,m,f,e,k,g,l]) ?_;simp[cL,ff,aD,aE,m,f,e,k,g,l])
          (repeat' first|refine al ?_|simp)
          (refine hK.ob (Q) d8 d8 (Same.keys (by simp[ff,aD,aE]) (by simp[ff,aD,aE])) (by simp only[ff,aD,aE,b7,ca];exact aX) (by simp only[ff,aD,aE,b7,ca];exact aX) (by simp[aM,ae,ff,aD,aE]) ?_;simp[cL,ff,aD,aE])
          (repeat' first|refine al ?_|simp)
          (refine hK.ob (NT) ci ci (Same.keys co co) bv bv d7 ?_;simp[cL,aQ,aD,aE])
          (repeat' first|refine al ?_|simp)
          (refine c5.at (aQ p.2) Ψ ci (Same.keys co co) bv bv ?_;simp[dc,ba,be,a1,aM,ae,aQ,aD,aE])
  have N:∀i,a= .var i->b.kind≠1->bG au 218 [aE,a.e,b.e] (aQ c) fun r w=>r= .bool p.1/\w=aQ p.2:=by
   rintro i rfl ag;have xp:((rt c i).bind fun p=>if p.2.shd p.1=false then wq n p.1 b p.2 else hs n (p.2.shp p.1) b p.2)=some p:=by cases b<;>first|exact he|simp at ag
   simp only[mX]at xp;obtain⟨⟨x,A⟩,J,U⟩:=xp;simp only at U;have dZ:(b.kind==1)=false:=by simp[ag]
   simp only[aQ,aD]at t⊢;refine bG.mk mixed a6 Tryz.func218 zQ Ψ t.obj fun M K=>?_;unfold w2;simp[aE];(repeat' first|refine al ?_|simp[dZ,ag]);(refine CallDo.ob (sZ c i x A J) ci bv bv d7 ?_;rintro r w ⟨rfl,rfl⟩;refine⟨(Same.keys co co),?_⟩;simp[cL,aQ,aD,aE]);cases W:A.shd x with
   |false=>have X:(dp x A.shaped).getD false=false:=W;rw[if_pos W]at U;(repeat' first|refine al ?_|simp[X]);(refine CallDo.ob (VH n x b A p U) ci bv bv d7 ?_;rintro r w ⟨rfl,rfl⟩;refine⟨(Same.keys co co),?_⟩;simp[cL,aQ,aD,aE]);(refine c5.at (aQ p.2) Ψ ci (Same.keys co co) bv bv ?_;simp[dc,ba,be,a1,aM,ae,aQ,aD,aE])
   |true=>have X:(dp x A.shaped).getD false=true:=W;rw[if_neg (by simp[W])]at U;have key:=L _ _ _ _ U;(repeat' first|refine al ?_|simp[X]);(refine hK.ob (key) ci ci (Same.keys co co) bv bv d7 ?_;simp[cL,aQ,aD,aE]);(repeat' first|refine al ?_|simp);(refine c5.at (aQ p.2) Ψ ci (Same.keys co co) bv bv ?_;simp[dc,ba,be,a1,aM,ae,aQ,aD,aE])
  cases a with
  |var i=>
   cases b with
   |var j=>exact Ew i j rfl rfl
   |_=>exact N i rfl Ψ
  |pair bq a2=>
   cases b with
   |var j=>simp only[hs]at he;have key:=L _ _ _ _ he;simp only[aQ,aD]at t⊢;refine bG.mk mixed a6 Tryz.func218 zQ Ψ t.obj fun M K=>?_;unfold w2;simp[aE];(refine CallDo.ob (key) ci bv bv d7 ?_;rintro r w ⟨rfl,rfl⟩;refine⟨(Same.keys co co),?_⟩;simp[cL,aQ,aD,aE]);(refine c5.at (aQ p.2) Ψ ci (Same.keys co co) bv bv ?_;simp[dc,ba,be,a1,aM,ae,aQ,aD,aE])
   |pair cm b8=>
    simp only[hs,mX]at he;obtain⟨⟨f1,A⟩,J,U⟩:=he;have key:=L _ _ _ _ J;simp only[aQ,aD]at t⊢;refine bG.mk mixed a6 Tryz.func218 zQ Ψ t.obj fun M K=>?_;unfold w2;simp[aE];(repeat' first|refine al ?_|simp);(refine hK.ob (key) ci ci (Same.keys co co) bv bv d7 ?_;simp[cL,aQ,aD,aE]);cases f1 with
    |false=>simp at U;subst U;(repeat' first|refine al ?_|simp);(refine c5.at (aQ A) Ψ ci (Same.keys co co) bv bv ?_;simp[dc,ba,be,a1,aM,ae,aQ,aD,aE])
    |true=>simp at U;have Q:=L _ _ _ _ U;(repeat' first|refine al ?_|simp);(refine hK.ob (Q) ci ci (Same.keys co co) bv bv d7 ?_;simp[cL,aQ,aD,aE]);(repeat' first|refine al ?_|simp);(refine c5.at (aQ p.2) Ψ ci (Same.keys co co) bv bv ?_;simp[dc,ba,be,a1,aM,ae,aQ,aD,aE])
   |_=>simp[hs]at he;subst he;simp only[aQ,aD]at t⊢;refine bG.mk mixed a6 Tryz.func218 zQ Ψ t.obj fun M K=>?_;unfold w2;simp[aE];(refine c5.at (aQ c) Ψ ci (Same.keys co co) bv bv ?_;simp[dc,ba,be,a1,aM,ae,aQ,aD,aE])
  |_=>
   cases b with
   |var j=>simp only[hs]at he;have key:=L _ _ _ _ he;simp only[aQ,aD]at t⊢;refine bG.mk mixed a6 Tryz.func218 zQ Ψ t.obj fun M K=>?_;unfold w2;simp[aE];(refine CallDo.ob (key) ci bv bv d7 ?_;rintro r w ⟨rfl,rfl⟩;refine⟨(Same.keys co co),?_⟩;simp[cL,aQ,aD,aE]);(refine c5.at (aQ p.2) Ψ ci (Same.keys co co) bv bv ?_;simp[dc,ba,be,a1,aM,ae,aQ,aD,aE])
   |_=>
    simp[hs]at he;subst he;simp only[aQ,aD]at t⊢;refine bG.mk mixed a6 Tryz.func218 zQ Ψ t.obj fun M K=>?_;unfold w2;simp[aE];((repeat' first|refine al ?_|simp|((first|apply ct|apply cz|apply cy)<;>intro h<;>try simp at h))<;>(try exact c3));all_goals(refine c5.at (aQ c) Ψ ci (Same.keys co co) bv bv ?_;simp[dc,ba,be,a1,aM,ae,aQ,aD,aE])
    all_goals simp_all
def nJ(c:bJ):Prop:= ∀x,0<=c.sz x/\c.sz x<=5001
def nJ.rt{c:bJ}(h:nJ c){v r:Int}{a:bJ}(he:rt c v=some (r,a)):nJ a:=by simp only[Pv.rt,hq,jo]at he;obtain⟨p,_,_,rfl⟩:=he;exact h
def nJ.put{c:bJ}(h:nJ c){x k:Int}(a:0<=k/\k<=5001)(m:List (Int×Int)):nJ {c with size:=fA x k c.size,color:=m}:=fun z=>by
 show 0<=(dp z (fA x k c.size)).getD 0/\(dp z (fA x k c.size)).getD 0<=5001;rw[oS];split
 ·exact a
 ·exact h z
def aju(c:bJ)(v:Int)(p:Int×bJ)(he:Ah v c=some p):bG au 259 [aj v,.eptr aE] (aQ c) fun r d=>r=aj p.1/\d=aQ p.2:=by have b:=cx c;simp only[Ah,hq]at he;obtain⟨⟨r,a⟩,J,rfl⟩:=he;simp only[aQ,aD]at b⊢;refine bG.mk mixed a6 Tryz.func259 anH Ψ b.obj fun f e=>?_;unfold Sm;simp[aE];(refine hK.ob (sZ c v r a J) ci ci (Same.keys co co) bv bv d7 ?_;simp[cL,aQ,aD,aE]);(repeat' first|refine al ?_|simp);(refine c5.at (aQ a) Ψ ci (Same.keys co co) bv bv ?_;simp[dc,ba,be,a1,aM,ae,aQ,aD,aE]);all_goals rfl
def hh(a:bJ×Bool):cR:=⟨aD a.1++[(.obj 712,[.bool a.2])],[]⟩
def rY(a):ez (hh a):=by unfold hh aD;exact ez.of ⟨by intro m;simp[ae],by intro m;simp[ae]⟩ Ψ Ψ
def adx(a b):Same (hh a) (hh b):=Same.keys (by simp[hh,aD]) (by simp[hh,aD])
def ajt(n:Nat)(h:∀x c p,rO n x c=some p->nJ c->nJ p.2/\bG au 248 [aE,aj x] (aQ c) fun r d=>r= .bool p.1/\d=aQ p.2)
  (v:Int) (a br:bJ×Bool) (g:nJ a.1) (he:Ar (rO n) v a=some br):nJ br.1/\bG au 258 [aj v,.ptr (.obj 712) 0,.eptr aE] (hh a) fun r d=>r= .tuple []/\d=hh br:=by
 have b:=rY a;obtain⟨c,f⟩:=a;cases f with
 |false=>simp[Ar]at he;subst he;refine⟨g,?_⟩;simp only[hh,aD,b7,ca]at b⊢;refine bG.mk mixed a6 Tryz.func258 Zh Ψ b.obj fun k i=>?_;unfold K0;simp[aE];(repeat' first|refine al ?_|simp);(refine c5.at (hh (c,false)) Ψ (by first|exact rY _|exact rY ‹_› _) (Same.keys (by simp[hh,aD,aE]) (by simp[hh,aD,aE])) (by simp only[hh,aD,aE,b7,ca];exact aX) (by simp only[hh,aD,aE,b7,ca];exact aX) ?_;simp[dc,ba,be,a1,aM,ae,hh,aD,aE])
 |true=>
  simp only[Ar,if_true,mX,hq]at he;obtain⟨⟨r,j⟩,J,⟨f2,e⟩,U,rfl⟩:=he;obtain⟨z2,key⟩:=h _ _ _ U (g.rt J);refine⟨z2,?_⟩;simp only[hh,aD,b7,ca]at b⊢;refine bG.mk mixed a6 Tryz.func258 Zh Ψ b.obj fun k i=>?_;unfold K0;simp[aE];(repeat' first|refine al ?_|simp);(refine hK.ob (sZ c v r j J) ci ci (Same.keys co co) bv bv d7 ?_;simp[cL,aQ,aD,aE]);(repeat' first|refine al ?_|simp);(refine hK.ob (key) ci ci (Same.keys co co) bv bv d7 ?_;simp[cL,aQ,aD,aE]);cases f2 with
  |true=>(repeat' first|refine al ?_|simp);(refine c5.at (hh (e,true)) Ψ (by first|exact rY _|exact rY ‹_› _) (Same.keys (by simp[hh,aD,aE]) (by simp[hh,aD,aE])) (by simp only[hh,aD,aE,b7,ca];exact aX) (by simp only[hh,aD,aE,b7,ca];exact aX) ?_;simp[dc,ba,be,a1,aM,ae,hh,aD,aE])
  |false=>(repeat' first|refine al ?_|simp);(refine c5.at (hh (e,false)) Ψ (by first|exact rY _|exact rY ‹_› _) (Same.keys (by simp[hh,aD,aE]) (by simp[hh,aD,aE])) (by simp only[hh,aD,aE,b7,ca];exact aX) (by simp only[hh,aD,aE,b7,ca];exact aX) ?_;simp[dc,ba,be,a1,aM,ae,hh,aD,aE])
def ajs(n:Nat):∀(x:Int) (c:bJ) (p:Bool×bJ),rO n x c=some p->nJ c->nJ p.2/\bG au 248 [aE,aj x] (aQ c) fun r t=>r= .bool p.1/\t=aQ p.2:=by
 induction n with
 |zero=>intro x c p h;simp[rO]at h
 |succ n B=>
  intro x c p he d;have b:=cx c;simp only[rO]at he;by_cases U:c.col x=2
  ·rw[if_pos U]at he;cases he;have l:jS c.color x=2:=U;refine⟨d,?_⟩;simp only[aQ,aD]at b⊢;refine bG.mk mixed a6 Tryz.func248 E6 Ψ b.obj fun s q=>?_;unfold AO;simp[aE];(repeat' first|refine al ?_|simp[l]);(refine c5.at (aQ c) Ψ ci (Same.keys co co) bv bv ?_;simp[dc,ba,be,a1,aM,ae,aQ,aD,aE])
  rw[if_neg U]at he;have l:(jS c.color x==2)=false:=by simp;exact U
  by_cases J:c.col x=1
  ·rw[if_pos J]at he;cases he;have g:jS c.color x=1:=J;refine⟨d,?_⟩;simp only[aQ,aD]at b⊢;refine bG.mk mixed a6 Tryz.func248 E6 Ψ b.obj fun s q=>?_;unfold AO;simp[aE];(repeat' first|refine al ?_|simp[g]);(refine c5.at (aQ c) Ψ ci (Same.keys co co) bv bv ?_;simp[dc,ba,be,a1,aM,ae,aQ,aD,aE])
  rw[if_neg J]at he;have g:(jS c.color x==1)=false:=by simp;exact J
  have y:nJ (c.grey x):=d.put Ω _;cases o:(c.grey x).shd x with
  |false=>rw[if_pos o]at he;cases he;have m:(dp x c.shaped).getD false=false:=o;refine⟨y,?_⟩;simp only[aQ,aD]at b⊢;refine bG.mk mixed a6 Tryz.func248 E6 Ψ b.obj fun s q=>?_;unfold AO;simp[aE];(repeat' first|refine al ?_|simp[l,g,m]);(refine c5.at (aQ ((c.grey x).black x)) Ψ ci (Same.keys (by simp[aQ,aD,aE,bJ.grey,bJ.black]) (by simp[aQ,aD,aE,bJ.grey,bJ.black])) (by simp only[aQ,aD,aE,bJ.grey,bJ.black,b7,ca];exact aX) (by simp only[aQ,aD,aE,bJ.grey,bJ.black,b7,ca];exact aX) ?_;simp[dc,ba,be,a1,aM,ae,aQ,aD,aE,bJ.grey,bJ.black])
  |true=>
   rw[if_neg (by simp[o]),mX]at he;have m:(dp x c.shaped).getD false=true:=o;obtain⟨⟨e,f⟩,E,j⟩:=he;simp only at j;obtain⟨i,key⟩:=VC hh rY adx 258 [.ptr (.obj 712) 0,.eptr aE] (fun a=>by simp[hh,aD,aE,aM,ae]) rfl (fun a=>nJ a.1) (Ar (rO n)) (fun v a br d h=>ajt n B v a br d h) _ _ _ y E;rw[show(c.grey x).shp x=(dp x c.shape).getD .nil from rfl]at key;cases f with
   |false=>simp at j;subst j;refine⟨i,?_⟩;simp only[aQ,aD]at b⊢;refine bG.mk mixed a6 Tryz.func248 E6 Ψ b.obj fun s q=>?_;unfold AO;simp[aE];(repeat' first|refine al ?_|simp[l,g,m]);(refine CallDo.ob (key) (by first|exact rY _|exact rY ‹_› _) (by simp only[hh,aD,aE,bJ.grey,b7,ca];exact aX) (by simp only[hh,aD,aE,bJ.grey,b7,ca];exact aX) (by simp[aM,ae,hh,aD,aE,bJ.grey]) ?_;rintro r t ⟨rfl,rfl⟩;refine⟨(Same.keys (by simp[hh,aD,aE,bJ.grey]) (by simp[hh,aD,aE,bJ.grey])),?_⟩;simp[cL,hh,aD,aE,bJ.grey]);(repeat' first|refine al ?_|simp);(refine c5.at (aQ e) Ψ ci (Same.keys co co) bv bv ?_;simp[dc,ba,be,a1,aM,ae,aQ,aD,aE])
   |true=>
    rw[if_neg Ψ,hq]at j;obtain⟨⟨k,w⟩,z,rfl⟩:=j;obtain⟨z2,A,u⟩:=aji aQ cx Gj 259 [.eptr aE] (fun a=>by simp[aQ,aD,aE,aM,ae]) rfl nJ Ah (fun v a p d h=>by simp only[Ah,hq]at h;obtain⟨⟨r,F⟩,J,rfl⟩:=h;exact⟨d.rt J,(d.rt J r).1,Int.le_trans (d.rt J r).2 Ω⟩) (fun v a p _ h=>aju a v p h) _ _ _ i z
    rw[show bJ.shp e x=(dp x e.shape).getD .nil from rfl]at u;refine⟨z2.put A _,?_⟩;simp only[aQ,aD]at b⊢;refine bG.mk mixed a6 Tryz.func248 E6 Ψ b.obj fun s q=>?_;unfold AO;simp[aE];(repeat' first|refine al ?_|simp[l,g,m]);(refine CallDo.ob (key) (by first|exact rY _|exact rY ‹_› _) (by simp only[hh,aD,aE,bJ.grey,b7,ca];exact aX) (by simp only[hh,aD,aE,bJ.grey,b7,ca];exact aX) (by simp[aM,ae,hh,aD,aE,bJ.grey]) ?_;rintro r t ⟨rfl,rfl⟩;refine⟨(Same.keys (by simp[hh,aD,aE,bJ.grey]) (by simp[hh,aD,aE,bJ.grey])),?_⟩;simp[cL,hh,aD,aE,bJ.grey]);(repeat' first|refine al ?_|simp);(refine hK.ob (u) ci ci (Same.keys co co) bv bv d7 ?_;simp[cL,aQ,aD,aE]);(repeat' first|refine al ?_|simp);(refine c5.at (aQ (({w with size:=fA x k w.size}:bJ).black x)) Ψ ci (Same.keys (by simp[aQ,aD,aE,bJ.black]) (by simp[aQ,aD,aE,bJ.black])) (by simp only[aQ,aD,aE,bJ.black,b7,ca];exact aX) (by simp only[aQ,aD,aE,bJ.black,b7,ca];exact aX) ?_;simp[dc,ba,be,a1,aM,ae,aQ,aD,aE,bJ.black])
def ajr(n:Nat)(d:∀x c p,rN n x c=some p->bG au 249 [aE,aj x] (aQ c) fun r a=>r=p.1.e/\a=aQ p.2)
  (v:Int) (c:bJ) (p:T×bJ) (he:C1 (rN n) v c=some p):bG au 260 [aj v,.eptr aE] (aQ c) fun r a=>r= .tuple [p.1.e,.bool true]/\a=aQ p.2:=by
 have b:=cx c;simp only[C1,mX]at he;obtain⟨⟨r,e⟩,J,U⟩:=he;have key:=d _ _ _ U;simp only[aQ,aD]at b⊢;refine bG.mk mixed a6 Tryz.func260 anG Ψ b.obj fun g f=>?_;unfold Sl;simp[aE];(repeat' first|refine al ?_|simp);(refine hK.ob (sZ c v r e J) ci ci (Same.keys co co) bv bv d7 ?_;simp[cL,aQ,aD,aE]);(repeat' first|refine al ?_|simp);(refine hK.ob (key) ci ci (Same.keys co co) bv bv d7 ?_;simp[cL,aQ,aD,aE]);(repeat' first|refine al ?_|simp);(refine c5.at (aQ p.2) Ψ ci (Same.keys co co) bv bv ?_;simp[dc,ba,be,a1,aM,ae,aQ,aD,aE])
def l3(n:Int):bU au 116 [aj n] (T.var n).e:=by refine bI a6 Tryz.func116 anZ fun a=>?_;unfold SF;exact cr
def ajq(n:Nat):∀(x:Int) (c:bJ) (p:T×bJ),rN n x c=some p->bG au 249 [aE,aj x] (aQ c) fun r j=>r=p.1.e/\j=aQ p.2:=by
 induction n with
 |zero=>intro x c p h;simp[rN]at h
 |succ n l=>
  intro x c p he;have b:=cx c;simp only[rN]at he;cases d:dp x c.full with
  |some t=>rw[d]at he;cases he;simp only[aQ,aD]at b⊢;refine bG.mk mixed a6 Tryz.func249 OZ Ψ b.obj fun k g=>?_;unfold GC;simp[aE];(repeat' first|refine al ?_|simp[d]);(refine c5.at (aQ c) Ψ ci (Same.keys co co) bv bv ?_;simp[dc,ba,be,a1,aM,ae,aQ,aD,aE])
  |none=>
   rw[d]at he;simp only at he;cases e:c.shd x with
   |false=>have f:(dp x c.shaped).getD false=false:=e;rw[if_pos e]at he;cases he;simp only[aQ,aD]at b⊢;refine bG.mk mixed a6 Tryz.func249 OZ Ψ b.obj fun k g=>?_;unfold GC;simp[aE];(repeat' first|refine al ?_|refine aO (l3 _) ?_|refine aP (l3 _) ?_|simp[d,f]);(refine c5.at (aQ {c with full:=fA x (.var x) c.full}) Ψ ci (Same.keys co co) bv bv ?_;simp[dc,ba,be,a1,aM,ae,aQ,aD,aE])
   |true=>have f:(dp x c.shaped).getD false=true:=e;rw[if_neg (by simp[e]),hq]at he;obtain⟨⟨t,i⟩,J,rfl⟩:=he;have key:=aiX aQ cx Gj 260 [.eptr aE] (fun a=>by simp[aQ,aD,aE,aM,ae]) rfl (C1 (rN n)) (fun v a p h=>ajr n l v a p h) _ _ _ J;rw[show c.shp x=(dp x c.shape).getD .nil from rfl]at key;simp only[aQ,aD]at b⊢;refine bG.mk mixed a6 Tryz.func249 OZ Ψ b.obj fun k g=>?_;unfold GC;simp[aE];(repeat' first|refine al ?_|refine aO (l3 _) ?_|refine aP (l3 _) ?_|simp[d,f]);(refine CallDo.ob (key) ci bv bv d7 ?_;rintro r j ⟨rfl,rfl⟩;refine⟨(Same.keys co co),?_⟩;simp[cL,aQ,aD,aE]);(repeat' first|refine al ?_|simp);(refine c5.at (aQ {i with full:=fA x t i.full}) Ψ ci (Same.keys co co) bv bv ?_;simp[dc,ba,be,a1,aM,ae,aQ,aD,aE])
def ai7:bG au 215 [] ⟨[],[]⟩ fun r a=>r=aE/\a=aQ bJ.new:=by have b:ez ⟨[],[]⟩:=ez.of sx Ψ Ψ;refine bG.mk mixed a6 Tryz.func215 anO Ψ b.obj fun d c=>?_;unfold Su;simp;refine c5.new (aQ bJ.new) (.inl rfl) (cx _) ⟨trivial,trivial⟩ (by simp only[aQ,aD,bJ.new];exact aX) (by simp only[aQ,aD,bJ.new];exact aX) ?_;simp[dc,ba,be,a1,aM,ae,aQ,aD,aE]
def abI{a b:List Int}(h:a.Perm b):sD a=sD b:=by
 have e:∀a b c:Int,(decide (a<=b))=true->(decide (b<=c))=true->(decide (a<=c))=true:=by intro a b c;simp;omega
 have d:∀a b:Int,(decide (a<=b)||decide (b<=a))=true:=by intro a b;simp;omega
 have J:=List.pairwise_mergeSort e d a;have U:=List.pairwise_mergeSort e d b;refine Re (le:=fun x y:Int=>(decide (x<=y))=true) (fun x y _ _ J U=>by simp at J U;omega) J U ?_;exact(List.mergeSort_perm a _).trans (h.trans (List.mergeSort_perm b _).symm)
def alE(l:List Int)(k:Nat)(st:bp):Prop:=∃(seen:List Nat) (xs:List Int),seen.Nodup/\(∀b∈seen,b<l.length)/\k=l.length-seen.length/\xs=seen.filterMap (fun b=>l[b]?)/\xs.length=seen.length/\st=⟨[(3,.row 1 (.obj 306) xs.length),(7,.ptr (.loc 0) 0)],[(.obj 304,pK l),(.loc 0,cc l.length seen (.obj 304))],[(.obj 306,⟨xs.length,3,1,some (e2 xs)⟩)],1,[.obj 306,.obj 304]⟩
@[simp]def avo(xs:List Int):(e2 xs).length=xs.length:=by simp[e2]
@[simp]def axT(xs:List Int):cf (e2 xs)=e2 xs:=by
 induction xs with
 |nil=>rfl
 |cons x r a=>simp only[e2,gY,cf,b5]at a⊢;rw[a]
@[simp]def avp:e2 []=[]:=rfl
def alz(xs:List Int)(x:Int):e2 xs++[af.int .i64 x]=e2 (xs++[x]):=by simp[e2]
def ajp(l:List Int)(v:l.length<=1000000):bG au 136 [.gmap (.obj 304)] (vv l) fun r n=>r=cX (e2 (sD l))/\n=vv l:=by
 have e:=Rm l;unfold vv at e⊢;refine bG.mk mixed a6 Tryz.func136 anY Ψ e.obj fun y m=>?_;unfold SE;simp;refine qq (alE l) l.length _ ⟨by simp[fresh,aH,az,cc,aM,ae,n1,uV],eo (by simp[fresh,aH,az,cc,aM,ae,n1,uV]),ep (by simp[fresh,aH,az,dV,aM,ae,n1,uV]),Ψ⟩ ⟨[],[],Ψ,Ψ,Ψ,Ψ,Ψ,rfl⟩ ?_;rintro k st ⟨seen,xs,d,a,w,i,s,rfl⟩ q m;clear q m;have hle:=JR d a;simp;refine afs (mk:= .obj 304) (seen:=seen) (l:=l) Ψ Ψ rfl (fun p=>?_) (fun b x g o=>?_)
 ·simp;have h:=Qe d a p;rw[<-i]at h;refine CallDo.ob (ajm 306 xs Ω) (Kv 306 xs) (by unfold oi;exact aX) (by unfold oi;exact aX) (by simp[oi,aM,ae]) ?_;rintro r n ⟨rfl,rfl⟩;refine⟨⟨fun _=>rfl,fun k=>by simp only[oi,ae];split<;>rfl⟩,?_⟩;unfold oi;simp[cL,abH];refine c5.at _ (.inl rfl) e (Same.refl _) aX aX ?_;simp[dc,ba,be,a1];rw[abI h];simp[az,uV]
 ·have t:∀f:aB->bd (List af),f (.loc 0)=some (cc l.length (seen++[b]) (.obj 304))->f (.obj 304)=some (pK l)->qL f (.ptr (.loc 0) 0)=some (True,.tuple [aj x,.bool true]):=fun f J U=>amw f (.loc 0) (.obj 304) l.length seen b l x J U rfl g;have j:b<l.length:=(fH.1 g).1;have u:=Qf d a j o;simp[t,alz];refine⟨by unfold lim;omega,?_⟩;refine bY.next (l.length-(seen.length+1)) Ω ⟨seen++[b],xs++[x],OP d o,(by simp;intro c aw;rcases aw with aw|rfl;exact a c aw;exact j),Ψ,by rw[List.filterMap_append,<-i];simp[g],by simp[s],rfl⟩ ⟨by simp[fresh,aH,az,cc,aM,ae,n1,uV],eo (by simp[fresh,aH,az,cc,aM,ae,n1,uV]),ep (by simp[fresh,aH,az,dV,aM,ae,n1,uV]),Ψ⟩
@[simp]def avD(S:aB->Prop)(xs:List Int):aH S (e2 xs)=True:=h2 (uV S xs)
@[simp]def aub:cells .junk=[.junk]:=rfl
def SD:C:=(aa [fw 6 5,bz 7 false] (aa [dT 12 215 [],I 8 12] (.seq (aa [I 13 0,cw 14 13,bP 15 0] (gw 16 15 14 (.seq (.block 1 (aa [ck 17 5 13 15,bk 18 5 17,dI 10 ku,bV 5 10 18] (aa [I 19 8,aF 20 0 1 10,ay 21 1 20,cb 22 216 19 21] (aa [I 23 8,hp 24 1 4 10,bk 25 4 24,cb 26 217 23 25] (.seq (.drawn false 69 [I 27 8,aF 28 0 1 10,ay 29 1 28,c0 30 116 29,hp 31 1 4 10,bk 32 4 31,dT 33 218 [.t 27,.t 30,.t 32],cO 34 33]) (aW 34 (aa [fw 6 5,bz 7 false] .ret) .skip)))))) (.region [aV 35 .add 15 1,I 15 35])))) (.seq (aa [I 36 1,cw 37 36,bP 38 0] (.block 2 (.loop (aa [bu 39 .lss 38 37] (.seq (aW 39 .skip (.exit 2)) (.seq (.block 3 (aa [I 40 38,I 11 40] (aa [I 41 8,I 42 1,I 43 11,ck 44 4 42 43,bk 45 4 44,cb 46 217 41 45] (aa [I 47 8,I 48 2,I 49 11,ck 50 4 48 49,bk 51 4 50,cb 52 217 47 51] (.seq (.drawn false 69 [I 53 8,I 54 1,I 55 11,ck 56 4 54 55,bk 57 4 56,I 58 2,I 59 11,ck 60 4 58 59,bk 61 4 60,dT 62 218 [.t 53,.t 57,.t 61],cO 63 62]) (aW 63 (aa [fw 6 5,bz 7 false] .ret) .skip)))))) (.region [aV 64 .add 38 1,I 38 64]))))))) (aa [I 65 8,c0 66 219 65,cV 67 0 66,cV 68 1 66,I 6 67,I 7 68] .ret)))))
def Sk:C:=(aa [fw 2 5,bz 3 false] (aa [dt (.mkmap 12 (some 304)),I 4 12] (.seq (aa [I 13 0,gv 14 13,aF 15 0 1 14,ay 16 1 15,dt (.range 17 none (.t 16))] (.block 0 (.loop (aa [⟨none,.next 18 (.t 17)⟩,cV 19 0 18] (.seq (aW 19 .skip (.exit 0)) (.block 1 (aa [cd 20 (.ment (.t 17)),cV 21 0 20,I 5 21] (.region [I 22 4,I 23 5,dt (.mput .i (.t 22) (.t 23) (.c (.bool true)))])))))))) (aa [I 24 4,c0 25 136 24,I 6 25] (aa [dt (.bslm 26 none 5 113 []),I 7 26] (.seq (aa [I 27 6,cw 28 27,bP 29 0] (.block 2 (.loop (aa [bu 30 .lss 29 28] (.seq (aW 30 .skip (.exit 2)) (.seq (.block 3 (aa [ck 31 1 27 29,ay 32 1 31,I 9 32] (aa [I 33 0,I 34 9,cb 35 216 33 34,I 10 35] (.seq (aa [I 36 0,I 37 10,cb 38 248 36 37,cO 39 38] (aW 39 (aa [fw 2 5,bz 3 false] .ret) .skip)) (.seq (aa [I 40 10,I 41 9,bu 42 .eql 40 41,I 43 42,cg 43 true 44 0,ax 43 true (gv 45 44),ax 43 true (aF 46 2 1 45),ax 43 true (ay 47 1 46),cg 43 true 48 10,ax 43 true (cd 49 (.mget .i (.bool false) false (.t 47) (.t 48))),ax 43 true (cO 50 49),eg 51 43 50] (aW 51 (.exit 3) .skip)) (aa [I 52 7,I 53 9,jn 54 ku [(0,1,(.t 53))],fe 55 5 113 [.t 54],dt (.appm 56 none 5 113 (.t 52) (.t 55)),I 7 56] (aa [I 57 0,gv 58 57,aF 59 4 1 58,ay 60 1 59,I 61 10,cd 62 (.mget .i (.int .i64 0) false (.t 60) (.t 61)),aV 63 .gtr 62 5000,I 64 63,cg 64 false 65 7,ax 64 false (cw 66 65),ax 64 false (aV 67 .gtr 66 400),ds 68 64 67] (aW 68 (aa [fw 2 5,bz 3 false] .ret) .skip)))))))) (.region [aV 69 .add 29 1,I 29 69]))))))) (.seq (aa [I 70 7,cw 71 70,bP 72 0] (.block 4 (.loop (aa [bu 73 .lss 72 71] (.seq (aW 73 .skip (.exit 4)) (.seq (.block 5 (aa [I 74 72,I 11 74] (.region [I 75 7,I 76 11,I 77 0,I 78 0,I 79 7,I 80 11,ck 81 5 79 80,aF 82 0 1 81,ay 83 1 82,cb 84 216 78 83,cb 85 249 77 84,c0 86 143 85,ck 87 5 75 76,hp 88 1 4 87,bV 4 88 86]))) (.region [aV 89 .add 72 1,I 72 89]))))))) (.seq (.pub 7 (.region [I 90 7,I 2 90,bz 3 true])) .ret))))))))
def anX:b4 aT SD [.tmp 6,.tmp 7] 3 Tryz.f186=true:=bi
def anF:b4 aT Sk [.tmp 2,.tmp 3] 1 Tryz.f219=true:=bi
def hg(o:bd (List Bd)):af:= .tuple [bL ((o.getD []).map Bd.e),.bool o.isSome]
def amy(f:aB->bd (List af))(gk mk:aB)(n:Nat)(seen:List Nat)(b:Nat)(l:List (Int×Int))(x:Int×Int)(hi:f gk=some (cc n (seen++[b]) mk))(hm:f mk=some (oI l))(c:n=l.length)(a:l[b]? =some x):qL f (.ptr gk 0)=some (True,.tuple [aj x.1,aj x.2]):=by rw[Yy f gk mk n seen b _ hi hm (by simpa using c)];simp[a]
def aft{st:bp}{d:Nat}{K:bp->Prop}{gk mk:aB}{n:Nat}{seen:List Nat}{l:List (Int×Int)}(hi:ae gk st.b=some (cc n seen mk))(hm:ae mk st.b=some (oI l))(g:n=l.length)
  (J:(∀b,b<l.length->b∈seen)->K {st with t:=Pv.put d (.tuple [.bool false]) st.t}) (U:∀b x,l[b]? =some x->b∉seen->K {st with t:=Pv.put d (.tuple [.bool true,aj x.1,aj x.2]) st.t,b:=cJ gk (cc n (seen++[b]) mk) st.b}):
  uA st d (.ptr gk 0) K:=by
 refine UF hi hm (by simpa using g) (fun h=>J fun b a=>h b Ω) (fun b k v a f=>?_);simp only[List.getElem?_map,hq]at a;obtain⟨x,e,c⟩:=a;simp only[jo]at c;obtain⟨rfl,rfl⟩:=c;exact U b x e f
@[simp]def aw3(m:aB)(l:List (Int×Int)):z6 m (oI l)=some (cc l.length [] m):=by simp[oI,tH]
def o1(v:Int):af:= .agg [aj v,aj 0,aj 0,.str [],.slice 4 .nil []]
@[simp]def al0(S:aB->Prop)(l:List Int):aH S (l.map o1)=True:=by
 apply h2;induction l with
 |nil=>simp[aH]
 |cons x r a=>simp only[gY,aH];exact⟨by simp[o1,az,aH],a⟩
@[simp]def avR(S:aB->Prop)(v:Int):az S (o1 v)=True:=by simp[o1,az,aH]
@[simp]def axe(v:Int):eT (o1 v)=true:=rfl
@[simp]def atW(v:Int):cells (o1 v)=[aj v,aj 0,aj 0,.str [],.slice 4 .nil []]:=rfl
def aqA(v:Int)(f:Nat)(cs:List af):oc (o1 v) f cs= .agg (nD [aj v,aj 0,aj 0,.str [],.slice 4 .nil []] f cs):=rfl
def j0{S:aB->Prop}:∀{a b:List af},aH S (a++b)↔(aH S a/\aH S b)
 |[],b=>by simp[aH]
 |x::a,b=>by simp[aH,j0 (a:=a),and_assoc]
@[simp]def avC(S:aB->Prop)(k:Nat)(l:List Int):aH S (oV k (l.map o1))=True:=by rw[<-List.map_drop];exact al0 S _
@[simp]def av7(S:aB->Prop)(o:bd (List Bd)):az S (hg o)=True:=by simp[hg]
def KP(l:List Int)(v:Int):l.map o1++[.agg [aj v,aj 0,aj 0,.str [],.slice 4 .nil []]]=(l++[v]).map o1:=by simp[o1]
def alA(c:bJ)(k:Nat)(st:bp):Prop:=∃(seen:List Nat) (xs:List Int),seen.Nodup/\(∀b∈seen,b<c.up.length)/\k=c.up.length-seen.length/\xs=seen.filterMap (fun b=>(c.up[b]?).map (·.1))/\xs.length=seen.length/\st=⟨[(0,aE),(4,.gmap (.obj 304)),(17,.ptr (.loc 0) 0)],aD c++[(.obj 304,pK xs),(.loc 0,cc c.up.length seen (.obj 702))],[],1,[.obj 304,.obj 702,.obj 703,.obj 704,.obj 705,.obj 706,.obj 707]⟩
def aqK{c:bJ}{seen:List Nat}(e:seen.Nodup)(d:∀b∈seen,b<c.up.length)(a:∀b,b<c.up.length->b∈seen):(seen.filterMap fun b=>(c.up[b]?).map (·.1)).Perm (cF c.up):=by have:=Qe (l:=cF c.up) e (by simpa[cF]using d) (by simpa[cF]using a);simpa[cF]using this
def aqL{c:bJ}(g:(cF c.up).Nodup){seen:List Nat}{b:Nat}(j:b∉seen){x:Int×Int}(k:c.up[b]? =some x):x.1∉seen.filterMap fun b=>(c.up[b]?).map (·.1):=by
 intro hm;rw[List.mem_filterMap]at hm;obtain⟨b2,J,U⟩:=hm;obtain⟨y,i,l⟩:=hq.1 U;have e:(cF c.up)[b]? =some x.1:=by simp[cF,k]
 have f:(cF c.up)[b2]? =some x.1:=by simp[cF,i,l]
 have d:=(fH.1 e).1;have a:=(fH.1 f).1;have f1:=(fH.1 e).2;have f2:=(fH.1 f).2;rcases Nat.lt_trichotomy b b2 with h|h|h
 ·exact q2.1 g b b2 d a h (f1.trans f2.symm)
 ·subst h;exact j J
 ·exact q2.1 g b2 b a d h (f2.trans f1.symm)
def ajk(n:Nat)(c:bJ)(o:bd (List Bd))(he:FL n (sE (cF c.up)) c=some o)(Ei:(cF c.up).Nodup)(hlen:c.up.length<=1000000)(bC:nJ c):bG au 219 [aE] (aQ c) fun r A=>r=hg o/\∃cC,A=aQ cC:=by
 have ai:=cx c;simp only[aQ,aD]at ai⊢;refine bG.mk mixed a6 Tryz.func219 anF Ψ ai.obj fun aR c4=>?_;unfold Sk;simp[aE];have O:∀S:aB->Prop,aH S (k0 []):=fun S=>n1 S [];refine qq (alA c) c.up.length _ ⟨by simp[fresh,aH,az,cc,aM,ae,n1,aE,aD,O],eo (by simp[fresh,aH,az,cc,aM,ae,n1,aE,aD,O]),ep (by simp[fresh,aH,az,dV,aM,ae,n1,aE,aD,O]),Ψ⟩ ⟨[],[],Ψ,Ψ,Ψ,Ψ,Ψ,rfl⟩ ?_;rintro k st ⟨seen,xs,s,K,ab,P,kW,rfl⟩ lR c4;clear lR c4;have hle:=JR s K;simp[aD,aE];refine aft (mk:= .obj 702) (seen:=seen) (l:=c.up) Ψ Ψ rfl (fun mD=>?_) (fun b x N p=>?_);rotate_left
 ·have By:∀f:aB->bd (List af),f (.loc 0)=some (cc c.up.length (seen++[b]) (.obj 702))->f (.obj 702)=some (oI c.up)->qL f (.ptr (.loc 0) 0)=some (True,.tuple [aj x.1,aj x.2]):=fun f J U=>amy f (.loc 0) (.obj 702) c.up.length seen b c.up x J U rfl N;have gf:b<c.up.length:=(fH.1 N).1;have qC:=Qf s K gf p;have jY:=aqL Ei p N;rw[<-P]at jY;simp[By,KJ,jY];refine bY.next (c.up.length-(seen.length+1)) Ω ⟨seen++[b],xs++[x.1],OP s p,(by simp;intro c aw;rcases aw with aw|rfl;exact K c aw;exact gf),Ψ,by rw[List.filterMap_append,<-P];simp[N],by simp[kW],rfl⟩ ⟨by simp[fresh,aH,az,cc,aM,ae,n1,aE,aD],eo (by simp[fresh,aH,az,cc,aM,ae,n1,aE,aD]),ep (by simp[fresh,aH,az,dV,aM,ae,n1,aE,aD]),Ψ⟩
 ·simp;have xD:=aqK s K mD;rw[<-P]at xD;have X:xs.length<=1000000:=Ω
  refine CallDo.ob (ajp xs X) (Rm _) (by simp only[vv];exact aX) (by simp only[vv];exact aX) (by simp[aM,vv,ae]) ?_;rintro r A ⟨rfl,rfl⟩;refine⟨Same.refl _,?_⟩;have BF:sD xs=sE (cF c.up):=abI xD;rw[BF];obtain⟨bm,lr⟩:∃bm,bm=sE (cF c.up):=⟨_,rfl⟩;rw[<-lr]at he⊢;simp[vv,cL];simp only[FL,mX]at he;obtain⟨res,Bp,y⟩:=he;have pX:bm.length<=1000000:=by rw[lr,(FO _).length_eq];simpa[cF]using hlen
  refine fS (α:=bJ×List Int) (fun i a=>⟨[(0,aE),(27,cX (e2 bm)),(28,aj bm.length),(7,.row 5 (.loc 1) a.2.length),(29,aj i)],aD a.1,[(.loc 1,⟨a.2.length,113,5,some (a.2.map o1)⟩)],2,[.obj 702,.obj 703,.obj 704,.obj 705,.obj 706,.obj 707]⟩) bm.length (fun i a=>tV n (bm.drop i) a.1 a.2=some res/\nJ a.1/\a.2.length<=400) (c,[]) (by simp[aE,aD];exact⟨by simp[fresh,aH,az,cc,aM,ae,n1,aE,aD],eo (by simp[fresh,aH,az,cc,aM,ae,n1,aE,aD]),ep (by simp[fresh,aH,az,dV,aM,ae,n1,aE,aD]),Ψ⟩) ⟨by simpa using Bp,bC,Ψ⟩ ?_ ?_
  ·rintro⟨Q,out⟩ ⟨J,U,M⟩ p;simp only at J U M p⊢;simp[tV]at J;subst J;simp only[hq]at y;obtain⟨⟨L,aem⟩,Z,rfl⟩:=y;simp[aE,aD];refine fS (α:=bJ×List Bd) (fun j a=>⟨[(0,aE),(7,.row 5 (.loc 1) out.length),(71,aj out.length),(72,aj j)],aD a.1,[(.loc 1,⟨out.length,113,5,some (a.2.map Bd.e++(out.drop j).map o1)⟩)],2,[.obj 702,.obj 703,.obj 704,.obj 705,.obj 706,.obj 707]⟩) out.length (fun j a=>a.2.length=j/\∃rest,Ai n (out.drop j) a.1=some (rest,aem)/\a.2++rest=L) (Q,[]) (by simp[aE,aD];exact⟨by simp[fresh,aH,az,cc,aM,ae,aE,aD],eo (by simp[fresh,aH,az,cc,aM,ae,aE,aD]),ep (by simp[fresh,aH,az,dV,aM,ae,aE,aD]),Ψ⟩) ⟨rfl,L,by simpa using Z,rfl⟩ ?_ ?_
   ·rintro⟨w,done⟩ ⟨q,rest,m,g⟩ p;simp only at q m g p⊢;simp[Ai]at m;obtain⟨rfl,rfl⟩:=m;simp at g;subst g;simp[aE,aD,q];refine c5.at (aQ w) Ψ (cx _) (Same.keys (by simp[aQ,aD]) (by simp[aQ,aD])) (by simp only[aQ,aD];exact aX) (by simp only[aQ,aD];exact aX) ?_;simp[dc,ba,be,a1,aQ,aD,hg];exact⟨w,Ψ⟩
   ·rintro j ⟨w,done⟩ B ⟨q,rest,m,g⟩ p;simp only at q m g p⊢;obtain⟨v,u⟩:∃v,out[j]? =some v:=⟨_,cl B⟩;have s:out.drop j=v::out.drop (j+1):=by rw[lG B];rw[cl B]at u;cases u;rfl
    rw[s]at m;simp only[Ai,mX,hq,jo]at m;obtain⟨⟨x,d⟩,eb,⟨t,h6⟩,lO,⟨V,aun⟩,uE,rfl,rfl⟩:=m;simp only at lO uE;have key:=ajq n x d _ lO;rw[s];have iJ:∀R,(done.map Bd.e++o1 v::R)[j]? =some (o1 v):=fun R=>by rw[vo d6];simp[q]
    have xI:∀R x,(done.map Bd.e++o1 v::R).set j x=done.map Bd.e++x::R:=fun R x=>by rw[List.set_append_right _ _ d6];simp[q]
    simp[aE,aD];(repeat' first|refine al ?_|simp[iJ,B]);(refine CallDo.ob (sZ w v x d eb) ci bv bv d7 ?_;rintro r A ⟨rfl,rfl⟩;refine⟨(Same.keys co co),?_⟩;simp[cL,aQ,aD,aE]);(repeat' first|refine al ?_|simp);(refine CallDo.ob (key) ci bv bv d7 ?_;rintro r A ⟨rfl,rfl⟩;refine⟨(Same.keys co co),?_⟩;simp[cL,aQ,aD,aE]);(repeat' first|refine al ?_|refine aO (vj _) ?_|refine aP (vj _) ?_|simp[iJ,xI,B,aqA,-oc]);refine bY.rng (h6,done++[⟨v,t⟩]) B ⟨by simp[q],V,uE,by simpa using g⟩ ?_;simp[aE,aD];exact⟨by simp[fresh,aH,az,cc,aM,ae,aE,aD,j0],eo (by simp[fresh,aH,az,cc,aM,ae,aE,aD,j0]),ep (by simp[fresh,aH,az,dV,aM,ae,aE,aD,j0]),Ψ⟩
  ·rintro i ⟨Q,out⟩ hi ⟨J,U,M⟩ p;simp only at J U M p⊢;obtain⟨v,u⟩:∃v,bm[i]? =some v:=⟨_,cl hi⟩;have s:bm.drop i=v::bm.drop (i+1):=by rw[lG hi];rw[cl hi]at u;cases u;rfl
   rw[s]at J;simp only[tV,mX]at J;obtain⟨⟨x,w⟩,q,⟨f,d⟩,m,g⟩:=J;simp only at m g;obtain⟨z3,key⟩:=ajs n x w _ m (U.rt q);have Y:∀h,(e2 bm)[i]'h=aj v:=fun h=>by rw[cl hi]at u;simp only[dU]at u;simp[e2,u]
   simp[aE,aD];(repeat' first|refine al ?_|simp[Y,hi]);(refine CallDo.ob (sZ Q v x w q) ci bv bv d7 ?_;rintro r A ⟨rfl,rfl⟩;refine⟨(Same.keys co co),?_⟩;simp[cL,aQ,aD,aE]);(repeat' first|refine al ?_|simp);(refine CallDo.ob (key) ci bv bv d7 ?_;rintro r A ⟨rfl,rfl⟩;refine⟨(Same.keys co co),?_⟩;simp[cL,aQ,aD,aE]);cases f with
   |false=>simp at g;subst g;simp at y;subst y;(repeat' first|refine al ?_|simp);refine c5.at (aQ d) Ψ (cx _) (Same.keys (by simp[aQ,aD]) (by simp[aQ,aD])) (by simp only[aQ,aD];exact aX) (by simp only[aQ,aD];exact aX) ?_;simp[dc,ba,be,a1,aQ,aD,hg];exact⟨d,Ψ⟩
   |true=>
    simp only[Bool.true_eq_false,if_false]at g;by_cases aw:x=v/\d.shd x=false
    ·rw[if_pos aw]at g;obtain⟨W,nr⟩:=aw;subst W;have uO:(dp x d.shaped).getD false=false:=nr;(repeat' first|refine al ?_|simp[uO]);refine bY.rng (d,out) hi ⟨g,z3,M⟩ ?_;exact⟨by simp[fresh,aH,az,cc,aM,ae,aE,aD],eo (by simp[fresh,aH,az,cc,aM,ae,aE,aD]),ep (by simp[fresh,aH,az,dV,aM,ae,aE,aD]),Ψ⟩
    ·rw[if_neg aw]at g;have WO:(x==v)=false\/((x==v)=true/\(dp x d.shaped).getD false=true):=by
      by_cases e:x=v
      ·right;refine⟨by simp[e],?_⟩;cases aC:d.shd x with
       |false=>exact absurd ⟨e,aC⟩ aw
       |true=>exact aC
      ·left;simp[e]
     by_cases H:5000<d.sz x\/400<out.length+1
     ·rw[if_pos H]at g;cases g;simp at y;subst y;have oC:(decide (5000<jS d.size x))=true\/(decide (5000<jS d.size x)=false/\400<out.length+1):=by
       by_cases e:5000<jS d.size x
       ·left;simp[e]
       ·right;exact⟨by simp[e],H.resolve_left e⟩
      have E:True:=trivial;have F:True:=trivial;rcases WO with z|⟨z,E⟩;all_goals
       rcases oC with G|⟨G,F⟩
       all_goals
        ((repeat' first|refine al ?_|simp[z,E,G,F]|((first|apply ct|apply cz|apply cy)<;>intro h<;>try simp at h))<;>(try exact c3))
        refine c5.at (aQ d) Ψ (cx _) (Same.keys (by simp[aQ,aD]) (by simp[aQ,aD])) (by simp only[aQ,aD];exact aX) (by simp only[aQ,aD];exact aX) ?_
        simp[dc,ba,be,a1,aQ,aD,hg]
        exact⟨d,Ψ⟩
     ·rw[if_neg H]at g;have G:decide (5000<jS d.size x)=false:=by simp;exact Int.not_lt.1 fun h=>H (.inl h)
      have F:¬400<out.length+1:=fun h=>H (.inr h);have E:True:=trivial;rcases WO with z|⟨z,E⟩;all_goals
       ((repeat' first|refine al ?_|simp[z,E,G,F]|((first|apply ct|apply cz|apply cy)<;>intro h<;>try simp at h))<;>(try exact c3))
       all_goals try refine⟨by unfold lim;omega,?_⟩
       ((repeat' first|refine al ?_|simp[z,E,G,F]|((first|apply ct|apply cz|apply cy)<;>intro h<;>try simp at h))<;>(try exact c3))
       refine bY.rng (d,out++[v]) hi ⟨g,z3,by simp;omega⟩ ?_
       exact⟨by simp[fresh,aH,az,cc,aM,ae,aE,aD,KP,j0],eo (by simp[fresh,aH,az,cc,aM,ae,aE,aD,KP,j0]),ep (by simp[fresh,aH,az,dV,aM,ae,aE,aD,KP,j0]),Ψ⟩
def QK:∀{a b:T},a.tm=b.tm->a=b:=by
 intro a;induction a with
 |pair x y d c=>intro b h;cases b<;>simp[T.tm]at h;rw[d h.1,c h.2]
 |_=>intro b h;cases b<;>simp[T.tm]at h⊢ <;>exact h
def adG(l:List Bt):Prop:= ∃s:List Bd,l=s.map Bd.b/\rG s/\jB s/\iw s
def KA(l:List Bt):Prop:= ∃s:List Bd,l=s.map Bd.b/\rG s/\gD s/\iw s
def RP:∀{l:List Bt},(∀b∈l,b.t.fits=true)->∃s:List Bd,l=s.map Bd.b/\A9 s
 |[],_=>⟨[],rfl,fun b d=>by simp at d⟩
 |b::l,h=>by
  obtain⟨s,J,U⟩:=RP (l:=l) fun c aw=>h c (by simp[aw]);obtain⟨x,a,e⟩:=Tm.fits_ex (h b Ψ);refine⟨⟨b.v,x⟩::s,by rw[J];simp[Bd.b,a],fun c aw=>?_⟩;rcases gI.1 aw with rfl|aw
  ·exact e
  ·exact U c aw
def Kh{l:List Bt}:AF l↔adG l:=by
 constructor
 ·rintro⟨J,U⟩;obtain⟨s,rfl,f⟩:=RP (l:=l) fun b a=>by obtain⟨i,hi,e⟩:=pA a;exact(U i hi b (by rw[cl hi,e])).2.2
  have n:∀b∈s,b.t.ok=true/\b.t.size<=5000:=fun b a=>by have:=f b a;simpa[T.fit]using this
  refine⟨s,rfl,fun b a=>⟨?_,(n b a).1⟩,?_,by simpa using J,fun b a=>(n b a).2⟩
  ·obtain⟨i,hi,e⟩:=pA a;have:=(U i (by simpa using hi) b.b (by simp[cl hi,e])).1;exact this
  ·rw[jB,q2];have g:∀i (h:i+1<s.length),s[i].v<s[i+1].v:=fun i h=>by have:=(U (i+1) (by simpa using h) s[i+1].b (by simp[cl h])).2.1 s[i].b Ω (by simp[cl (show i<s.length by omega)]);exact this
   have:∀(d i:Nat) (h:i+d+1<s.length),s[i].v<s[i+d+1].v:=by
    intro d;induction d with
    |zero=>intro i h;exact g i h
    |succ d q=>intro i h;have o:=q i Ω;have a2:=g (i+d+1) Ω;simp only[Nat.add_assoc]at o a2⊢;omega
   intro i j hi w u;have:=this (j-i-1) i Ω;simpa[show i+(j-i-1)+1=j from by omega]using this
 ·rintro⟨s,rfl,ar,p,m⟩;refine⟨by simpa using m.1,fun i hi b a=>?_⟩;simp only[List.getElem?_map,hq]at a;obtain⟨c,aw,rfl⟩:=a;have hm:=ft aw;refine⟨(ar c hm).1,fun d v k=>?_,?_⟩
  ·simp only[List.getElem?_map,hq]at k;obtain⟨e,he,rfl⟩:=k;obtain⟨J,r⟩:=fH.1 he;obtain⟨U,t⟩:=fH.1 aw;have:=q2.1 p (i-1) i J U Ω;rw[r,t]at this;exact this
  ·show c.t.tm.fits=true;rw[Tm.fits_T];simp[T.fit,(ar c hm).2,m.2 c hm]
def w7(s:List Bd)(v:Int)(f:Bool):Bool:=if 0<=ox s v then false else f
def nK(s:List Bd)(b:Bd):Bool:=b.t.fold (w7 s) true&& !(b.t.kind==1&&decide (b.v<=b.t.int))
def Vp{s:List Bd}(e:jB s)(t:T):∀f:Bool,t.fold (w7 s) f=true↔f=true/\∀w,t.occ w=true->dG s w=none:=by
 induction t with
 |var n=>
  intro f;simp only[T.fold,T.occ,ey,w7];have:=Vl e n;by_cases h:0<=ox s n
  ·rw[if_pos h];constructor
   ·intro h;cases h
   ·rintro⟨_,U⟩;have:=this.2 (U n rfl);omega
  ·rw[if_neg h];exact⟨fun i=>⟨i,fun w hw=>by subst hw;exact this.1 Ω⟩,fun h=>h.1⟩
 |pair a b d c=>
  intro f;simp only[T.fold,d,c,T.occ,oe];constructor
  ·rintro⟨⟨J,U⟩,g⟩;exact⟨J,fun w hw=>hw.elim (U w) (g w)⟩
  ·rintro⟨J,U⟩;exact⟨⟨J,fun w hw=>U w (.inl hw)⟩,fun w hw=>U w (.inr hw)⟩
 |_=>intro f;simp[T.fold,T.occ]
def KS{s:List Bd}(c:jB s)(b:Bd):nK s b=true↔(∀w,b.t.occ w=true->dG s w=none)/\∀w,b.t= .var w->w<b.v:=by
 unfold nK;rw[cQ,Vp c];simp only[true_and];refine and_congr_right fun _=>?_;constructor
 ·intro h w hw;have a:(b.t.kind==1)=true:=by rw[hw];rfl
  have hi:b.t.int=w:=by rw[hw];rfl
  rw[a,hi]at h;simpa using h
 ·intro h;cases a:(b.t.kind==1)with
  |false=>rfl
  |true=>
   obtain⟨w,hw⟩:∃w,b.t= .var w:=by
    cases e:b.t with
    |var w=>exact⟨w,rfl⟩
    |_=>rw[e]at a;simp at a
   have hi:b.t.int=w:=by rw[hw];rfl
   have:=h w hw;rw[hi];simpa using this
def abG{s:List Bd}(c:jB s):gD s↔∀b∈s,nK s b=true:=by
 constructor
 ·intro h b a;exact(KS c b).2 ⟨h.free b a,h.ori b a⟩
 ·intro h;exact⟨c,fun b a=>((KS c b).1 (h b a)).1,fun b a=>((KS c b).1 (h b a)).2⟩
def qJ{α:Type}(p:α->Bool)(s:List α)(i:Nat)(_:Unit):Prop:= ∀k b,k<i->s[k]? =some b->p b=true
def qJ.step{α:Type}{p:α->Bool}{s:List α}{i:Nat}(h:qJ p s i ()){b:α}(d:s[i]? =some b)(a:p b=true):qJ p s (i+1) ():=fun k c e aw=>by
 rcases(by omega:k<i\/k=i)with J|rfl
 ·exact h k c J aw
 ·rw[d]at aw;cases aw;exact a
open Classical in
noncomputable def hy(l:List Bt):Bool:=decide (KA l)
def sG{l:List Bt}:hy l=true↔KA l:=by unfold hy;simp
def jD(f:Bool):cR:=⟨[(.obj 731,[.bool f])],[]⟩
def wU(f:Bool):ez (jD f):=by unfold jD;exact ez.of ⟨by intro m;simp[ae],by intro m;simp[ae]⟩ Ψ Ψ
def adv(a b:Bool):Same (jD a) (jD b):=Same.keys (by simp[jD]) (by simp[jD])
def aiG(s:List Bd)(a:s.length<=1000000)(v:Int)(f:Bool):bG au 159 [aj v,.eptr (bL (s.map Bd.e)),.ptr (.obj 731) 0] (jD f) fun r d=>r= .tuple []/\d=jD (w7 s v f):=by
 have b:=wU f;simp only[jD]at b⊢;by_cases h:0<=ox s v
 ·rw[w7,if_pos h];refine bG.mk mixed a6 Tryz.func159 Zf Ψ b.obj fun e c=>?_;unfold KY;simp;(repeat' first|refine al ?_|refine aO (vl s v a) ?_|refine aP (vl s v a) ?_|simp[h]);(refine c5.at (jD false) Ψ (by first|exact wU _|exact wU ‹_› _) (Same.keys (by simp[jD]) (by simp[jD])) (by simp only[jD,b7,ca];exact aX) (by simp only[jD,b7,ca];exact aX) ?_;simp[dc,ba,be,a1,aM,ae,jD])
 ·rw[w7,if_neg h];refine bG.mk mixed a6 Tryz.func159 Zf Ψ b.obj fun e c=>?_;unfold KY;simp;(repeat' first|refine al ?_|refine aO (vl s v a) ?_|refine aP (vl s v a) ?_|simp[h]);(refine c5.at (jD f) Ψ (by first|exact wU _|exact wU ‹_› _) (Same.keys (by simp[jD]) (by simp[jD])) (by simp only[jD,b7,ca];exact aX) (by simp only[jD,b7,ca];exact aX) ?_;simp[dc,ba,be,a1,aM,ae,jD])
def QR(l:List Bt):bU au 86 [bL (l.map Bt.e)] (.bool (hy l)):=by
 have q:=ar2 l;by_cases h:AF l;rotate_left
 ·have n:hy l=false:=by unfold hy;simp only[iO];rintro⟨s,J,U,g,B⟩;exact h (Kh.2 ⟨s,J,U,g.asc,B⟩)
  rw[n];refine bI a6 Tryz.func86 Ze fun L=>?_;unfold KX;exact cr
 ·obtain⟨s,rfl,ar,F,E⟩:=Kh.1 h;have H:s.length<=1000000:=by have:=E.1;omega
  have K:(s.map Bd.b).map Bt.e=s.map Bd.e:=by rw[List.map_map];exact List.map_congr_left fun b _=>Bd.b_e b
  have n:hy (s.map Bd.b)=s.all (nK s):=by
   rw[qZ,j6,sG,<-abG F];constructor
   ·rintro⟨A,J,U,g,B⟩;have:A=s:=by
     have o:∀a b:List Bd,a.map Bd.b=b.map Bd.b->a=b:=by
      intro a;induction a with
      |nil=>intro b c;cases b<;>simp at c⊢
      |cons x a G=>
       intro b c;cases b with
       |nil=>simp at c
       |cons y b=>simp only[gY,rQ,Bd.b,Bt.mk.injEq]at c;rw[G b c.2];have:=QK c.1.2;obtain⟨⟨M,_⟩,_⟩:=c;cases x;cases y;simp_all
     exact(o _ _ J).symm
    rw[<-this];exact g
   ·intro g;exact⟨s,rfl,ar,g,E⟩
  rw[n];rw[K]at q⊢;refine bI a6 Tryz.func86 Ze fun L=>?_;unfold KX;simp;(repeat' first|refine al ?_|refine aO q ?_|refine aP q ?_|simp[h]);refine fS (α:=Unit) (fun i _=>⟨[(1,.eptr (bL (s.map Bd.e))),(9,bL (s.map Bd.e)),(10,aj s.length),(11,aj i)],[],[],1,[]⟩) s.length (qJ (nK s) s) () b9 (fun k b d=>Ω) (fun _ m _=>?_) (fun i _ hi m _=>?_)
  ·have:s.all (nK s)=true:=by rw[j6];intro b c;obtain⟨k,d,e⟩:=pA c;exact m k b d (by rw[cl d,e])
   rw[this];exact cr
  ·obtain⟨b,f⟩:∃b,s[i]? =some b:=⟨_,cl hi⟩;have w:∀h,(s[i]'h)=b:=fun h=>by rw[cl hi]at f;exact e6 f
   have key:=VB jD wU adv 159 [.eptr (bL (s.map Bd.e)),.ptr (.obj 731) 0] (fun a=>by simp[jD,aM,ae]) Ψ (w7 s) (fun v a=>aiG s H v a) b.t true;have u:nK s b=false->s.all (nK s)=false:=fun h=>by rw[Bool.eq_false_iff];intro z;rw[j6]at z;rw[z b (ft f)]at h;cases h
   simp[hi,w];(repeat' first|refine al ?_|simp[w,hi]);(refine CallDo.ob (key) (by first|exact wU _|exact wU ‹_› _) (by simp only[jD,b7,ca];exact aX) (by simp only[jD,b7,ca];exact aX) (by simp[aM,ae,jD]) ?_;rintro r A ⟨rfl,rfl⟩;refine⟨(Same.keys (by simp[jD]) (by simp[jD])),?_⟩;simp[cL,jD]);generalize p:b.t.fold (w7 s) true=t;have j:nK s b=(t&& !(b.t.kind==1&&decide (b.v<=b.t.int))):=by unfold nK;rw[p]
   cases t with
   |false=>rw[u (by rw[j];rfl)];exact cr
   |true=>
    cases d:(b.t.kind==1)with
    |false=>(repeat' first|refine al ?_|simp[d]);refine bY.rng () hi (m.step f (by rw[j,d];rfl)) ?_;exact b9
    |true=>
     by_cases hle:b.v<=b.t.int
     ·rw[u (by rw[j,d];simp[hle])];exact cr
     ·(repeat' first|refine al ?_|simp[d,hle]);refine bY.rng () hi (m.step f (by rw[j,d];simp[hle])) ?_;exact b9
@[simp]def avK(S:aB->Prop):aH S (k0 [])=True:=h2 (n1 S [])
def ajj(n:Nat)(s:List Bd)(l r:List T)(P:l.length=r.length)(V:s.length<=1000000)(S:l.length<=1000000)(o:bd (List Bd))(he:CO n (iI s++l.zip r)=some o)
  (hinv:∀c,ra n (iI s++l.zip r) bJ.new=some (true,c)->(cF c.up).Nodup/\c.up.length<=1000000/\nJ c):bU au 186 [bL (s.map Bd.e),dx (l.map T.e),dx (r.map T.e)] (hg o):=by
 obtain⟨E,t⟩:∃E,E=iI s++l.zip r:=⟨_,rfl⟩;rw[<-t]at he hinv;simp only[CO,mX]at he;obtain⟨fin,L,g⟩:=he;have hlen:E.length=s.length+l.length:=by rw[t];simp[iI,P]
 have G:∀i b,s[i]? =some b->E.drop i=(.var b.v,b.t)::E.drop (i+1):=fun i b e=>by
  have hi:=(fH.1 e).1;have bf:E[i]? =some (.var b.v,b.t):=by rw[t,rR (by simp[iI];exact hi)];simp[iI,e]
  rw[lG Ω];rw[cl Ω]at bf;simp only[dU]at bf;rw[bf]
 have H:∀i a b,l[i]? =some a->r[i]? =some b->E.drop (s.length+i)=(a,b)::E.drop (s.length+(i+1)):=fun i a b j e=>by
  have hi:=(fH.1 j).1;have bf:E[s.length+i]? =some (a,b):=by rw[t,vo (by simp[iI])];simp[iI,List.getElem?_zip_eq_some,j,e]
  rw[lG Ω];rw[cl Ω]at bf;simp only[dU]at bf;rw[bf];rfl
 refine bI a6 Tryz.func186 anX fun X=>?_;unfold SD;simp;refine CallDo.new ai7 (ez.of sx Ψ Ψ) (fun k cs h=>by simp[ae]at h) (fun k cs h=>by simp[ae]at h) Ψ ?_;rintro r0 s0 ⟨rfl,rfl⟩;refine⟨fun m hm=>.inr Ψ,?_⟩;simp[aQ,aD,cL,aE];refine fS (α:=bJ) (fun i c=>⟨[(1,dx (l.map T.e)),(2,dx (r.map T.e)),(8,aE),(13,bL (s.map Bd.e)),(14,aj s.length),(15,aj i)],aD c,[],0,[.obj 702,.obj 703,.obj 704,.obj 705,.obj 706,.obj 707]⟩) s.length (fun i c=>ra n (E.drop i) c=some fin) bJ.new (by simp[aE,aD];exact⟨by simp[fresh,aH,az,cc,aM,ae,aE,aD,bJ.new],eo (by simp[fresh,aH,az,cc,aM,ae,aE,aD,bJ.new]),ep (by simp[fresh,aH,az,dV,aM,ae,aE,aD,bJ.new]),Ψ⟩) (by simpa using L) ?_ ?_
 ·rintro c J e;simp[aE,aD];refine fS (α:=bJ) (fun i c=>⟨[(1,dx (l.map T.e)),(2,dx (r.map T.e)),(8,aE),(37,aj l.length),(38,aj i)],aD c,[],0,[.obj 702,.obj 703,.obj 704,.obj 705,.obj 706,.obj 707]⟩) l.length (fun i c=>ra n (E.drop (s.length+i)) c=some fin) c (by simp[aE,aD];exact⟨by simp[fresh,aH,az,cc,aM,ae,aE,aD],eo (by simp[fresh,aH,az,cc,aM,ae,aE,aD]),ep (by simp[fresh,aH,az,dV,aM,ae,aE,aD]),Ψ⟩) J ?_ ?_
  ·rintro p J e;rw[List.drop_eq_nil_of_le Ω]at J;simp[ra]at J;subst J;simp at g;obtain⟨R,O,N⟩:=hinv p L;simp[aE,aD];refine CallDo.ob (ajk n p o g R O N) (cx _) (by simp only[aQ,aD];exact aX) (by simp only[aQ,aD];exact aX) d7 ?_;rintro r0 s0 ⟨rfl,W,rfl⟩;refine⟨Same.keys (by simp[aQ,aD]) (by simp[aQ,aD]),?_⟩;simp[cL,aQ,aD,hg];exact cr
  ·rintro i c hi J e;simp only at J e⊢;obtain⟨a,j⟩:∃a,l[i]? =some a:=⟨_,cl hi⟩;obtain⟨b,A⟩:∃b,r[i]? =some b:=⟨_,cl Ω⟩;have w:∀h,(l[i]'h)=a:=fun h=>by rw[cl hi]at j;exact e6 j
   have z:∀h,(r[i]'h)=b:=fun h=>by rw[cl h]at A;exact e6 A
   have v:i<r.length:=Ω
   rw[H i a b j A]at J;simp only[ra,mX]at J;obtain⟨p,U,B,u,⟨f,y⟩,q,d⟩:=J;simp only at q d;have key:=VD n _ _ _ _ q;simp[aE,aD];(repeat' first|refine al ?_|simp[w,z,hi,v]);(refine CallDo.ob (Mo c a p U) ci bv bv d7 ?_;rintro r F ⟨rfl,rfl⟩;refine⟨(Same.keys co co),?_⟩;simp[cL,aQ,aD,aE]);(repeat' first|refine al ?_|simp[w,z,hi,v]);(refine CallDo.ob (Mo p b B u) ci bv bv d7 ?_;rintro r F ⟨rfl,rfl⟩;refine⟨(Same.keys co co),?_⟩;simp[cL,aQ,aD,aE]);(repeat' first|refine al ?_|simp[w,z,hi,v]);(refine hK.ob (key) ci ci (Same.keys co co) bv bv d7 ?_;simp[cL,aQ,aD,aE]);cases f with
   |false=>simp at d;subst d;simp at g;subst g;(repeat' first|refine al ?_|simp);simp[bZ,ba,be,a1];simp[hg]
   |true=>simp at d;(repeat' first|refine al ?_|simp);refine bY.rng y hi d ?_;simp[aE,aD];exact⟨by simp[fresh,aH,az,cc,aM,ae,aE,aD],eo (by simp[fresh,aH,az,cc,aM,ae,aE,aD]),ep (by simp[fresh,aH,az,dV,aM,ae,aE,aD]),Ψ⟩
 ·rintro i c hi J e;simp only at J e⊢;obtain⟨b,Q,M⟩:=eW hi;rw[G i b Q]at J;simp only[ra,mX]at J;obtain⟨p,U,B,u,⟨f,y⟩,q,d⟩:=J;simp only[B3,T.foldO,hq]at U;obtain⟨⟨x,K⟩,U,rfl⟩:=U;simp only at U u q d;have key:=VD n _ _ _ _ q;simp[aE,aD];(repeat' first|refine al ?_|simp[M,hi]);(refine CallDo.ob (sZ c b.v x K U) ci bv bv d7 ?_;rintro r F ⟨rfl,rfl⟩;refine⟨(Same.keys co co),?_⟩;simp[cL,aQ,aD,aE]);(repeat' first|refine al ?_|simp);(refine CallDo.ob (Mo K b.t B u) ci bv bv d7 ?_;rintro r F ⟨rfl,rfl⟩;refine⟨(Same.keys co co),?_⟩;simp[cL,aQ,aD,aE]);(repeat' first|refine al ?_|refine aO (l3 _) ?_|refine aP (l3 _) ?_|simp);(refine hK.ob (key) ci ci (Same.keys co co) bv bv d7 ?_;simp[cL,aQ,aD,aE]);cases f with
  |false=>simp at d;subst d;simp at g;subst g;(repeat' first|refine al ?_|simp);simp[bZ,ba,be,a1];simp[hg]
  |true=>simp at d;(repeat' first|refine al ?_|simp);refine bY.rng y hi d ?_;simp[aE,aD];exact⟨by simp[fresh,aH,az,cc,aM,ae,aE,aD],eo (by simp[fresh,aH,az,cc,aM,ae,aE,aD]),ep (by simp[fresh,aH,az,dV,aM,ae,aE,aD]),Ψ⟩
def asZ(s:List Bd)(l r:List T)(k:l.length=r.length)(u:gD s)(p:iw s)(ar:rG s)(g:l.length<=1000000)(J:∀t∈l,t.ok=true)(U:∀t∈r,t.ok=true):
  bU au 186 [bL (s.map Bd.e),dx (l.map T.e),dx (r.map T.e)] (hg (mgu s (l.zip r))):=by
 have d:∀e∈iI s++l.zip r,e.1.ok=true/\e.2.ok=true:=fun e he=>by
  rcases kd.1 he with he|he
  ·obtain⟨b,m,rfl⟩:=gZ.1 he;have:=ar b m;exact⟨by simpa[T.ok]using this.1,this.2⟩
  ·exact⟨J _ (List.of_mem_zip he).1,U _ (List.of_mem_zip he).2⟩
 have j:OQ (iI s++l.zip r):=fun e he v a=>by
  rcases a with a|a
  ·exact(yv (d e he).1 a).1
  ·exact(yv (d e he).2 a).1
 obtain⟨n,o,q,i,h⟩:=aq8 _ j;rw[tK (adE.1 i)];refine ajj n s l r k (by have:=p.1;omega) g o q fun c aw=>?_;obtain⟨f,a2,a3⟩:=h c aw;have:=XH f fun v a=>by
  obtain⟨e,he,a⟩:=a2 v a;rcases a with a|a
  ·exact yv (d e he).1 a
  ·exact yv (d e he).2 a
 refine⟨f,by simp[cF]at this;omega,fun x=>?_⟩;simp[bJ.sz,a3,dp]
structure fl (s:List Bd):Prop where
 ok:rG s
 sol:gD s
 fits:iw s
def fl.len{s:List Bd}(h:fl s):s.length<=1000000:=by have:=h.fits.1;omega
def fl.fit{s:List Bd}(h:fl s):A9 s:=fun b a=>by simp[T.fit,(h.ok b a).2,h.fits.2 b a]
def fl.mgu{s:List Bd}(h:fl s){E:List (T×T)}(b:∀e∈E,e.1.ok=true/\e.2.ok=true){a:List Bd}(hm:mgu s E=some a):fl a:=⟨amH h.sol h.fits h.ok b hm,(B4 h.sol h.fits hm).1,(B4 h.sol h.fits hm).2⟩
def zL(s:List Bd):(s.map Bd.b).map Bt.e=s.map Bd.e:=by rw[List.map_map];exact List.map_congr_left fun b _=>Bd.b_e b
def rM{s:List Bd}(h:fl s):bU au 86 [bL (s.map Bd.e)] (.bool true):=by have:=QR (s.map Bd.b);rw[zL,sG.2 ⟨s,rfl,h.ok,h.sol,h.fits⟩]at this;exact this
def alQ(t:List Bd)(i:Nat)(p:List T×List T):Prop:=p.1=(t.take i).map (fun b=>T.var b.v)/\p.2=(t.take i).map (·.t)
def asf(t:List Bd)(s:t.length<=1000000):bU au 205 [bL (t.map Bd.e)] (.tuple [dx ((t.map fun b=>T.var b.v).map T.e),dx ((t.map (·.t)).map T.e)]):=by
 generalize bt:((t.map fun b=>T.var b.v).map T.e)=q;generalize f:((t.map fun x=>x.t).map T.e)=o;have k:∀S:aB->Prop,aH S q=True:=fun S=>by rw[<-bt];exact XP S _
 have j:∀S:aB->Prop,aH S o=True:=fun S=>by rw[<-f];exact XP S _
 refine bU.mk mixed a6 Tryz.func205 anK Ψ (by simp[az,k,j]) fun r=>?_;unfold Sq;simp;refine fS (α:=List T×List T) (fun i p=>⟨[(10,bL (t.map Bd.e)),(11,aj t.length),(4,.slice 4 (.own (.loc 0)) (p.1.map T.e)),(5,.slice 4 (.own (.loc 1)) (p.2.map T.e)),(12,aj i)],[],[(.loc 0,⟨p.1.length,30,4,none⟩),(.loc 1,⟨p.2.length,30,4,none⟩)],2,[]⟩) t.length (alQ t) ([],[]) b9 ⟨Ψ,Ψ⟩ (fun p d _=>?_) (fun i p hi d _=>?_)
 ·obtain⟨A,B⟩:=p;obtain⟨c,a⟩:=d;simp only at c a⊢;rw[iv (dO _)]at c a;rw[<-bt,<-f,<-c,<-a];simp;(repeat' first|refine al ?_|simp);simp[bZ,ba,be,a1]
 ·obtain⟨A,B⟩:=p;obtain⟨c,a⟩:=d;simp only at c a⊢;obtain⟨b,n,g⟩:=eW hi;have e:t.take (i+1)=t.take i++[b]:=by rw[List.take_succ,n];rfl
  have m:A.length<=1000000:=by rw[c];simp;omega
  have l:B.length<=1000000:=by rw[a];simp;omega
  simp[hi,g];((repeat' first|refine al ?_|refine aO (l3 _) ?_|refine aP (l3 _) ?_|simp[g,hi]|((first|apply ct|apply cz|apply cy)<;>intro h<;>try simp at h))<;>(try exact c3));all_goals try refine⟨by unfold lim;omega,?_⟩
  (repeat' first|refine al ?_|simp);all_goals try refine⟨by unfold lim;omega,?_⟩
  (repeat' first|refine al ?_|simp);refine bY.rng (A++[.var b.v],B++[b.t]) hi ⟨by rw[e,c];simp,by rw[e,a];simp⟩ ?_;simp;exact⟨by simp[fresh,aH,az,cc,aM,ae,j0],eo (by simp[fresh,aH,az,cc,aM,ae,j0]),ep (by simp[fresh,aH,az,dV,aM,ae,j0]),Ψ⟩
def arT{s t:List Bd}(c:fl s)(a:fl t):bU au 165 [bL (s.map Bd.e),bL (t.map Bd.e)] (hg (mgu s (iI t))):=by
 have f:(t.map fun b=>T.var b.v).zip (t.map (·.t))=iI t:=by rw[iI,List.zip_map']
 have key:=asZ s (t.map fun b=>T.var b.v) (t.map (·.t)) Ψ c.sol c.fits c.ok (by simpa using a.len) (fun x e=>by
  obtain⟨b,d,rfl⟩:=gZ.1 e;have:=a.ok b d;simpa[T.ok]using this.1) (fun x e=>by
  obtain⟨b,d,rfl⟩:=gZ.1 e;exact(a.ok b d).2)
 rw[f]at key;have heq:=asf t a.len;generalize (t.map fun b=>T.var b.v)=A at key heq;generalize (t.map fun x=>x.t)=B at key heq;refine bI a6 Tryz.func165 anm fun g=>?_;unfold R2;simp;(repeat' first|refine al ?_|refine aO (rM c) ?_|refine aP (rM c) ?_|refine aO (rM a) ?_|refine aP (rM a) ?_|refine aO heq ?_|refine aP heq ?_|refine aO key ?_|refine aP key ?_|simp);simp[bZ,ba,be,a1];simp[hg]
def nG{α:Type}{t:List α}{i:Nat}{b:α}(a:t[i]? =some b):t.take (i+1)=t.take i++[b]:=by rw[List.take_succ,a];rfl
def hx(s t:List Bd):List Bd:=t.filter fun b=>(dG s b.v).isNone
def sr(s t:List Bd)(i:Nat)(out:List Bd):Prop:=out=hx s (t.take i)
def arX{s t:List Bd}(a:fl s)(g:fl t):bU au 166 [bL (s.map Bd.e),bL (t.map Bd.e)] (bL ((hx s t).map Bd.e)):=by
 have k:=g.len;generalize bt:hx s t=R;refine bI a6 Tryz.func166 anr fun m=>?_;unfold R7;simp;(repeat' first|refine al ?_|refine aO (rM a) ?_|refine aP (rM a) ?_|refine aO (rM g) ?_|refine aP (rM g) ?_|simp);refine fS (α:=List Bd) (fun i out=>⟨[(0,bL (s.map Bd.e)),(17,bL (t.map Bd.e)),(18,aj t.length),(5,.slice 5 (.own (.loc 0)) (out.map Bd.e)),(19,aj i)],[],[(.loc 0,⟨out.length,113,5,none⟩)],1,[]⟩) t.length (sr s t) [] b9 (by simp[sr,hx]) (fun out c _=>?_) (fun i out hi c _=>?_)
 ·rw[sr,iv (dO _),bt]at c;rw[<-c];exact cr
 ·obtain⟨b,j,f⟩:=eW hi;have l:out.length<=1000000:=by
   have:out.length<=(t.take i).length:=by rw[c];exact List.length_filter_le _ _
   simp at this;omega
  have h:=Vl a.sol.asc b.v;simp[hi,f];by_cases d:ox s b.v<0
  ·(repeat' first|refine al ?_|refine aO (vl s b.v a.len) ?_|refine aP (vl s b.v a.len) ?_|refine aO (vj _) ?_|refine aP (vj _) ?_|simp[f,hi,d]);all_goals try refine⟨by unfold lim;omega,?_⟩
   (repeat' first|refine al ?_|simp);refine bY.rng (out++[b]) hi (by rw[sr,nG j,hx,List.filter_append,c];simp[hx,h.1 d]) ?_;simp;exact⟨by simp[fresh,aH,az,cc,aM,ae,j0],eo (by simp[fresh,aH,az,cc,aM,ae,j0]),ep (by simp[fresh,aH,az,dV,aM,ae,j0]),Ψ⟩
  ·(repeat' first|refine al ?_|refine aO (vl s b.v a.len) ?_|refine aP (vl s b.v a.len) ?_|simp[f,hi,d]);refine bY.rng out hi (by
    have:dG s b.v≠none:=fun e=>d (h.2 e);rw[sr,nG j,hx,List.filter_append,c];cases e:dG s b.v with
    |none=>exact absurd e this
    |some x=>simp[hx,e]) ?_
   exact b9
def If(t:List Bd)(i:Nat)(out:List Bd):Prop:=out=t.take i
def acw(t:List Bd)(g:t.length<=1000000):bU au 168 [bL (t.map Bd.e)] (bL (t.map Bd.e)):=by
 refine bI a6 Tryz.func168 Zi fun f=>?_;unfold K1;simp;refine fS (α:=List Bd) (fun i out=>⟨[(7,bL (t.map Bd.e)),(8,aj t.length),(3,.slice 5 (.own (.loc 0)) (out.map Bd.e)),(9,aj i)],[],[(.loc 0,⟨out.length,113,5,none⟩)],1,[]⟩) t.length (If t) [] b9 (by simp[If]) (fun out a _=>?_) (fun i out hi a _=>?_)
 ·rw[If,iv (dO _)]at a;subst a;exact cr
 ·obtain⟨b,d,c⟩:=eW hi;have e:out.length<=1000000:=by rw[a];simp;omega
  simp[hi,c];(repeat' first|refine al ?_|refine aO (vj _) ?_|refine aP (vj _) ?_|simp[c,hi]);all_goals try refine⟨by unfold lim;omega,?_⟩
  (repeat' first|refine al ?_|simp);refine bY.rng (out++[b]) hi (by rw[If,nG d,a]) ?_;simp;exact⟨by simp[fresh,aH,az,cc,aM,ae,j0],eo (by simp[fresh,aH,az,cc,aM,ae,j0]),ep (by simp[fresh,aH,az,dV,aM,ae,j0]),Ψ⟩
def tJ(t:List Bd)(b:Bd):Bool:=decide (cG t b.v=b.t.ap (cG t))
def oJ(s t:List Bd):Bool:=s.all (tJ t)
def FH{t:List Bd}(a:fl t)(v:Int):(cG t v).size<=5000:=by
 unfold cG;cases e:dG t v with
 |none=>simp[T.size]
 |some x=>exact a.fits.2 _ (kQ e)
def acN(s:List Bd){t:List Bd}(u:s.length<=1000000)(d:fl t):bU au 208 [bL (s.map Bd.e),bL (t.map Bd.e)] (.bool (oJ s t)):=by
 refine bI a6 Tryz.func208 anN fun v=>?_;unfold St;simp;refine eZ [1,11,12] (fun i (_:Unit)=>[(13,aj i)]) s.length (qJ (tJ t) s) () b9 (fun k b l=>Ω) (fun _ j _=>?_) (fun i _ hi j _=>?_)
 ·have:oJ s t=true:=by rw[oJ,j6];intro b r;obtain⟨k,l,e⟩:=pA r;exact j k b l (by rw[cl l,e])
  rw[this];exact cr
 ·obtain⟨b,p,g⟩:=eW hi;have n:tJ t b=false->oJ s t=false:=fun h=>by rw[Bool.eq_false_iff];intro o;rw[oJ,j6]at o;rw[o b (ft p)]at h;cases h
  have a:=Kg t (.var b.v) d.len d.sol.asc d.fit;have c:=Kg t b.t d.len d.sol.asc d.fit;have m:=FH d b.v;have q:((T.var b.v).ap (cG t)).size<=5000:=m;rw[if_pos q,lJ q]at a;rw[show(T.var b.v).ap (cG t)=cG t b.v from rfl]at a;simp[hi,g];by_cases f:(b.t.ap (cG t)).size<=5000
  ·rw[if_pos f,lJ f]at c;by_cases he:cG t b.v=b.t.ap (cG t)
   ·rw[he]at a;(repeat' first|refine al ?_|refine aO (l3 _) ?_|refine aP (l3 _) ?_|refine aO a ?_|refine aP a ?_|refine aO c ?_|refine aP c ?_|refine aO (vk _ _) ?_|refine aP (vk _ _) ?_|simp[g,hi,he]);exact bY.rng () hi (j.step p (by simp[tJ,he])) b9
   ·rw[n (by simp[tJ,he])];(repeat' first|refine al ?_|refine aO (l3 _) ?_|refine aP (l3 _) ?_|refine aO a ?_|refine aP a ?_|refine aO c ?_|refine aP c ?_|refine aO (vk _ _) ?_|refine aP (vk _ _) ?_|simp[g,hi,he]);simp[bZ,ba,be,a1]
  ·rw[if_neg f,mv f]at c;rw[n (by simp only[tJ,iO];intro e;rw[<-e]at f;exact f m)];(repeat' first|refine al ?_|refine aO (l3 _) ?_|refine aP (l3 _) ?_|refine aO a ?_|refine aP a ?_|refine aO c ?_|refine aP c ?_|refine aO (vk _ _) ?_|refine aP (vk _ _) ?_|simp[g,hi]);simp[bZ,ba,be,a1]
def EO(c:Bd->Bd->Int):∀a b:List Bd,a=[]\/b=[]->kI c a b=fb a.length b.length
 |[],[],_=>by simp[kI,fb]
 |[],_::_,_=>by simp[kI,fb]<;>omega
 |_::_,[],_=>by simp[kI,fb]<;>omega
 |_::_,_::_,h=>by simp at h
def ZG(x y:Bd)(xs ys:List Bd):fa (x::xs) (y::ys)=if fb x.v y.v=0 then(if e4 x.t y.t=0 then fa xs ys else e4 x.t y.t)else fb x.v y.v:=by
 by_cases a:fb x.v y.v=0
 ·by_cases b:e4 x.t y.t=0<;>simp[fa,kI,zV,a,b]
 ·simp[fa,kI,zV,a]
def ZH(a b k:Int):fb (a-k) (b-k)=fb a b:=by unfold fb;(repeat' split)<;>omega
def NM(d e:List Bd)(i:Nat):Prop:=i<=d.length/\i<=e.length/\fa (d.drop i) (e.drop i)=fa d e
def Ke(d e:List Bd):bU au 207 [bL (d.map Bd.e),bL (e.map Bd.e)] (aj (fa d e)):=by
 generalize bt:fa d e=R;refine bI a6 Tryz.func207 anQ fun l=>?_;unfold Sw;have q:d.length<=68719476736:=by simp[eM,eV,eN,lim]at l;omega
 have he:e.length<=68719476736:=by simp[eM,eV,eN,lim]at l;omega
 simp;refine xb [0,1] (fun(i:Nat)=>[(5,aj i)]) (fun i=>d.length-i) (NM d e) 0 b9 ⟨Ω,Ω,Ψ⟩ (fun i n _=>?_);obtain⟨J,U,a⟩:=n;rw[bt]at a;by_cases hi:i<d.length
 ·by_cases b:i<e.length
  ·obtain⟨x,k⟩:∃x,d[i]? =some x:=⟨_,cl hi⟩;obtain⟨y,m⟩:∃y,e[i]? =some y:=⟨_,cl b⟩;have f:∀h,(d[i]'h)=x:=fun h=>by rw[cl hi]at k;exact e6 k
   have c:∀h,(e[i]'h)=y:=fun h=>by rw[cl b]at m;exact e6 m
   have p:d.drop i=x::d.drop (i+1):=by rw[lG hi,f]
   have o:e.drop i=y::e.drop (i+1):=by rw[lG b,c]
   rw[p,o]at a;rw[ZG]at a;simp[hi,b,f,c];by_cases g:fb x.v y.v=0
   ·rw[if_pos g]at a;by_cases j:e4 x.t y.t=0
    ·rw[if_pos j]at a;(repeat' first|refine al ?_|refine aO (pq _ _) ?_|refine aP (pq _ _) ?_|refine aO (CZ _ _) ?_|refine aP (CZ _ _) ?_|simp[f,c,hi,b,g,j]);refine bY.whl (i+1) Ω ⟨Ω,Ω,by rw[bt];exact a⟩ ?_;exact b9
    ·rw[if_neg j]at a;((repeat' first|refine al ?_|refine aO (pq _ _) ?_|refine aP (pq _ _) ?_|refine aO (CZ _ _) ?_|refine aP (CZ _ _) ?_|simp[f,c,hi,b,g,j]|((first|apply ct|apply cz|apply cy)<;>intro h<;>try simp at h))<;>(try exact c3));simp[bZ,ba,be,a1];exact a
   ·rw[if_neg g]at a;((repeat' first|refine al ?_|refine aO (pq _ _) ?_|refine aP (pq _ _) ?_|simp[f,c,hi,b,g]|((first|apply ct|apply cz|apply cy)<;>intro h<;>try simp at h))<;>(try exact c3));simp[bZ,ba,be,a1];exact a
  ·have:fb d.length e.length=R:=by rw[<-a,fa,EO _ _ _ (.inr (List.drop_eq_nil_of_le Ω))];rw[<-ZH d.length e.length i];simp only[ud];congr 1<;>omega
   simp[hi,b];(repeat' first|refine al ?_|refine aO (pq _ _) ?_|refine aP (pq _ _) ?_|simp[hi,b]);simp[bZ,ba,be,a1];exact this
 ·have:fb d.length e.length=R:=by rw[<-a,fa,EO _ _ _ (.inl (List.drop_eq_nil_of_le Ω))];rw[<-ZH d.length e.length i];simp only[ud];congr 1<;>omega
  simp[hi];(repeat' first|refine al ?_|refine aO (pq _ _) ?_|refine aP (pq _ _) ?_|simp[hi]);simp[bZ,ba,be,a1];exact this
def acA(a b:List Bd)(w:a.length<=1000000):bU au 169 [bL (a.map Bd.e),bL (b.map Bd.e)] (.bool (decide (a=b))):=by
 by_cases r:a.length=b.length;rotate_left
 ·have s:decide (a=b)=false:=by simp only[iO];rintro rfl;exact r rfl
  have v:((a.length:Int) !=(b.length:Int))=true:=by simp;omega
  have u:¬(a.length:Int)=b.length:=Ω
  rw[s];refine bI a6 Tryz.func169 Zj fun t=>?_;unfold K3;exact cr
 ·generalize bt:decide (a=b)=R;refine bI a6 Tryz.func169 Zj fun t=>?_;unfold K3;simp;(repeat' first|refine al ?_|simp[r]);refine eZ [0,1,12] (fun i (_:Unit)=>[(13,aj i)]) b.length (fun i (_:Unit)=> ∀k,k<i->a[k]? =b[k]?) () b9 (fun k p=>Ω) (fun _ o _=>?_) (fun i _ hi o _=>?_)
  ·have:R=true:=by
    rw[<-bt,gy];apply List.ext_getElem?;intro k;by_cases p:k<b.length
    ·exact o k p
    ·rw[q0 Ω,q0 Ω]
   rw[this];exact cr
  ·obtain⟨x,g⟩:∃x,a[i]? =some x:=⟨_,cl Ω⟩;obtain⟨y,c⟩:∃y,b[i]? =some y:=⟨_,cl hi⟩;have f:i<a.length:=Ω
   have m:∀h,(a[i]'h)=x:=fun h=>by rw[cl f]at g;exact e6 g
   have l:∀h,(b[i]'h)=y:=fun h=>by rw[cl hi]at c;exact e6 c
   have q:x≠y->R=false:=fun h=>by rw[<-bt,iO];rintro rfl;rw[g]at c;cases c;exact h rfl
   simp[hi,f,m,l];by_cases d:x.v=y.v
   ·have j:(x.v !=y.v)=false:=by simp[d]
    by_cases n:x.t=y.t
    ·(repeat' first|refine al ?_|refine aO (vk _ _) ?_|refine aP (vk _ _) ?_|simp[m,l,hi,f,d,j,n]);refine bY.rng () hi (fun k p=>?_) ?_
     ·rcases(by omega:k<i\/k=i)with h|rfl
      ·exact o k h
      ·rw[g,c];cases x;cases y;simp_all
     ·exact b9
    ·rw[q (fun e=>n (by rw[e]))];(repeat' first|refine al ?_|refine aO (vk _ _) ?_|refine aP (vk _ _) ?_|simp[m,l,hi,f,d,j,n]);simp[bZ,ba,be,a1]
   ·have j:(x.v !=y.v)=true:=by simp[d]
    rw[q (fun e=>d (by rw[e]))];exact cr
def jP(l:List (List Bd))(e:List Bd):Bool:=l.all fun d=>decide (d=e)|| !oJ d e
def alV{l b:List (List Bd)}(h:∀x,x∈l↔x∈b)(e:List Bd):jP l e=jP b e:=by rw[qZ,jP,jP,j6,j6];exact⟨fun J x a=>J x ((h x).2 a),fun J x a=>J x ((h x).1 a)⟩
def lY(l:List (List Bd)):List (List Bd):=(asc fa l).filter (jP l)
def B5{l:List (List Bd)}{x:List Bd}:x∈lY l↔x∈l/\jP l x=true:=by rw[lY,oW,Yv]
def YD(l:List (List Bd)):iP fa (lY l):=(KM mO l).filter _
def YE{l a:List (List Bd)}(b:iP fa a)(hm:∀x,x∈a↔x∈l/\jP l x=true):lY l=a:=(YD l).ext mO b fun x=>by rw[hm,B5]
structure de where
 n:Int
 b:List Bd
 d:List (List Bd)
 k:List bH
 m:List bo
 deriving DecidableEq,Inhabited
noncomputable def hN(b:List Bd)(k:List bH)(m:List bo):List (List Bd)->bd (List (List Bd))
 |[]=>some []
 |d::r=>match mgu b (iI d)with
  |none=>hN b k m r
  |some x=>if gS x k []=none\/gW x m []=none then hN b k m r else if hx b x=[]then none else(hN b k m r).map (hx b x:: ·)
def lx(k:List bH)(x:bo):Bool:=ny k x.v !=some 3
noncomputable def j4(s:de):bd de:=match gS s.b s.k []with
 |none=>none
 |some k=>match gW s.b s.m []with
  |none=>none
  |some m=>match hN s.b k (m.filter (lx k)) s.d with
   |none=>none
   |some L=>if(lY L).length<=30 then some ⟨s.n,s.b,lY L,k,m.filter (lx k)⟩else none
def yN(t:T)(n:Int):Prop:= ∀v,t.occ v=true->v<n
def q7(l:List Bd)(n:Int):Prop:= ∀b∈l,b.v<n/\yN b.t n
structure oQ (s:de):Prop where
 n:0<=s.n/\s.n<=100000
 b:fl s.b
 d:∀x∈s.d,fl x
 k:jx s.k
 m:iU s.m
 bb:q7 s.b s.n
 db:∀x∈s.d,q7 x s.n
 kb:∀x∈s.k,x.v<s.n
 mb:∀x∈s.m,x.v<s.n
def ve(s:de):Prop:=oQ s/\j4 s=some s
def CL{s:List Bd}(a:fl s){v:Int}(b:0<=v/\v<=100000):(cG s v).ok=true:=by have:=FG a.ok (t:= .var v) (by simpa[T.ok]using b);exact this
def Ju{s:List Bd}(c:fl s):∀{l acc a:List bH},(∀x∈l,(0<=x.v/\x.v<=100000)/\(x.k=2\/x.k=3))->jx acc->gS s l acc=some a->jx a
 |[],acc,a,_,h,he=>by simp only[gS,dU]at he;rw[<-he];exact h
 |x::r,acc,a,b,h,he=>by
  simp only[gS]at he;split at he
  ·rename_i g e;have d:=b x Ψ;exact Ju c (fun y f=>b y (by simp[f])) (Gr h (CL c d.1) d.2 e) he
  ·cases he
def Jv{s:List Bd}(c:fl s):∀{l acc a:List bo},(∀x∈l,(0<=x.v/\x.v<=100000)/\ks x.s=true)->iU acc->gW s l acc=some a->iU a
 |[],acc,a,_,h,he=>by simp only[gW,dU]at he;rw[<-he];exact h
 |x::r,acc,a,b,h,he=>by
  simp only[gW]at he;split at he
  ·rename_i g e;have d:=b x Ψ;exact Jv c (fun y f=>b y (by simp[f])) (KH h (CL c d.1) d.2 e) he
  ·cases he
def oR(G:List (List cS))(l:List bo):Prop:= ∀x∈l,x.s∈G
def KI{G:List (List cS)}{l a:List bo}{t:T}{s:List cS}(h:oR G l)(b:s∈G)(he:nb l t s=some a):oR G a:=fun x c=>by
 rcases(EV he x).1 c with J|⟨J,_⟩
 ·exact h x J
 ·rw[J];exact b
def Jw{G:List (List cS)}{s:List Bd}:∀{l acc a:List bo},oR G l->oR G acc->gW s l acc=some a->oR G a
 |[],acc,a,_,h,he=>by simp only[gW,dU]at he;rw[<-he];exact h
 |x::r,acc,a,b,h,he=>by
  simp only[gW]at he;split at he
  ·rename_i e c;exact Jw (fun y d=>b y (by simp[d])) (KI h (b x Ψ) c) he
  ·cases he
def aps{α:Type}[DecidableEq α]:∀{G:List α} {l:List (Nat×α)},l.Nodup->(∀x∈l,x.1<100001/\x.2∈G)->l.length<=100001*G.length:=by
 intro G l c h;have:=Rc c (l₂:=(List.range 100001).flatMap fun i=>G.map fun g=>(i,g)) (fun x b=>by obtain⟨J,U⟩:=h x b;rw[List.mem_flatMap];exact⟨x.1,List.mem_range.2 J,gZ.2 ⟨x.2,U,rfl⟩⟩)
 have e:((List.range 100001).flatMap fun i=>G.map fun g=>(i,g)).length=100001*G.length:=by
  generalize 100001=n;induction n with
  |zero=>simp
  |succ n a=>rw[List.range_succ,List.flatMap_append,qe,a];simp[Nat.succ_mul]
 omega
def ET{G:List (List cS)}{l:List bo}(h:iU l)(bf:oR G l):l.length<=100001*G.length:=by
 have J:(l.map fun x=>(x.v.toNat,x.s)).Nodup:=by rw[List.nodup_iff_pairwise_ne,List.pairwise_map];refine atx (fun{a b} f g d e=>d ?_) (h.asc.nodup mP);have:=(h.at' a f).1;have:=(h.at' b g).1;simp only[jo]at e;cases a;cases b;simp only[bo.mk.injEq];simp only at*;exact⟨Ω,e.2⟩
 have:=aps (G:=G) J fun x i=>by obtain⟨y,c,rfl⟩:=gZ.1 i;have:=(h.at' y c).1;exact⟨by simp;omega,bf y c⟩
 simpa using this
def kM(m:List bo):Prop:= ∃G:List (List cS),G.length<=687000/\oR G m
def kM.len{m:List bo}(h:kM m)(hm:iU m):m.length<=68719470000:=by obtain⟨G,J,U⟩:=h;have:=ET hm U;omega
def kM.of{m:List bo}(h:m.length<=687000):kM m:=⟨m.map (·.s),by simpa using h,fun _ a=>List.mem_map_of_mem a⟩
def aqI{s:List Bd}(h:fl s)(p:Bd->Bool):fl (s.filter p):=by
 have c:∀b∈s.filter p,b∈s:=fun b a=>(oW.1 a).1;have d:∀w,dG s w=none->dG (s.filter p) w=none:=fun w hw=>by rw[wY]at hw⊢;exact fun b a=>hw b (c b a)
 exact⟨fun b a=>h.ok b (c b a),⟨adg p h.sol.asc,fun b a w hw=>d w (h.sol.free b (c b a) w hw),fun b a=>h.sol.ori b (c b a)⟩,
  kD (List.length_filter_le _ _) h.fits.1,fun b a=>h.fits.2 b (c b a)⟩
def IS{b x:List Bd}(h:fl x):fl (hx b x):=aqI h _
def am5{b x:List Bd}(m:gD b)(d:gD x)(n:iw x)(h:∀a,hT x a->hT b a):jG b (iI (hx b x)) (some x):=by
 refine⟨⟨d,n⟩,fun a=>⟨fun i=>⟨h a i,fun e he=>?_⟩,fun⟨J,U⟩ c aw=>?_⟩⟩
 ·obtain⟨c,aw,rfl⟩:=gZ.1 he;exact i c (oW.1 aw).1
 ·have g:∀c∈x,dG b c.v=none->a c.v=c.t.ap a:=fun c aw o=>by have:=U (.var c.v,c.t) (gZ.2 ⟨c,oW.2 ⟨aw,by simp[o]⟩,rfl⟩);exact this
  have j:∀w,dG b w=none->(cG x w).ap a=a w:=fun w hw=>by
   unfold cG;cases e:dG x w with
   |none=>rfl
   |some t=>have hm:=kQ e;exact(g _ hm hw).symm
  cases e:dG b c.v with
  |none=>exact g c aw e
  |some t=>
   have l:a c.v=t.ap a:=J _ (kQ e);have f:=h (cG x) (Aj d) _ (kQ e);simp only at f;have k:cG x c.v=c.t:=by unfold cG;rw[wX d.asc aw];rfl
   rw[k]at f;rw[l,f,Dg];exact vC fun w hw=>(j w (m.free _ (kQ e) w hw)).symm
def amJ{s:List Bd}(b:gD s)(c:iw s){E:List (T×T)}{x:List Bd}(h:mgu s E=some x):∀a,hT x a↔hT s a/\kl E a:=by have:=IL b c E;rw[h]at this;exact this.2
def amG{s:List Bd}(a:gD s)(b:iw s){E:List (T×T)}{x:List Bd}(h:mgu s E=some x):mgu s (iI (hx s x))=some x:=tK (am5 a (B4 a b h).1 (B4 a b h).2 fun d c=>((amJ a b h d).1 c).1)
def amI(p:Int->Prop){E:List (T×T)}:∀{s j:List Bd},gD s->iw s->(∀b∈s,p b.v/\∀w,b.t.occ w=true->p w)->(∀e∈E,(∀w,e.1.occ w=true->p w)/\∀w,e.2.occ w=true->p w)->mgu s E=some j->∀b∈j,p b.v/\∀w,b.t.occ w=true->p w:=by
 induction E with
 |nil=>intro s j d i J _ h;rw[Oz d i]at h;cases h;exact J
 |cons e E v=>
  intro s j d i J U h;rw[Oy d i]at h;split at h
  ·rename_i s1 m;obtain⟨V,a⟩:∃V,V=s.flatMap (fun b=>b.v::oT b.t)++oT e.1++oT e.2:=⟨_,rfl⟩;have q:∀w∈V,p w:=by
    intro w hw;rw[a]at hw;simp only[kd,List.mem_flatMap,gI]at hw;rcases hw with(⟨b,f,rfl|hw⟩|hw)|hw
    ·exact(J b f).1
    ·exact(J b f).2 w (F4.1 hw)
    ·exact(U e Ψ).1 w (F4.1 hw)
    ·exact(U e Ψ).2 w (F4.1 hw)
   obtain⟨n,o,x,t,r⟩:=acj V _ _ s e.1 e.2 d i (fun c aw=>⟨by rw[a];simp only[kd,List.mem_flatMap];exact .inl (.inl ⟨c,aw,Ψ⟩),fun w hw=>by rw[a];simp only[kd,List.mem_flatMap];exact .inl (.inl ⟨c,aw,by simp[zM hw]⟩)⟩)
    (fun w hw=>by rw[a];simp only[kd];exact .inl (.inr (zM hw))) (fun w hw=>by rw[a];simp only[kd];exact .inr (zM hw)) rfl rfl
   have k:=tK t;rw[m]at k;subst k;obtain⟨g,_⟩:=r s1 rfl;have l:=B4 d i m;exact v l.1 l.2 (fun b f=>⟨q _ (g b f).1,fun w hw=>q w ((g b f).2 w hw)⟩) (fun u he=>U u (by simp[he])) h
  ·cases h
def aqP{s:List Bd}(a:gD s){v n:Int}(h:cG s v= .var n):dG s n=none:=by have:=Qi a (t:= .var v) (w:=n) (by show(cG s v).occ n=true;rw[h];simp[T.occ]);exact this
def KF{l b:List bH}{t:T}{k:Int}(h:jr l t k=some b):∀x∈b,x∈l\/t= .var x.v:=by
 unfold jr at h;split at h
 ·rename_i n;split at h
  ·split at h
   ·cases h;exact fun x a=>.inl a
   ·cases h
  ·cases h;intro x a;rcases IJ.1 a with rfl|a
   ·exact .inr rfl
   ·exact .inl a
 ·split at h
  ·cases h;exact fun x a=>.inl a
  ·cases h
def aa1{s:List Bd}(b:gD s):∀{l acc a:List bH},(∀x∈acc,dG s x.v=none)->gS s l acc=some a->∀x∈a,dG s x.v=none
 |[],acc,a,h,he=>by simp only[gS,dU]at he;rw[<-he];exact h
 |y::r,acc,a,h,he=>by
  simp only[gS]at he;split at he
  ·rename_i e c;refine aa1 b (fun x d=>?_) he;rcases KF c x d with J|J
   ·exact h x J
   ·exact aqP b J
  ·cases he
def Xi{x:bH}:∀{l:List bH},(∀y∈l,y.v<x.v)->nv x l=l++[x]
 |[],_=>rfl
 |y::l,h=>by simp only[nv,if_pos (h y Ψ),Xi (l:=l) fun z a=>h z (by simp[a]),b7]
def aa2{s:List Bd}:∀{l acc:List bH},(acc++l).Pairwise (fun x y=>x.v<y.v)->(∀x∈l,dG s x.v=none)->gS s l acc=some (acc++l)
 |[],acc,_,_=>by simp[gS]
 |x::r,acc,b,c=>by
  have J:∀y∈acc,y.v<x.v:=fun y a=>(List.pairwise_append.1 b).2.2 y a x Ψ;have U:ny acc x.v=none:=EK.2 fun y a=>by have:=J y a;omega
  have d:jr acc (cG s x.v) x.k=some (acc++[x]):=by rw[CK (c x Ψ)];simp only[jr,U];rw[Xi J]
  simp only[gS,d];rw[aa2 (by simpa using b) fun y a=>c y (by simp[a])];simp
def aa4{s:List Bd}(b:gD s):∀{l acc a:List bo},(∀x∈acc,dG s x.v=none)->gW s l acc=some a->∀x∈a,dG s x.v=none
 |[],acc,a,h,he=>by simp only[gW,dU]at he;rw[<-he];exact h
 |y::r,acc,a,h,he=>by
  simp only[gW]at he;split at he
  ·rename_i e c;refine aa4 b (fun x d=>?_) he;rcases(EV c x).1 d with J|⟨_,J⟩
   ·exact h x J
   ·exact Qi b (t:= .var y.v) J
  ·cases he
def aa5{s:List Bd}:∀{l acc:List bo},iP gd (acc++l)->(∀x∈l,dG s x.v=none)->gW s l acc=some (acc++l)
 |[],acc,_,_=>by simp[gW]
 |x::r,acc,a,b=>by
  have c:nb acc (cG s x.v) x.s=some (acc++[x]):=by
   rw[CK (b x Ψ)];refine KG rfl (ayk ?_ a) fun z=>?_
   ·simp
   ·simp only[kd,List.mem_singleton,T.occ,ey];refine or_congr_right ⟨fun h=>by rw[h];exact⟨rfl,rfl⟩,fun⟨J,U⟩=>?_⟩;cases z;cases x;simp_all
  simp only[gW,c];rw[aa5 (by simpa using a) fun y d=>b y (by simp[d])];simp
def yn(b:List Bd)(k:List bH)(m:List bo)(d:List Bd):Prop:= ∃x,mgu b (iI d)=some x/\¬(gS x k []=none\/gW x m []=none)/\hx b x=d/\d≠[]
def Iy{b:List Bd}(a:fl b){k:List bH}{m:List bo}:∀{l L:List (List Bd)},hN b k m l=some L->∀d∈L,yn b k m d
 |[],L,h=>by simp only[hN,dU]at h;rw[<-h];simp
 |d0::r,L,h=>by
  simp only[hN]at h;split at h
  ·exact Iy a h
  ·rename_i x e;split at h
   ·exact Iy a h
   ·rename_i f;split at h
    ·cases h
    ·rename_i g;rw[hq]at h;obtain⟨i,J,rfl⟩:=h;intro d c;rcases gI.1 c with rfl|c
     ·exact⟨x,amG a.sol a.fits e,f,rfl,g⟩
     ·exact Iy a J d c
def X8{b:List Bd}{k:List bH}{m:List bo}:∀{L:List (List Bd)},(∀d∈L,yn b k m d)->hN b k m L=some L
 |[],_=>rfl
 |d::L,h=>by obtain⟨x,J,U,a,c⟩:=h d Ψ;simp only[hN,J,if_neg U,a,if_neg c,X8 (L:=L) fun e he=>h e (by simp[he]),pB]
def Ix{b:List Bd}(g:fl b){k:List bH}{m:List bo}:∀{l L:List (List Bd)},(∀d∈l,fl d)->hN b k m l=some L->∀d∈L,fl d
 |[],L,_,h=>by simp only[hN,dU]at h;rw[<-h];simp
 |d0::r,L,f,h=>by
  simp only[hN]at h;split at h
  ·exact Ix g (fun d a=>f d (by simp[a])) h
  ·rename_i x i;split at h
   ·exact Ix g (fun d a=>f d (by simp[a])) h
   ·split at h
    ·cases h
    ·rw[hq]at h;obtain⟨j,J,rfl⟩:=h;intro d a;rcases gI.1 a with rfl|a
     ·exact IS (g.mgu (fun e he=>by obtain⟨c,aw,rfl⟩:=gZ.1 he;have:=(f d0 Ψ).ok c aw;exact⟨by simpa[T.ok]using this.1,this.2⟩) i)
     ·exact Ix g (fun d a=>f d (by simp[a])) J d a
def Iw{b:List Bd}(f:fl b){n:Int}(i:q7 b n){k:List bH}{m:List bo}:∀{l L:List (List Bd)},(∀d∈l,q7 d n)->hN b k m l=some L->∀d∈L,q7 d n
 |[],L,_,h=>by simp only[hN,dU]at h;rw[<-h];simp
 |d0::r,L,g,h=>by
  simp only[hN]at h;split at h
  ·exact Iw f i (fun d a=>g d (by simp[a])) h
  ·rename_i x j;split at h
   ·exact Iw f i (fun d a=>g d (by simp[a])) h
   ·split at h
    ·cases h
    ·rw[hq]at h;obtain⟨o,J,rfl⟩:=h;intro d a;rcases gI.1 a with rfl|a
     ·have:=amI (fun v=>v<n) f.sol f.fits i (fun e he=>by obtain⟨c,aw,rfl⟩:=gZ.1 he;have:=g d0 Ψ c aw;exact⟨fun w hw=>by simp[T.occ]at hw;subst hw;exact this.1,this.2⟩) j
      exact fun c aw=>this c (oW.1 aw).1
     ·exact Iw f i (fun d a=>g d (by simp[a])) J d a
def amM{L:List (List Bd)}:lY (lY L)=lY L:=YE (YD L) fun x=>by rw[B5,and_assoc];refine⟨fun⟨J,U⟩=>⟨J,U,?_⟩,fun⟨J,U,_⟩=>⟨J,U⟩⟩;rw[jP,j6]at U⊢;exact fun d a=>U d (B5.1 a).1
def NR{b:List Bd}(c:fl b){n:Int}(a:q7 b n){v w:Int}(d:v<n)(h:(cG b v).occ w=true):w<n:=by
 unfold cG at h;cases e:dG b v with
 |none=>rw[e]at h;simp[T.occ]at h;omega
 |some t=>rw[e]at h;exact(a _ (kQ e)).2 w h
def aa0{b:List Bd}(e:fl b){n:Int}(f:q7 b n):∀{l acc a:List bH},(∀x∈l,x.v<n)->(∀x∈acc,x.v<n)->gS b l acc=some a->∀x∈a,x.v<n
 |[],acc,a,_,h,he=>by simp only[gS,dU]at he;rw[<-he];exact h
 |y::r,acc,a,d,h,he=>by
  simp only[gS]at he;split at he
  ·rename_i i g;refine aa0 e f (fun x c=>d x (by simp[c])) (fun x c=>?_) he;rcases KF g x c with J|J
   ·exact h x J
   ·exact NR e f (d y Ψ) (by rw[J];simp[T.occ])
  ·cases he
def aa3{b:List Bd}(e:fl b){n:Int}(f:q7 b n):∀{l acc a:List bo},(∀x∈l,x.v<n)->(∀x∈acc,x.v<n)->gW b l acc=some a->∀x∈a,x.v<n
 |[],acc,a,_,h,he=>by simp only[gW,dU]at he;rw[<-he];exact h
 |y::r,acc,a,d,h,he=>by
  simp only[gW]at he;split at he
  ·rename_i i g;refine aa3 e f (fun x c=>d x (by simp[c])) (fun x c=>?_) he;rcases(EV g x).1 c with J|⟨_,J⟩
   ·exact h x J
   ·exact NR e f (d y Ψ) J
  ·cases he
def abz{s b:de}(h:oQ s)(he:j4 s=some b):ve b/\b.n=s.n/\b.b=s.b:=by
 unfold j4 at he;split at he
 ·cases he
 rename_i k e;split at he
 ·cases he
 rename_i m hm;split at he
 ·cases he
 rename_i L c;split at he;rotate_left
 ·cases he
 rename_i i;cases he;have f:=Ju h.b h.k.at' ⟨Ψ,Ψ⟩ e;have m1:=Jv h.b h.m.at' ⟨Ψ,by simp[iP]⟩ hm;have m2:iU (m.filter (lx k)):=⟨fun x a=>m1.at' x (oW.1 a).1,adg _ m1.asc⟩;have dy:=Iy h.b c;have g:=Ix h.b h.d c;refine⟨⟨⟨h.n,h.b,fun x a=>g x (B5.1 a).1,f,m2,h.bb,fun x a=>Iw h.b h.bb h.db c x (B5.1 a).1,aa0 h.b h.bb h.kb Ψ e,fun x a=>aa3 h.b h.bb h.mb Ψ hm x (oW.1 a).1⟩,?_⟩,rfl,rfl⟩;unfold j4;have n:gS s.b k []=some k:=aa2 (acc:=[]) f.asc (aa1 h.b.sol Ψ e);have p:gW s.b (m.filter (lx k)) []=some (m.filter (lx k)):=aa5 (acc:=[]) m2.asc fun x a=>aa4 h.b.sol Ψ hm x (oW.1 a).1;have j:(m.filter (lx k)).filter (lx k)=m.filter (lx k):=by rw[List.filter_filter];simp
 have l:hN s.b k (m.filter (lx k)) (lY L)=some (lY L):=X8 fun d o=>dy d (B5.1 o).1;simp only[n,p,j,l,amM,if_pos i]
def uX{α:Type}{s:List α}{i:Nat}{t:α}(h:s[i]? =some t):s.drop i=t::s.drop (i+1):=by obtain⟨hi,e⟩:=fH.1 h;rw[lG hi,e]
def rD(L:List (List Bd))(a:List (List Bd))(e:List Bd):List (List Bd):=if jP L e=true then kX fa e a else a
def OA{L:List (List Bd)}:∀(xs:List (List Bd)) {a:List (List Bd)},iP fa a->iP fa (xs.foldl (rD L) a)
 |[],_,h=>h
 |x::xs,a,h=>OA xs (a:=rD L a x) (by unfold rD;split<;>first|exact NG mO h|exact h)
def YG{L:List (List Bd)}{x:List Bd}:∀(xs:List (List Bd)) {a:List (List Bd)},x∈xs.foldl (rD L) a↔x∈a\/(x∈xs/\jP L x=true)
 |[],a=>by simp
 |y::xs,a=>by
  rw[List.foldl_cons,YG xs,gI];unfold rD;by_cases b:jP L y=true
  ·rw[if_pos b,IH mO];constructor
   ·rintro((rfl|h)|h)
    ·exact .inr ⟨.inl rfl,b⟩
    ·exact .inl h
    ·exact .inr ⟨.inr h.1,h.2⟩
   ·rintro(h|⟨rfl|J,U⟩)
    ·exact .inl (.inr h)
    ·exact .inl (.inl rfl)
    ·exact .inr ⟨J,U⟩
  ·rw[if_neg b];constructor
   ·rintro(h|h)
    ·exact .inl h
    ·exact .inr ⟨.inr h.1,h.2⟩
   ·rintro(h|⟨rfl|J,U⟩)
    ·exact .inl h
    ·exact absurd U b
    ·exact .inr ⟨J,U⟩
def YF{L:List (List Bd)}:∀(xs a:List (List Bd)),(xs.foldl (rD L) a).length<=a.length+xs.length
 |[],a=>by simp
 |y::xs,a=>by
  have J:=YF (L:=L) xs (rD L a y);have U:(rD L a y).length<=a.length+1:=by
   unfold rD;split
   ·exact NI _ _
   ·omega
  simp only[List.foldl_cons,mV];omega
def amO(L:List (List Bd)):lY L=L.foldl (rD L) []:=YE (OA L (by simp[iP])) fun x=>by rw[YG];simp
def zE(L:List (List Bd))(i:Nat)(a:List (List Bd)):Prop:=a=(L.take i).foldl (rD L) []
def zE.step{L:List (List Bd)}{i:Nat}{a:List (List Bd)}(h:zE L i a){e:List Bd}(he:L[i]? =some e):zE L (i+1) (rD L a e):=by rw[zE,nG he,List.foldl_append,h];rfl
def xU(e d:List Bd):Bool:=decide (d=e)|| !oJ d e
def rr(L:List (List Bd))(e:List Bd)(j:Nat)(k:Bool):Prop:=k=(L.take j).all (xU e)
def rr.step{L:List (List Bd)}{e:List Bd}{j:Nat}{k:Bool}(h:rr L e j k){d:List Bd}(a:L[j]? =some d):rr L e (j+1) (k&&xU e d):=by rw[rr,nG a,List.all_append,h];simp
def Ig(a:List (List Bd))(e:List Bd)(k:Nat):Prop:=k<=a.length/\∀c,a[k]? =some c->0<=fa c e
def Ig.fin{a:List (List Bd)}{e:List Bd}{k:Nat}(h:Ig a e k)(l:iP fa a)(aw:∀d,0<k->a[k-1]? =some d->fa d e<0):kX fa e a=if(match a[k]? with|some y=>decide (fa y e=0)|none=>false)=true then a else a.take k++e::a.drop k:=
 (NH mO e a k (fun i c hi b=>by
  have m:=h.1;obtain⟨d,f⟩:∃d,a[k-1]? =some d:=⟨_,cl Ω⟩;have J:=aw d Ω f;rcases Nat.lt_or_ge i (k-1)with U|U
  ·have g:=(fH.1 b);have j:=(fH.1 f);have:=q2.1 l i (k-1) g.1 j.1 U;rw[g.2,j.2]at this;exact mO.ltr this Ω
  ·have:i=k-1:=Ω
   subst this;rw[f]at b;cases b;exact J) h.2 h.1).trans (by cases a[k]?<;>rfl)
def XB(L:List (List Bd))(e:List Bd):jP L e=L.all (xU e):=rfl
def abJ{l:List (List Bd)}{x:List Bd}:x∈p8 fa l↔x∈l:=(Ak fa l).mem_iff
def amN(l:List (List Bd)):lY l=(cU none (p8 fa l)).filter (jP (p8 fa l)):=by have h:jP l=jP (p8 fa l):=funext fun e=>alV (fun x=>abJ.symm) e;rw[lY,h];rfl
def mL(s:List (List Bd))(i:Nat)(acc:List (List Bd)):Prop:=acc++(cU (if i=0 then none else s[i-1]?) (s.drop i)).filter (jP s)=(cU none s).filter (jP s)
def hI:de:=⟨0,[],[],[],[]⟩
noncomputable def Ag(s:de):de:=match gS s.b s.k []with
 |none=>hI
 |some k=>match gW s.b s.m []with
  |none=>hI
  |some m=>match hN s.b k (m.filter (lx k)) s.d with
   |none=>hI
   |some L=>⟨s.n,s.b,lY L,k,m.filter (lx k)⟩
def Qh{s b:de}(h:j4 s=some b):Ag s=b:=by
 unfold j4 at h;unfold Ag;cases J:gS s.b s.k []with
 |none=>rw[J]at h;cases h
 |some k=>
  rw[J]at h;simp only at h⊢;cases U:gW s.b s.m []with
  |none=>rw[U]at h;cases h
  |some m=>
   rw[U]at h;simp only at h⊢;cases a:hN s.b k (m.filter (lx k)) s.d with
   |none=>rw[a]at h;cases h
   |some L=>
    rw[a]at h;simp only at h⊢;split at h
    ·cases h;rfl
    ·cases h
def adI{k:List bH}(a:jx k)(v:Int):(jr k (.var v) 2).isSome=(ny k v !=some 3):=by
 unfold jr;simp only;cases h:ny k v with
 |none=>simp
 |some x=>have:=(a.at' _ (XJ h)).2;simp only at this;rcases this with rfl|rfl<;>simp
def adM{k:List bH}(a:k.Pairwise fun x y=>x.v<y.v)(v:Int):(k.any fun x=>x.v==v&&x.k==3)=(ny k v==some 3):=by
 rw[qZ,List.any_eq_true,ey];constructor
 ·rintro⟨x,b,h⟩;simp only[cQ,ey]at h;have:=NV a b;rw[h.1,h.2]at this;exact this
 ·intro h;exact⟨_,XJ h,Ψ⟩
def N9{b:List Bd}{k:List bH}{m:List bo}{d:List Bd}{r:List (List Bd)}(h:mgu b (iI d)=none):hN b k m (d::r)=hN b k m r:=by rw[hN,h]
def N8{b:List Bd}{k:List bH}{m:List bo}{d x:List Bd}{r:List (List Bd)}(h:mgu b (iI d)=some x)(a:gS x k []=none\/gW x m []=none):hN b k m (d::r)=hN b k m r:=by rw[hN,h];simp only[if_pos a]
def N7{b:List Bd}{k:List bH}{m:List bo}{d x:List Bd}{r:List (List Bd)}(h:mgu b (iI d)=some x)(a:¬(gS x k []=none\/gW x m []=none))(c:hx b x=[]):hN b k m (d::r)=none:=by rw[hN,h];simp only[if_neg a,if_pos c]
def Oa{b:List Bd}{k:List bH}{m:List bo}{d x:List Bd}{r:List (List Bd)}(h:mgu b (iI d)=some x)(a:¬(gS x k []=none\/gW x m []=none))(c:hx b x≠[]):hN b k m (d::r)=(hN b k m r).map (hx b x:: ·):=by rw[hN,h];simp only[if_neg a,if_neg c]
def rs(b:List Bd)(k:List bH)(m:List bo)(aY:List (List Bd))(i:Nat)(a:List (List Bd)):Prop:=a.length<=i/\(∀x∈a,fl x)/\(hN b k m (aY.drop i)).map (a++ ·)=hN b k m aY
def gi(n:Int):T->Bool
 | .var v=>decide (v<n)
 | .pair a b=>gi n a&&gi n b
 |_=>true
def Gw{n:Int}:∀{t:T},gi n t=true↔yN t n
 | .var v=>by simp[gi,yN,T.occ]
 | .pair a b=>by simp only[gi,cQ,Gw (t:=a),Gw (t:=b),yN,T.occ,oe];exact⟨fun h v c=>c.elim (h.1 v) (h.2 v),fun h=>⟨fun v c=>h v (.inl c),fun v c=>h v (.inr c)⟩⟩
 | .nil=>by simp[gi,yN,T.occ]
 | .sym _=>by simp[gi,yN,T.occ]
 | .num _=>by simp[gi,yN,T.occ]
def lM(n:Int)(b:Bd):Bool:=decide (b.v<n)&&gi n b.t
def wZ{n:Int}{s:List Bd}:s.all (lM n)=true↔q7 s n:=by simp[j6,lM,q7,Gw]
def sL(v m:Int):Int:=if m<v+1 then v+1 else m
def Ki{n:Int}:∀(t:T) (m:Int),t.fold sL m<=n↔m<=n/\gi n t=true
 | .var v,m=>by simp only[T.fold,sL,gi,gy];split<;>omega
 | .pair a b,m=>by simp only[T.fold,Ki b,Ki a,gi,cQ,and_assoc]
 | .nil,m=>by simp[T.fold,gi]
 | .sym _,m=>by simp[T.fold,gi]
 | .num _,m=>by simp[T.fold,gi]
def F5(v m:Int):bd Int:=if 0<=v/\v<=100000 then some (sL v m)else none
def Q0:∀(t:T) (m:Int),t.ok=true->t.foldO F5 m=some (t.fold sL m)
 | .var v,m,h=>by
  have:0<=v/\v<=100000:=by simpa[T.ok]using h
  simp[T.foldO,T.fold,F5,this]
 | .pair a b,m,h=>by
  have J:a.ok=true/\b.ok=true:=by simpa[T.ok]using h
  simp[T.foldO,T.fold,Q0 a m J.1,Q0 b _ J.2]
 | .nil,m,_=>rfl
 | .sym _,m,_=>rfl
 | .num _,m,_=>rfl
structure gm where
 n:Int
 b:List Bt
 d:List (List Bt)
 k:List bH
 m:List bo
def de.r(s:de):gm:=⟨s.n,s.b.map Bd.b,s.d.map fun x=>x.map Bd.b,s.k,s.m⟩
def ka(r:gm):Prop:= ∃s:de,r=s.r/\ve s
def k7(n:Int)(x:List Bt):Prop:= ∃s:List Bd,x=s.map Bd.b/\fl s/\q7 s n
structure PQ (r:gm):Prop where
 n:0<=r.n/\r.n<=100000
 b:k7 r.n r.b
 d:∀x∈r.d,k7 r.n x
 k:jx r.k
 m:iU r.m
 kb:∀x∈r.k,x.v<r.n
 mb:∀x∈r.m,x.v<r.n
def ka.raw{r:gm}(h:ka r):PQ r:=by obtain⟨s,rfl,J,_⟩:=h;exact⟨J.n,⟨s.b,rfl,J.b,J.bb⟩,fun x b=>by obtain⟨y,a,rfl⟩:=gZ.1 b;exact⟨y,rfl,J.d y a,J.db y a⟩,J.k,J.m,J.kb,J.mb⟩
def wW:∀{a b:List Bd},a.map Bd.b=b.map Bd.b->a=b
 |[],b,h=>by cases b<;>simp at h⊢
 |x::a,[],h=>by simp at h
 |x::a,y::b,h=>by simp only[gY,rQ,Bd.b,Bt.mk.injEq]at h;rw[wW h.2];have:=QK h.1.2;obtain⟨⟨J,_⟩,_⟩:=h;cases x;cases y;simp_all
def RH:∀{a b:List (List Bd)},(a.map fun x=>x.map Bd.b)=(b.map fun x=>x.map Bd.b)->a=b
 |[],b,h=>by cases b<;>simp at h⊢
 |x::a,[],h=>by simp at h
 |x::a,y::b,h=>by rw[gY,gY,rQ]at h;rw[RH h.2,wW h.1]
def de.r_inj{s t:de}(h:s.r=t.r):s=t:=by obtain⟨n,b,d,k,m⟩:=s;obtain⟨n',b2,g,bs,f⟩:=t;simp only[de.r,gm.mk.injEq]at h;obtain⟨J,U,c,e,a⟩:=h;rw[J,wW U,RH c,e,a]
def Uk{n:Int}:∀{d:List (List Bt)},(∀x∈d,k7 n x)->∃aY:List (List Bd),d=(aY.map fun x=>x.map Bd.b)/\(∀x∈aY,fl x)/\∀x∈aY,q7 x n
 |[],_=>⟨[],rfl,Ψ,Ψ⟩
 |x::d,h=>by
  obtain⟨aY,J,U,c⟩:=Uk (d:=d) fun y a=>h y (by simp[a]);obtain⟨s,e,f,b⟩:=h x Ψ;refine⟨s::aY,by rw[J,e];rfl,fun y a=>?_,fun y a=>?_⟩
  ·rcases gI.1 a with rfl|a
   ·exact f
   ·exact U y a
  ·rcases gI.1 a with rfl|a
   ·exact b
   ·exact c y a
def abL{s:de}(h:oQ s):ka s.r↔j4 s=some s:=by
 constructor
 ·rintro⟨t,e,_,U⟩;rw[de.r_inj e];exact U
 ·intro U;exact⟨s,rfl,h,U⟩
def yo{l:List Bt}:KA l↔∃s:List Bd,l=s.map Bd.b/\fl s:=⟨fun⟨s,J,U,a,b⟩=>⟨s,J,U,a,b⟩,fun⟨s,J,U⟩=>⟨s,J,U.ok,U.sol,U.fits⟩⟩
def sW{α:Type}(a b:List α)(i:Nat)(_:Unit):Prop:= ∀k,k<i->a[k]? =b[k]?
def sW.fin{α:Type}{a b:List α}(h:sW a b b.length ())(d:a.length=b.length):a=b:=by
 apply List.ext_getElem?;intro k;by_cases c:k<b.length
 ·exact h k c
 ·rw[q0 Ω,q0 Ω]
def sW.step{α:Type}{a b:List α}{i:Nat}(h:sW a b i ()){x:α}(c:a[i]? =some x)(d:b[i]? =some x):sW a b (i+1) ():=fun k e=>by
 rcases(by omega:k<i\/k=i)with J|rfl
 ·exact h k J
 ·rw[c,d]
def tC{α:Type}(p:α->Prop)(s:List α)(i:Nat)(_:Unit):Prop:= ∀k b,k<i->s[k]? =some b->p b
def tC.step{α:Type}{p:α->Prop}{s:List α}{i:Nat}(h:tC p s i ()){b:α}(d:s[i]? =some b)(a:p b):tC p s (i+1) ():=fun k c e aw=>by
 rcases(by omega:k<i\/k=i)with J|rfl
 ·exact h k c J aw
 ·rw[d]at aw;cases aw;exact a
def tC.fin{α:Type}{p:α->Prop}{s:List α}(h:tC p s s.length ()):∀b∈s,p b:=fun b c=>by obtain⟨k,a,e⟩:=pA c;exact h k b a (by rw[cl a,e])
def R3:C:=(aa [bz 2 false] (.seq (aa [I 5 0,cw 6 5,bP 7 0] (gw 8 7 6 (.seq (.block 1 (aa [I 9 7,ck 10 2 5 7,bk 11 2 10,dt (.alloc 4 none (.agg [.int .i64 0,.int .i64 0])),I 3 9,bV 2 4 11] (.seq (.drawn true 46 [aF 12 0 1 4,ay 13 1 12,aV 14 .lss 13 0,I 15 14,ax 15 false (aF 16 0 1 4),ax 15 false (ay 17 1 16),ax 15 false (aV 18 .gtr 17 100000),ds 19 15 18,I 20 19,ax 20 false (aF 21 1 1 4),ax 20 false (ay 22 1 21),ax 20 false (aV 23 .neq 22 2),cg 20 false 24 23,ax 24 true (aF 25 1 1 4),ax 24 true (ay 26 1 25),ax 24 true (aV 27 .neq 26 3),ax 20 false (eg 28 24 27),ds 29 20 28,I 30 29,cg 30 false 31 3,ax 30 false (aV 32 .gtr 31 0),cg 30 false 33 32,cg 33 true 34 0,cg 33 true 35 3,ax 33 true (aV 36 .sub 35 1),ax 33 true (ck 37 2 34 36),ax 33 true (aF 38 0 1 37),ax 33 true (ay 39 1 38),ax 33 true (aF 40 0 1 4),ax 33 true (ay 41 1 40),ax 33 true (bu 42 .geq 39 41),ax 30 false (eg 43 33 42),ds 44 30 43]) (aW 44 (aa [bz 2 false] .ret) .skip)))) (.region [aV 45 .add 7 1,I 7 45])))) (aa [bz 2 true] .ret)))
def R4:C:=(aa [bz 2 false] (.seq (aa [I 5 0,cw 6 5,bP 7 0] (gw 8 7 6 (.seq (.block 1 (aa [I 9 7,ck 10 2 5 7,bk 11 2 10,dt (.alloc 4 none (.agg [.int .i64 0,.str []])),I 3 9,bV 2 4 11] (.seq (.drawn true 41 [aF 12 0 1 4,ay 13 1 12,aV 14 .lss 13 0,I 15 14,ax 15 false (aF 16 0 1 4),ax 15 false (ay 17 1 16),ax 15 false (aV 18 .gtr 17 100000),ds 19 15 18,I 20 19,ax 20 false (aF 21 1 1 4),ax 20 false (ay 22 1 21),ax 20 false (c0 23 160 22),ax 20 false (cO 24 23),ds 25 20 24,I 26 25,cg 26 false 27 3,ax 26 false (aV 28 .gtr 27 0),cg 26 false 29 28,cg 29 true 30 0,cg 29 true 31 3,ax 29 true (aV 32 .sub 31 1),ax 29 true (ck 33 2 30 32),ax 29 true (bk 34 2 33),ax 29 true (bk 35 2 4),ax 29 true (cb 36 161 34 35),ax 29 true (cO 37 36),ax 26 false (eg 38 29 37),ds 39 26 38]) (aW 39 (aa [bz 2 false] .ret) .skip)))) (.region [aV 40 .add 7 1,I 7 40])))) (aa [bz 2 true] .ret)))
def AN:C:=(aa [cZ 6 2,fw 8 2,bz 9 false] (.seq (aa [I 15 0,c0 16 86 15,cO 17 16,I 18 17,ax 18 false (bk 19 4 6),ax 18 false (c0 20 64 19),ax 18 false (cO 21 20),ds 22 18 21,I 23 22,cg 23 false 24 1,ax 23 false (c0 25 87 24),ax 23 false (cO 26 25),ds 27 23 26,I 28 27,cg 28 false 29 3,ax 28 false (aV 30 .neq 29 2),cg 28 false 31 30,cg 31 true 32 3,ax 31 true (aV 33 .neq 32 3),ax 28 false (eg 34 31 33),ds 35 28 34] (aW 35 (aa [fw 8 2,bz 9 false] .ret) .skip)) (aa [I 37 0,bk 38 4 6,cb 39 69 37 38,I 36 39,cV 40 0 36,cV 41 1 36,dI 10 eB,bV 4 10 40,I 11 41] (.seq (aa [I 42 11,cO 43 42] (aW 43 (aa [fw 8 2,bz 9 false] .ret) .skip)) (aa [dt (.bslm 44 (some 803) 2 98 []),I 45 1,dt (.appm 46 none 2 98 (.t 44) (.t 45)),dt (.alloc 12 (some 804) (.slice 2 .nil [])),bV 1 12 46] (.seq (aa [aF 47 0 1 10,ay 48 1 47,aV 49 .neq 48 1] (aW 49 (.seq (aa [aF 50 0 1 10,ay 51 1 50,I 52 3,bu 53 .neq 51 52] (aW 53 (aa [fw 8 2,bz 9 false] .ret) .skip)) (.seq (.pubB 12 (.region [ay 54 1 12,I 8 54,bz 9 true])) .ret)) .skip)) (.seq (aa [I 55 1,cw 56 55,bP 57 0] (gw 58 57 56 (.seq (.block 1 (aa [ck 59 2 55 57,bk 60 2 59,dt (.alloc 14 none (.agg [.int .i64 0,.int .i64 0])),bV 2 14 60] (aa [aF 61 0 1 14,ay 62 1 61,aF 63 1 1 10,ay 64 1 63,bu 65 .eql 62 64] (aW 65 (.seq (aa [aF 66 1 1 14,ay 67 1 66,I 68 3,bu 69 .neq 67 68] (aW 69 (aa [fw 8 2,bz 9 false] .ret) .skip)) (.seq (.pubB 12 (.region [ay 70 1 12,I 8 70,bz 9 true])) .ret)) .skip)))) (.region [aV 71 .add 57 1,I 57 71])))) (aa [ay 72 1 12,aF 73 1 1 10,ay 74 1 73,I 75 3,cd 76 (.build [.int .i64 0,.int .i64 0] [(0,1,(.t 74)),(1,1,(.t 75))]),fe 77 2 98 [.t 76],dt (.appm 78 none 2 98 (.t 72) (.t 77)),bV 1 12 78] (aa [ay 79 1 12,cd 80 (.mkif 48 (.t 79)),cd 81 (.mkf 183 [.t 12]),cb 82 182 80 81] (.seq (.pubB 12 (.region [ay 83 1 12,I 8 83,bz 9 true])) .ret))))))))))
def GA:C:=(aa [cZ 6 2,dt (.box 7 (some 811) (.t 3)),fw 8 2,bz 9 false] (.seq (aa [I 17 0,c0 18 86 17,cO 19 18,I 20 19,ax 20 false (bk 21 4 6),ax 20 false (c0 22 64 21),ax 20 false (cO 23 22),ds 24 20 23,I 25 24,cg 25 false 26 1,ax 25 false (c0 27 88 26),ax 25 false (cO 28 27),ds 29 25 28,I 30 29,ax 30 false (ay 31 1 7),ax 30 false (c0 32 160 31),ax 30 false (cO 33 32),ds 34 30 33] (aW 34 (aa [fw 8 2,bz 9 false] .ret) .skip)) (aa [I 36 0,bk 37 4 6,cb 38 69 36 37,I 35 38,cV 39 0 35,cV 40 1 35,dI 10 eB,bV 4 10 39,I 11 40] (.seq (aa [I 41 11,cO 42 41,I 43 42,ax 43 false (bk 44 4 10),ax 43 false (ay 45 1 7),ax 43 false (cb 46 177 44 45),ds 47 43 46] (aW 47 (aa [fw 8 2,bz 9 false] .ret) .skip)) (aa [dt (.mkmap 48 (some 812)),dt (.alloc 12 (some 813) (.junk)),bV 1 12 48] (.seq (aa [I 49 1,cw 50 49,bP 51 0] (gw 52 51 50 (.seq (.block 1 (aa [ck 53 2 49 51,bk 54 2 53,dt (.alloc 14 none (.agg [.int .i64 0,.str []])),bV 2 14 54] (.region [ay 55 1 12,bk 56 2 14,dt (.mput (.a [false,true]) (.t 55) (.t 56) (.c (.bool true)))]))) (.region [aV 57 .add 51 1,I 51 57])))) (aa [bk 58 4 10,cd 59 (.mkf 184 [.t 12,.t 7]),cb 60 134 58 59] (aa [dt (.bslm 61 (some 814) 2 100 []),dt (.alloc 15 (some 815) (.slice 2 .nil [])),bV 1 15 61] (.seq (aa [ay 62 1 12,dt (.range 63 none (.t 62))] (.block 2 (.loop (aa [⟨none,.next 64 (.t 63)⟩,cV 65 0 64] (.seq (aW 65 .skip (.exit 2)) (.block 3 (aa [cd 66 (.ment (.t 63)),cV 67 0 66,dt (.alloc 16 none (.agg [.int .i64 0,.str []])),bV 2 16 67] (.region [ay 68 1 15,bk 69 2 16,fe 70 2 100 [.t 69],dt (.appm 71 none 2 100 (.t 68) (.t 70)),bV 1 15 71])))))))) (aa [ay 72 1 15,cd 73 (.mkif 49 (.t 72)),cd 74 (.mkf 185 [.t 15]),cb 75 182 73 74] (.seq (.pubB 15 (.region [ay 76 1 15,I 8 76,bz 9 true])) .ret)))))))))))
def GB:C:=(aa [cZ 2 0,cZ 3 1,bz 4 false] (aa [aF 5 0 1 2,ay 6 1 5,aF 7 0 1 3,ay 8 1 7,bu 9 .lss 6 8,I 10 9,ax 10 false (aF 11 0 1 2),ax 10 false (ay 12 1 11),ax 10 false (aF 13 0 1 3),ax 10 false (ay 14 1 13),ax 10 false (bu 15 .eql 12 14),cg 10 false 16 15,ax 16 true (aF 17 1 1 2),ax 16 true (ay 18 1 17),ax 16 true (aF 19 1 1 3),ax 16 true (ay 20 1 19),ax 16 true (bu 21 .lss 18 20),ax 10 false (eg 22 16 21),ds 23 10 22,I 4 23] .ret))
def GF:C:=(aa [cZ 2 0,bz 4 false] (.seq (aa [aF 5 0 1 2,ay 6 1 5,aV 7 .eql 6 4] (aW 7 (aa [aF 8 3 1 2,ay 9 1 8,kB 10 4 9 0,bk 11 4 10,I 12 1,cb 13 177 11 12,I 14 13,ax 14 false (aF 15 3 1 2),ax 14 false (ay 16 1 15),ax 14 false (kB 17 4 16 1),ax 14 false (bk 18 4 17),cg 14 false 19 1,ax 14 false (cb 20 177 18 19),ds 21 14 20,I 4 21] .ret) .skip)) (aa [aF 22 0 1 2,ay 23 1 22,aV 24 .eql 23 2,I 25 24,ax 25 true (aF 26 2 1 2),ax 25 true (ay 27 1 26),cg 25 true 28 1,ax 25 true (bu 29 .eql 27 28),eg 30 25 29,I 4 30] .ret)))
def R0:C:=(aa [bz 5 false] (.seq (.drawn true 17 [ay 6 1 2,I 7 0,ck 8 2 6 7,aF 9 0 1 8,ay 10 1 9,ay 11 1 2,I 12 1,ck 13 2 11 12,aF 14 0 1 13,ay 15 1 14,bu 16 .lss 10 15,I 5 16]) .ret))
def RY:C:=(.region [ay 4 1 1,I 5 0,ay 6 1 2,cd 7 (.build [.int .i64 0,.str []] [(0,1,(.t 5)),(1,1,(.t 6))]),dt (.mput (.a [false,true]) (.t 4) (.t 7) (.c (.bool true)))])
def RZ:C:=(aa [bz 5 false] (.seq (.drawn true 15 [ay 6 1 2,I 7 0,ck 8 2 6 7,bk 9 2 8,ay 10 1 2,I 11 1,ck 12 2 10 11,bk 13 2 12,cb 14 161 9 13,I 5 14]) .ret))
def ann:b4 aT R3 [.tmp 2] 1 Tryz.f87=true:=bi
def ano:b4 aT R4 [.tmp 2] 1 Tryz.f88=true:=bi
def E5:b4 aT AN [.tmp 8,.tmp 9] 4 Tryz.f118=true:=bi
def OX:b4 aT GA [.tmp 8,.tmp 9] 4 Tryz.f120=true:=bi
def OY:b4 aT GB [.tmp 4] 2 Tryz.f161=true:=bi
def O1:b4 aT GF [.tmp 4] 2 Tryz.f177=true:=bi
def ank:b4 aT R0 [.tmp 5] 3 Tryz.f183=true:=bi
def ani:b4 aT RY [] 3 Tryz.f184=true:=bi
def anj:b4 aT RZ [.tmp 5] 3 Tryz.f185=true:=bi
def nx(x:bH):Prop:=(0<=x.v/\x.v<=100000)/\(x.k=2\/x.k=3)
def oH(x y:bH):Prop:=x.v<y.v
def Im{l:List bH}:jx l↔∀i,i<l.length->jf nx oH l i:=by rw[Rq (p:=nx) (r:=oH) (fun a b c J U=>by unfold oH at*;omega)];exact⟨fun h=>⟨h.at',h.asc⟩,fun h=>⟨h.1,h.2⟩⟩
def kZ(x:bo):Prop:=(0<=x.v/\x.v<=100000)/\ks x.s=true
def lv(x y:bo):Prop:=gd x y<0
def IE{l:List bo}:iU l↔∀i,i<l.length->jf kZ lv l i:=by rw[Rq (p:=kZ) (r:=lv) (fun a b c J U=>by unfold lv at*;exact mP.ltr J (Int.le_of_lt U))];exact⟨fun h=>⟨h.at',h.asc⟩,fun h=>⟨h.1,h.2⟩⟩
open Classical in
def aco(l:List bH):bU au 87 [b6 (l.map bH.e)] (.bool (decide (jx l))):=by
 generalize bt:decide (jx l)=R;refine bI a6 Tryz.func87 ann fun p=>?_;unfold R3;have s:l.length<=68719476736:=by simp[eM,eV,eN,lim]at p;omega
 simp;refine eZ [0,5,6] (fun i (_:Unit)=>[(7,aj i)]) l.length (fun i _=> ∀j,j<i->jf nx oH l j) () b9 (fun k w=>Ω) (fun _ f _=>?_) (fun i _ hi f _=>?_)
 ·have:R=true:=by rw[<-bt,gy,Im];exact f
  rw[this];exact cr
 ·obtain⟨b,a⟩:∃b,l[i]? =some b:=⟨_,cl hi⟩;obtain⟨c,aw⟩:∃c,l[i-1]? =some c:=⟨_,cl Ω⟩;have m:∀h,(l[i]'h)=b:=fun h=>by rw[cl hi]at a;exact e6 a
  have o:¬jf nx oH l i->R=false:=fun h=>by rw[<-bt,iO];exact fun d=>h (Im.1 d i hi)
  have dy:jf nx oH l i->∀j,j<i+1->jf nx oH l j:=fun h j r=>by
   by_cases e:j=i
   ·rw[e];exact h
   ·exact f j Ω
  simp[hi,m,aw];((repeat' first|refine al ?_|simp[m,aw,hi]|((first|apply ct|apply cz|apply cy)<;>intro h<;>try simp at h))<;>(try exact c3));all_goals first
   |(have q:¬jf nx oH l i:=by(intro d;have J:=d b a;have U:=J.2 c;have v:=J.1;unfold nx oH at*;first|omega|(have x:=U Ω aw;omega)|(simp_all;done)|(simp_all;omega))
     rw[o q]
     simp[bZ,ba,be,a1]
     done)
   |(refine bY.rng () hi (dy fun b2 n=>?_) ?_
     ·rw[a]at n;cases n
      refine⟨?_,fun t u g=>?_⟩
      ·unfold nx;first|(simp_all;done)|(simp_all;omega)
      ·rw[aw]at g;cases g;unfold oH;simp_all
     ·exact b9)
def CW(a b:bo):bU au 161 [a.e,b.e] (.bool (iL gd a b)):=by
 rw[<-YV];have bt:u5 a b=(decide (a.v<b.v)||(a.v==b.v&&iu a.s b.s)):=rfl;rcases Int.lt_trichotomy a.v b.v with h|h|h
 ·have:u5 a b=true:=by rw[bt];simp[h]
  rw[this];refine bI a6 Tryz.func161 OY fun c=>?_;unfold GB;exact cr
 ·have J:¬a.v<b.v:=Ω
  have U:(a.v==b.v)=true:=by simp[h]
  have:u5 a b=iu a.s b.s:=by rw[bt];simp[h]
  rw[this];refine bI a6 Tryz.func161 OY fun c=>?_;unfold GB;exact cr
 ·have J:¬a.v<b.v:=Ω
  have U:¬a.v=b.v:=Ω
  have d:(a.v==b.v)=false:=by simp[U]
  have:u5 a b=false:=by rw[bt];simp[J,U]
  rw[this];refine bI a6 Tryz.func161 OY fun c=>?_;unfold GB;exact cr
open Classical in
def acq(l:List bo):bU au 88 [b6 (l.map bo.e)] (.bool (decide (iU l))):=by
 generalize bt:decide (iU l)=R;refine bI a6 Tryz.func88 ano fun v=>?_;unfold R4;have x:l.length<=68719476736:=by simp[eM,eV,eN,lim]at v;omega
 simp;refine eZ [0,5,6] (fun i (_:Unit)=>[(7,aj i)]) l.length (fun i _=> ∀j,j<i->jf kZ lv l j) () b9 (fun k z=>Ω) (fun _ o _=>?_) (fun i _ hi o _=>?_)
 ·have:R=true:=by rw[<-bt,gy,IE];exact o
  rw[this];exact cr
 ·obtain⟨b,d⟩:∃b,l[i]? =some b:=⟨_,cl hi⟩;obtain⟨c,aw⟩:∃c,l[i-1]? =some c:=⟨_,cl Ω⟩;have a:∀h,(l[i]'h)=b:=fun h=>by rw[cl hi]at d;exact e6 d
  have s:¬jf kZ lv l i->R=false:=fun h=>by rw[<-bt,iO];exact fun t=>h (IE.1 t i hi)
  have dy:jf kZ lv l i->∀j,j<i+1->jf kZ lv l j:=fun h j w=>by
   by_cases e:j=i
   ·rw[e];exact h
   ·exact o j Ω
  have g:∀p:Prop,(p->eu)->(jf kZ lv l i->p)->R=false:=fun p J U=>s fun h=>J (U h);have f:jf kZ lv l i->kZ b:=fun h=>(h b d).1;have u:jf kZ lv l i->0<i->iL gd c b=true:=fun h n=>by simpa[iL,lv]using(h b d).2 c n aw
  have m:kZ b->(0<i->iL gd c b=true)->jf kZ lv l i:=fun J U b2 r=>by rw[d]at r;cases r;exact⟨J,fun y n q=>by rw[aw]at q;cases q;simpa[iL,lv]using U n⟩
  unfold kZ at f m;by_cases g1:b.v<0
  ·rw[g _ (fun h=>Ω) (fun h=>(f h).1.1)];exact cr
  by_cases g2:100000<b.v
  ·rw[g _ (fun h=>Ω) (fun h=>(f h).1.2)];exact cr
  cases g3:ks b.s
  ·rw[g _ (fun h=>by rw[h]at g3;cases g3) (fun h=>(f h).2)];simp[hi,a,aw];(repeat' first|refine al ?_|refine aO (vi _) ?_|refine aP (vi _) ?_|simp[a,aw,hi,g1,g2,g3]);simp[bZ,ba,be,a1]
  by_cases g4:0<i
  ·cases g5:iL gd c b
   ·rw[g _ (fun h=>by rw[h]at g5;cases g5) (fun h=>u h g4)];simp[hi,a,aw];(repeat' first|refine al ?_|refine aO (vi _) ?_|refine aP (vi _) ?_|refine aO (CW _ _) ?_|refine aP (CW _ _) ?_|simp[a,aw,hi,g1,g2,g3,g4,g5]);simp[bZ,ba,be,a1]
   ·simp[hi,a,aw];(repeat' first|refine al ?_|refine aO (vi _) ?_|refine aP (vi _) ?_|refine aO (CW _ _) ?_|refine aP (CW _ _) ?_|simp[a,aw,hi,g1,g2,g3,g4,g5]);exact bY.rng () hi (dy (m ⟨⟨Ω,Ω⟩,g3⟩ fun _=>g5)) b9
  ·obtain rfl:i=0:=Ω
   simp[hi,a,aw];(repeat' first|refine al ?_|refine aO (vi _) ?_|refine aP (vi _) ?_|simp[a,aw,hi,g1,g2,g3,g4]);exact bY.rng () hi (dy (m ⟨⟨Ω,Ω⟩,g3⟩ fun h=>Ω)) b9
def ash(s:List cS):∀t:T,bU au 177 [t.e,.str s] (.bool (t.has s)):=by
 intro t;induction t with
 |pair a b d c=>
  refine bI a6 Tryz.func177 O1 fun g=>?_;unfold GF;simp;cases e:a.has s<;>cases f:b.has s<;>rw[e]at d<;>rw[f]at c;all_goals(repeat' first|refine al ?_|refine aO d ?_|refine aP d ?_|refine aO c ?_|refine aP c ?_|simp)
  all_goals simp[bZ,ba,be,a1]
  all_goals simp[T.has,e,f]
 |sym n=>
  refine bI a6 Tryz.func177 O1 fun g=>?_;unfold GF;simp;(repeat' first|refine al ?_|simp);all_goals simp[bZ,ba,be,a1]
  all_goals simp[T.has]
 |_=>
  refine bI a6 Tryz.func177 O1 fun g=>?_;unfold GF;simp;(repeat' first|refine al ?_|simp);all_goals simp[bZ,ba,be,a1]
  all_goals simp[T.has]
def To:C:=(aa [cZ 2 0] (aa [bP 4 20] (aa [I 8 4,bP 5 0,I 6 8] (.seq (.block 0 (.loop (.seq (aa [I 9 6,I 10 1,bu 11 .leq 9 10] (aW 11 .skip (.exit 0))) (.block 1 (aa [bk 12 2 2,I 13 5,I 14 6,dT 15 231 [.t 12,.t 13,.t 14]] (aa [I 16 6,I 5 16] (.region [I 17 6,I 18 4,bu 19 .add 17 18,I 6 19]))))))) (aa [bk 20 2 2,I 21 5,I 22 1,dT 23 231 [.t 20,.t 21,.t 22]] (.block 2 (.loop (.seq (aa [I 24 4,I 25 1,bu 26 .lss 24 25] (aW 26 .skip (.exit 2))) (.block 3 (aa [I 27 4,cd 28 (.bin .mul false (gX 2) (.t 27)),bP 5 0,I 6 28] (.seq (.block 4 (.loop (.seq (aa [I 29 6,I 30 1,bu 31 .leq 29 30] (aW 31 .skip (.exit 4))) (.block 5 (aa [bk 32 2 2,I 33 5,I 34 5,I 35 4,bu 36 .add 34 35,I 37 6,dT 38 232 [.t 32,.t 33,.t 36,.t 37]] (aa [I 39 6,I 5 39] (.region [I 40 6,I 41 4,cd 42 (.bin .mul false (gX 2) (.t 41)),bu 43 .add 40 42,I 6 43]))))))) (.seq (aa [I 44 5,I 45 4,bu 46 .add 44 45,I 7 46] (aa [I 47 7,I 48 1,bu 49 .lss 47 48] (aW 49 (.region [bk 50 2 2,I 51 5,I 52 7,I 53 1,dT 54 232 [.t 50,.t 51,.t 52,.t 53]]) .skip))) (.region [I 55 4,aV 56 .mul 55 2,I 4 56])))))))))))))
def Ll:C:=(aa [cZ 3 0] (aa [I 8 1,aV 9 .add 8 1,I 6 9] (.block 0 (.loop (.seq (aa [I 10 6,I 11 2,bu 12 .lss 10 11] (aW 12 .skip (.exit 0))) (.seq (.block 1 (aa [I 15 6,I 7 15] (.block 2 (.loop (.seq (aa [I 16 7,I 17 1,bu 18 .gtr 16 17,I 19 18,ax 19 true (aF 20 0 1 3),ax 19 true (ay 21 1 20),cg 19 true 22 7,cg 19 true 23 7,ax 19 true (aV 24 .sub 23 1),ax 19 true (hJ 25 21 [.t 22,.t 24]),eg 26 19 25] (aW 26 .skip (.exit 2))) (.seq (.block 3 (.region [aF 29 1 1 3,ay 30 1 29,I 31 7,I 32 7,aV 33 .sub 32 1,hJ 34 30 [.t 31,.t 33]])) (.region [I 27 7,aV 28 .sub 27 1,I 7 28]))))))) (.region [I 13 6,aV 14 .add 13 1,I 6 14])))))))
def GL:C:=(aa [I 164 16,I 165 22,bu 166 .lss 164 165,I 167 166,cg 167 true 168 22,cg 167 true 169 3,ax 167 true (bu 170 .lss 168 169),eg 171 167 170] (aW 171 (.region [bk 172 2 4,I 173 16,I 174 22,I 175 3,dT 176 232 [.t 172,.t 173,.t 174,.t 175]]) .skip))
def GM:C:=(.seq (aa [I 151 1,I 152 18,bu 153 .lss 151 152,I 154 153,cg 154 true 155 18,cg 154 true 156 16,ax 154 true (bu 157 .lss 155 156),eg 158 154 157] (aW 158 (.region [bk 159 2 4,I 160 1,I 161 18,I 162 16,dT 163 232 [.t 159,.t 160,.t 161,.t 162]]) .skip)) GL)
def Lp:C:=(.seq (aa [I 138 18,I 139 2,bu 140 .lss 138 139,I 141 140,cg 141 true 142 2,cg 141 true 143 22,ax 141 true (bu 144 .lss 142 143),eg 145 141 144] (aW 145 (.region [bk 146 2 4,I 147 18,I 148 2,I 149 22,dT 150 251 [.t 146,.t 147,.t 148,.t 149]]) .skip)) GM)
def Lq:C:=(aa [I 113 17,aV 114 .sub 113 1,I 20 114] (.seq (.block 8 (.loop (.seq (aa [I 115 18,I 116 19,bu 117 .lss 115 116] (aW 117 .skip (.exit 8))) (.block 9 (aa [I 118 18,I 119 19,bu 120 .add 118 119,cd 121 (.conv .u64 (.t 120)),cd 122 (.bin .shr false (.t 121) (.c (.int .u64 1))),cd 123 (.conv .i64 (.t 122)),I 21 123] (aa [aF 124 0 1 4,ay 125 1 124,I 126 20,I 127 21,bu 128 .sub 126 127,I 129 21,hJ 130 125 [.t 128,.t 129],cO 131 130] (aW 131 (.region [I 132 21,aV 133 .add 132 1,I 18 133]) (.region [I 134 21,I 19 134])))))))) (aa [I 135 17,I 136 18,bu 137 .sub 135 136,I 22 137] Lp)))
def Tq:C:=(aa [cZ 4 0] (.seq (aa [I 23 2,I 24 1,bu 25 .sub 23 24,aV 26 .eql 25 1] (aW 26 (aa [I 27 2,I 8 27] (aa [I 28 3,I 9 28] (.seq (.block 0 (.loop (.seq (aa [I 29 8,I 30 9,bu 31 .lss 29 30] (aW 31 .skip (.exit 0))) (.block 1 (aa [I 32 8,I 33 9,bu 34 .add 32 33,cd 35 (.conv .u64 (.t 34)),cd 36 (.bin .shr false (.t 35) (.c (.int .u64 1))),cd 37 (.conv .i64 (.t 36)),I 10 37] (aa [aF 38 0 1 4,ay 39 1 38,I 40 10,I 41 1,hJ 42 39 [.t 40,.t 41]] (aW 42 (.region [I 43 10,aV 44 .add 43 1,I 8 44]) (.region [I 45 10,I 9 45])))))))) (.seq (aa [I 46 1,I 11 46] (.block 2 (.loop (.seq (aa [I 47 11,I 48 8,aV 49 .sub 48 1,bu 50 .lss 47 49] (aW 50 .skip (.exit 2))) (.seq (.block 3 (.region [aF 53 1 1 4,ay 54 1 53,I 55 11,I 56 11,aV 57 .add 56 1,hJ 58 54 [.t 55,.t 57]])) (.region [I 51 11,aV 52 .add 51 1,I 11 52])))))) .ret)))) .skip)) (.seq (aa [I 59 3,I 60 2,bu 61 .sub 59 60,aV 62 .eql 61 1] (aW 62 (aa [I 63 1,I 12 63] (aa [I 64 2,I 13 64] (.seq (.block 4 (.loop (.seq (aa [I 65 12,I 66 13,bu 67 .lss 65 66] (aW 67 .skip (.exit 4))) (.block 5 (aa [I 68 12,I 69 13,bu 70 .add 68 69,cd 71 (.conv .u64 (.t 70)),cd 72 (.bin .shr false (.t 71) (.c (.int .u64 1))),cd 73 (.conv .i64 (.t 72)),I 14 73] (aa [aF 74 0 1 4,ay 75 1 74,I 76 2,I 77 14,hJ 78 75 [.t 76,.t 77],cO 79 78] (aW 79 (.region [I 80 14,aV 81 .add 80 1,I 12 81]) (.region [I 82 14,I 13 82])))))))) (.seq (aa [I 83 2,I 15 83] (.block 6 (.loop (.seq (aa [I 84 15,I 85 12,bu 86 .gtr 84 85] (aW 86 .skip (.exit 6))) (.seq (.block 7 (.region [aF 89 1 1 4,ay 90 1 89,I 91 15,I 92 15,aV 93 .sub 92 1,hJ 94 90 [.t 91,.t 93]])) (.region [I 87 15,aV 88 .sub 87 1,I 15 88])))))) .ret)))) .skip)) (aa [I 95 1,I 96 3,bu 97 .add 95 96,cd 98 (.conv .u64 (.t 97)),cd 99 (.bin .shr false (.t 98) (.c (.int .u64 1))),cd 100 (.conv .i64 (.t 99)),I 16 100] (aa [I 101 16,I 102 2,bu 103 .add 101 102,I 17 103] (aa [bP 18 0,bP 19 0] (.seq (aa [I 104 2,I 105 16,bu 106 .gtr 104 105] (aW 106 (aa [I 107 17,I 108 3,bu 109 .sub 107 108,I 18 109] (.region [I 110 16,I 19 110])) (aa [I 111 1,I 18 111] (.region [I 112 2,I 19 112])))) Lq)))))))
def Tl:C:=(aa [cZ 4 0] (aa [I 10 2,I 11 1,bu 12 .sub 10 11,I 8 12] (aa [I 13 3,I 14 2,bu 15 .sub 13 14,I 9 15] (.seq (.block 0 (.loop (.seq (aa [I 16 8,I 17 9,bu 18 .neq 16 17] (aW 18 .skip (.exit 0))) (.block 1 (aa [I 19 8,I 20 9,bu 21 .gtr 19 20] (aW 21 (aa [bk 22 2 4,I 23 2,I 24 8,bu 25 .sub 23 24,I 26 2,I 27 9,dT 28 270 [.t 22,.t 25,.t 26,.t 27]] (.region [I 29 8,I 30 9,bu 31 .sub 29 30,I 8 31])) (aa [bk 32 2 4,I 33 2,I 34 8,bu 35 .sub 33 34,I 36 2,I 37 9,bu 38 .add 36 37,I 39 8,bu 40 .sub 38 39,I 41 8,dT 42 270 [.t 32,.t 35,.t 40,.t 41]] (.region [I 43 9,I 44 8,bu 45 .sub 43 44,I 9 45])))))))) (.region [bk 46 2 4,I 47 2,I 48 8,bu 49 .sub 47 48,I 50 2,I 51 8,dT 52 270 [.t 46,.t 49,.t 50,.t 51]])))))
def Tp:C:=(aa [cZ 4 0] (aa [bP 8 0] (.block 0 (.loop (.seq (aa [I 9 8,I 10 3,bu 11 .lss 9 10] (aW 11 .skip (.exit 0))) (.seq (.block 1 (.region [aF 14 1 1 4,ay 15 1 14,I 16 1,I 17 8,bu 18 .add 16 17,I 19 2,I 20 8,bu 21 .add 19 20,hJ 22 15 [.t 18,.t 21]])) (.region [I 12 8,aV 13 .add 12 1,I 8 13])))))))
def aoE:b4 aT To [] 2 Tryz.f199=true:=bi
def ZB:b4 aT Ll [] 3 Tryz.f231=true:=bi
def aoG:b4 aT Tq [] 4 Tryz.f232=true:=bi
def aoC:b4 aT Tl [] 4 Tryz.f251=true:=bi
def aoF:b4 aT Tp [] 4 Tryz.f270=true:=bi
end
section
open Go Go.Pv
structure fR {α:Type} (S:List α->cR) (n:Nat) (g cq:Nat) (lc ch:List af) (lt:α->α->Bool):Prop where
 ok:∀l,ez (S l)
 same:∀l bg,l.length=n->bg.length=n->Same (S l) (S bg)
 klc:∀l,l.length=n->aH (aM (S l)) lc
 ksc:∀l,l.length=n->aH (aM (S l)) ch
 slc:cf lc=lc
 ssc:cf ch=ch
 le:n<=68719476736
 less:∀l,l.length=n->∀(i j:Nat) x y,l[i]? =some x->l[j]? =some y->bG au g (aj i::aj j::lc) (S l) fun r ak=>r= .bool (lt x y)/\ak=S l
 swap:∀l,l.length=n->2<=n->∀i j:Nat,i<n->j<n->bG au cq (aj i::aj j::ch) (S l) fun r ak=>r= .tuple []/\ak=S (ie l i j)
variable {α:Type} {S:List α->cR} {n g cq:Nat} {lc ch:List af} {lt:α->α->Bool}
def fC(g cq:Nat)(lc ch:List af):af:= .agg [.func g lc,.func cq ch]
def Mr(H:fR S n g cq lc ch lt)(l:List α)(e:l.length=n)(a b c:Nat)(v:a+c<=b)(u:b+c<=n):
  bG au 270 [fC g cq lc ch,aj a,aj b,aj c] (S l) fun r o=>r= .tuple []/\∃h,o=S h/\hj a (b+c) l h/\∀k,h[k]? =l[tW a b c k]?:=by
 have j:=H.ok l;have d:∀l m,ae (.loc m) (S l).b=none:=fun l=>(H.ok l).obj.1;have hu:∀l m cs,cJ (.loc m) cs (S l).b=(S l).b++[(.loc m,cs)]:=fun l m cs=>kO (d l m);have ar:∀m,aB.loc m∉cK (S l):=kJ j.obj;have hle:=H.le;refine bG.mk mixed a6 Tryz.func270 aoF Ψ j.obj fun t s=>?_;unfold Tp;simp[fC,hu,ar,c6,d,H.slc,H.ssc];refine fS (fun i (lk:List α)=>⟨[(1,aj a),(2,aj b),(3,aj c),(4,.ptr (.loc 0) 0),(8,aj i)],[(.loc 0,[.func g lc,.func cq ch])]++(S lk).b,(S lk).e,1,cK (S l)⟩) c (fun i lk=>lk.length=n/\hj a (b+c) l lk/\∀k,lk[k]? =l[tW a b i k]?) l
  (gn.obL j (Same.refl _) dl (by simp[c6,d,az,aH,Cd (H.klc l e),Cd (H.ksc l e)]) aX aX) ⟨e,.refl _,fun k=>by simp[tW];split<;>(try split)<;>(try rfl)<;>(exfalso;omega)⟩ ?_ ?_
 ·rintro lk ⟨J,U,f⟩ _;simp;refine c5.at (S lk) (.inr rfl) (H.ok lk) (H.same _ _ e J) aX aX ?_;simp[dc,ba,be,a1];exact⟨lk,rfl,U,f⟩
 ·rintro i lk hi ⟨J,U,f⟩ _;have p:((a:Int)+i)=(a+i:Nat):=Ω
  have q:((b:Int)+i)=(b+i:Nat):=Ω
  simp[hi,c6,d,H.ssc];(repeat' first|refine al ?_|simp);rw[p,q];refine CallDo.ob (H.swap lk J Ω (a+i) (b+i) Ω Ω) (H.ok lk) aX aX (by simp[H.ksc lk J]) ?_;rintro r o ⟨rfl,rfl⟩;refine⟨H.same _ _ J (by simp[J]),?_⟩;simp[hH,jz,cL,d];(repeat' first|refine al ?_|simp);refine bY.rng (ie lk (a+i) (b+i)) hi ⟨by simp[J],.step U Ω Ω Ω Ω Ω Ω,fun k=>?_⟩ (gn.obL (L:=[(.loc 0,[.func g lc,.func cq ch])]) (H.ok _) (H.same _ _ e (by simp[J])) dl (by simp[c6,d,az,aH,Cd (H.klc (ie lk (a+i) (b+i)) (by simp[J])),Cd (H.ksc (ie lk (a+i) (b+i)) (by simp[J]))]) aX aX);rw[B2 _ _ _ _ Ω Ω,f,f,f];have:tW a b (i+1) k=if k=a+i then tW a b i (b+i)else if k=b+i then tW a b i (a+i)else tW a b i k:=by
   simp only[tW];repeat' split
   all_goals omega
  rw[this];split
  ·rfl
  ·split<;>rfl
section
variable (H:fR S n g cq lc ch lt)
include H
theorem fR.loc{l:List α}(m:Nat):ae (.loc m) (S l).b=none:=(H.ok l).obj.1 m
theorem fR.weak{l lk:List α}(c:l.length=n)(a:lk.length=n){st:bp}{t':List (Nat×af)}(e:∀x∈t',Pv.get x.1 st.t=x.2/\az (nA (S lk) 1) x.2)(b:ae (.loc 0) st.b=some [.func g lc,.func cq ch])
  (d:∀k cs,ae k (S lk).b=some cs->ae k st.b=some cs) (he:∀k o,ae k (S lk).e=some o->ae k st.e=some o):
  gn (cK (S l)) st ⟨t',(.loc 0,[.func g lc,.func cq ch])::(S lk).b,(S lk).e,1,cK (S l)⟩:=
 gn.obL (L:=[(.loc 0,[.func g lc,.func cq ch])]) (H.ok _) (H.same _ _ c a) e (by simp[b,az,aH,Cd (H.klc lk a),Cd (H.ksc lk a)]) d he
theorem fR.weakC{l lk:List α}(b:l.length=n)(c:lk.length=n){t t':List (Nat×af)}{q:Nat}{o:List aB}(d:∀x∈t',Pv.get x.1 t=x.2/\az (nA (S lk) 1) x.2):
  gn (cK (S l)) ⟨t,(.loc 0,[.func g lc,.func cq ch])::(S lk).b,(S lk).e,q,o⟩ ⟨t',(.loc 0,[.func g lc,.func cq ch])::(S lk).b,(S lk).e,1,cK (S l)⟩:=
 H.weak b c d (by simp[ae]) (fun k cs a=>by
  cases k with
  |loc m=>rw[H.loc m]at a;cases a
  |obj m=>simpa[ae]using a) (fun _ _ a=>a)
theorem fR.call{lk:List α}(J:lk.length=n){f:Nat}{args:List af}{R:af->List α->Prop}(j:bG au f args (S lk) fun r c=> ∃a,c=S a/\R r a)(bt:∀r a,R r a->a.length=n)(i:aH (aM (S lk)) args){t:List (Nat×af)}{aY:List af}{o:List aB}{d:bd Nat}{K:bp->Prop}
  (h:∀r a,R r a->K ⟨e5 d r t,(.loc 0,aY)::(S a).b,(S a).e,1,o++cK (S a)⟩):CallDo au f args ⟨t,(.loc 0,aY)::(S lk).b,(S lk).e,1,o⟩ d K:=by
 refine CallDo.ob j (H.ok lk) (fun k cs b=>?_) (fun _ _ b=>b) i ?_
 ·cases k with
  |loc m=>rw[H.loc m]at b;cases b
  |obj m=>simpa[ae]using b
 ·rintro r c ⟨a,rfl,e⟩;refine⟨H.same _ _ J (bt _ _ e),?_⟩;have g:cL (S lk).b ((.loc 0,aY)::(S lk).b)=[(.loc 0,aY)]:=by have:=jz (S lk).b [(aB.loc 0,aY)] (S lk).b;rw[hH]at this;simpa[cL,H.loc]using this
  have l:cL (S lk).e (S lk).e=[]:=hH _;have:=h _ _ e;simp only[g,l];exact this
theorem fR.doSwap{lk:List α}(J:lk.length=n)(i j:Nat)(hi:i<n)(c:j<n)(U:2<=n){t:List (Nat×af)}{aY:List af}{o:List aB}{d:bd Nat}{K:bp->Prop}
  (h:K ⟨e5 d (.tuple []) t,(.loc 0,aY)::(S (ie lk i j)).b,(S (ie lk i j)).e,1,o++cK (S (ie lk i j))⟩):CallDo au cq (aj i::aj j::ch) ⟨t,(.loc 0,aY)::(S lk).b,(S lk).e,1,o⟩ d K:=
 H.call J (R:=fun r a=>r= .tuple []/\a=ie lk i j) ((H.swap lk J U i j hi c).mono fun r g ⟨b,f⟩=>⟨_,f,b,rfl⟩) (fun r a ⟨_,e⟩=>by rw[e];simp[J]) (by simp[az,aH,H.ksc lk J]) (by rintro r a ⟨rfl,rfl⟩;exact h)
theorem fR.doLess{lk:List α}(J:lk.length=n)(i j:Nat){x y:α}(hi:lk[i]? =some x)(c:lk[j]? =some y){t:List (Nat×af)}{aY:List af}{o:List aB}{d:bd Nat}{K:bp->Prop}
  (h:K ⟨e5 d (.bool (lt x y)) t,(.loc 0,aY)::(S lk).b,(S lk).e,1,o++cK (S lk)⟩):CallDo au g (aj i::aj j::lc) ⟨t,(.loc 0,aY)::(S lk).b,(S lk).e,1,o⟩ d K:=
 H.call J (R:=fun r a=>r= .bool (lt x y)/\a=lk) ((H.less lk J i j x y hi c).mono fun r k ⟨b,f⟩=>⟨_,f,b,rfl⟩) (fun r a ⟨_,e⟩=>by rw[e];exact J) (by simp[az,aH,H.klc lk J]) (by rintro r a ⟨rfl,rfl⟩;exact h)
theorem fR.doFn{lk:List α}(J:lk.length=n){f:Nat}{args:List af}{R:List α->Prop}(j:bG au f args (S lk) fun r b=>r= .tuple []/\∃a,b=S a/\R a)(bt:∀a,R a->a.length=n)(g:aH (aM (S lk)) args){t:List (Nat×af)}{aY:List af}{o:List aB}{d:bd Nat}{K:bp->Prop}
  (h:∀a,R a->K ⟨e5 d (.tuple []) t,(.loc 0,aY)::(S a).b,(S a).e,1,o++cK (S a)⟩):CallDo au f args ⟨t,(.loc 0,aY)::(S lk).b,(S lk).e,1,o⟩ d K:=
 H.call J (R:=fun r a=>r= .tuple []/\R a) (j.mono fun r b ⟨e,a,k,c⟩=>⟨a,k,e,c⟩) (fun r a h=>bt a h.2) g (by rintro r a ⟨rfl,i⟩;exact h a i)
theorem fR.kdata{lk:List α}(J:lk.length=n):az (aM (S lk)) (fC g cq lc ch):=by simp[fC,az,aH,H.klc lk J,H.ksc lk J]
theorem fR.ret{l lk:List α}(c:l.length=n)(J:lk.length=n){Q:af->cR->Prop}{e:Exit}(he:e= .ret\/e= .normal){t:List (Nat×af)}{aY:List af}{q:Nat}{o:List aB}(b:Q (.tuple []) (S lk)):c5 [] (S l) Q e ⟨t,(.loc 0,aY)::(S lk).b,(S lk).e,q,o⟩:=by
 refine c5.at (S lk) he (H.ok lk) (H.same _ _ c J) (fun k cs a=>?_) (fun _ _ a=>a) ?_
 ·cases k with
  |loc m=>rw[H.loc m]at a;cases a
  |obj m=>simpa[ae]using a
 ·simp[dc,ba,a1,az,aH,b]
end
def jl(H:fR S n g cq lc ch lt):b5 (fC g cq lc ch)=fC g cq lc ch:=by simp[fC,b5,cf,H.slc,H.ssc]
def jg:af.agg [.func g lc,.func cq ch]=fC g cq lc ch:=rfl
def ajg(H:fR S n g cq lc ch lt)(l:List α)(f:l.length=n)(a m b:Nat)(G:a<m)(A:m<b)(E:b<=n):
  bG au 251 [fC g cq lc ch,aj a,aj m,aj b] (S l) fun r y=>r= .tuple []/\∃c,y=S c/\hj a b l c/\∀k,c[k]? =l[iW a m b k]?:=by
 have u:=H.ok l;have s:∀l m,ae (.loc m) (S l).b=none:=fun l=>(H.ok l).obj.1;have hu:∀l m cs,cJ (.loc m) cs (S l).b=(S l).b++[(.loc m,cs)]:=fun l m cs=>kO (s l m);have ar:∀m,aB.loc m∉cK (S l):=kJ u.obj;have hle:=H.le;refine bG.mk mixed a6 Tryz.func251 aoC Ψ u.obj fun F B=>?_;unfold Tl;simp[fC,hu,ar,c6,s];(repeat' first|refine al ?_|simp[hu,ar,c6,s]);refine o7 (fun(x:(Nat×Nat)×List α)=>⟨[(2,aj m),(4,.ptr (.loc 0) 0),(8,aj x.1.1),(9,aj x.1.2)],(.loc 0,[.func g lc,.func cq ch])::(S x.2).b,(S x.2).e,1,cK (S l)⟩) (fun x=>x.1.1+x.1.2)
  (fun x=>x.2.length=n/\0<x.1.1/\0<x.1.2/\a+x.1.1<=m/\m+x.1.2<=b/\hj a b l x.2/\∀k,l[iW a m b k]? =x.2[iW (m-x.1.1) m (m+x.1.2) k]?) ((m-a,b-m),l)
  (H.weak f f (by simp[az];omega) (by simp[c6,s]) aX aX) ⟨f,by simp;omega,by simp;omega,by simp;omega,by simp;omega,.refl _,fun k=>by simp[show m-(m-a)=a by omega,show m+(b-m)=b by omega]⟩ ?_
 rintro⟨⟨i,j⟩,lk⟩ ⟨J,hi,v,t,w,U,q⟩ _;simp only at J hi v t w U q;simp[ae];((repeat' first|refine al ?_|simp[ae]|((first|apply ct|apply cz|apply cy)<;>intro h<;>try simp at h))<;>(try exact c3))
 ·have p:((m:Int)-i)=(m-i:Nat):=Ω
  simp only[jl H,H.slc,H.ssc,p,jg];refine H.doFn J (Mr H lk J (m-i) m j Ω Ω) (fun c h=>by rw[h.1.length];exact J) (by simp[aH,az,H.kdata J]) ?_;rintro c ⟨d,o⟩;have e:c.length=n:=by rw[d.length];exact J
  simp;((repeat' first|refine al ?_|simp|((first|apply ct|apply cz|apply cy)<;>intro h<;>try simp at h))<;>(try exact c3));refine bY.whl ((i-j,j),c) d6 ⟨e,by simp;omega,v,by simp;omega,w,U.trans (d.mono Ω Ω),fun k=>?_⟩ (H.weakC f e (by simp[az];omega));rw[q,o];congr 1;simp only[iW,tW];repeat' split
  all_goals omega
 ·have p:((m:Int)-i)=(m-i:Nat):=Ω
  have z:((m:Int)+j-i)=(m+j-i:Nat):=Ω
  simp only[jl H,H.slc,H.ssc,p,z,jg];refine H.doFn J (Mr H lk J (m-i) (m+j-i) i Ω Ω) (fun c h=>by rw[h.1.length];exact J) (by simp[aH,az,H.kdata J]) ?_;rintro c ⟨d,o⟩;have e:c.length=n:=by rw[d.length];exact J
  simp;(repeat' first|refine al ?_|simp);refine bY.whl ((i,j-i),c) d6 ⟨e,hi,by simp;omega,t,by simp;omega,U.trans (d.mono Ω Ω),fun k=>?_⟩ (H.weakC f e (by simp[az];omega));rw[q,o];congr 1;simp only[iW,tW];repeat' split
  all_goals omega
 ·have p:((m:Int)-i)=(m-i:Nat):=Ω
  simp only[jl H,H.slc,H.ssc,p,jg];refine H.doFn J (Mr H lk J (m-i) m i Ω Ω) (fun c h=>by rw[h.1.length];exact J) (by simp[aH,az,H.kdata J]) ?_;rintro c ⟨d,o⟩;have e:c.length=n:=by rw[d.length];exact J
  simp;refine H.ret f e (.inr rfl) ⟨rfl,c,rfl,U.trans (d.mono Ω Ω),fun k=>?_⟩;rw[q,o];congr 1;simp only[iW,tW];repeat' split
  all_goals omega
end
section
open Go Go.Pv
variable {α:Type} {S:List α->cR} {n g cq:Nat} {lc ch:List af} {lt:α->α->Bool}
def vx(lt:α->α->Bool)(a b j:Nat)(l:List α):Prop:= ∀p q x y,a<=p->p<q->q<b->q≠j->l[p]? =some x->l[q]? =some y->lt y x=false
def vx.swap(n:rW lt){a b j:Nat}{l:List α}(h:vx lt a b (j+1) l)(s:a<=j)(t:j+1<b)(r:j+1<l.length){x y:α}(g:l[j+1]? =some x)(d:l[j]? =some y)(m:lt x y=true):vx lt a b j (ie l (j+1) j):=by
 intro p q u v i k f o hu c;rw[B2 _ _ _ _ r Ω]at hu c;rw[if_neg (by omega:¬(q=j))]at c;split at c
 ·rename_i e;subst e;rw[d]at c;cases c;split at hu
  ·omega
  ·split at hu
   ·rw[g]at hu;cases hu;exact n.asym _ _ m
   ·exact h p j u y i Ω Ω Ω hu d
 ·split at hu
  ·rename_i e;subst e;rw[d]at hu;cases hu;exact h j q y v s Ω f Ω d c
  ·split at hu
   ·rename_i e;subst e;rw[g]at hu;cases hu;exact h (p+1) q x v Ω Ω f Ω g c
   ·exact h p q u v i k f Ω hu c
def vx.done(k:rW lt){a b j:Nat}{l:List α}(h:vx lt a b (j+1) l)(r:a<=j)(s:j+1<b){x y:α}(n:l[j+1]? =some x)(g:l[j]? =some y)(d:lt x y=false):fY lt a b l:=by
 intro p q u v f i m hu c;by_cases e:q=j+1
 ·subst e;rw[n]at c;cases c;by_cases o:p=j
  ·subst o;rw[g]at hu;cases hu;exact d
  ·exact k.ntr _ _ _ (h p j u y f Ω Ω Ω hu g) d
 ·exact h p q u v f i m e hu c
def vx.first{a b:Nat}{l:List α}(h:vx lt a b a l):fY lt a b l:=fun p q u v d c e hu f=>h p q u v d c e Ω hu f
def fY.but{a b:Nat}{l:List α}(h:fY lt a b l):vx lt a (b+1) b l:=fun p q u v d c f g hu e=>h p q u v d c Ω hu e
def VG(H:fR S n g cq lc ch lt)(B:rW lt)(l:List α)(d:l.length=n)(a b:Nat)(Q:a<=b)(W:b<=n):
  bG au 231 [fC g cq lc ch,aj a,aj b] (S l) fun r O=>r= .tuple []/\∃t,O=S t/\hj a b l t/\fY lt a b t:=by
 have E:=H.ok l;have s:∀l m,ae (.loc m) (S l).b=none:=fun l=>(H.ok l).obj.1;have hu:∀l m cs,cJ (.loc m) cs (S l).b=(S l).b++[(.loc m,cs)]:=fun l m cs=>kO (s l m);have ar:∀m,aB.loc m∉cK (S l):=kJ E.obj;have hle:=H.le;refine bG.mk mixed a6 Tryz.func231 ZB Ψ E.obj fun X R=>?_;unfold Ll;simp[fC,hu,ar,c6,s];(repeat' first|refine al ?_|simp[hu,ar,c6,s]);refine o7 (fun(x:Nat×List α)=>⟨[(1,aj a),(2,aj b),(3,.ptr (.loc 0) 0),(6,aj x.1)],(.loc 0,[.func g lc,.func cq ch])::(S x.2).b,(S x.2).e,1,cK (S l)⟩) (fun x=>b+1-x.1)
  (fun x=>x.2.length=n/\a<x.1/\x.1<=b+1/\(x.1<=b\/x.1=a+1)/\hj a b l x.2/\fY lt a x.1 x.2) (a+1,l)
  (H.weak d d dl (by simp[c6,s]) aX aX) ⟨d,Ψ,by simp;omega,.inr rfl,.refl _,fun i j x y J U e=>by simp at e;omega⟩ ?_
 rintro⟨i,lk⟩ ⟨J,G,P,F,U,e⟩ _;simp only at J G P F U e;simp;((repeat' first|refine al ?_|simp|((first|apply ct|apply cz|apply cy)<;>intro h<;>try simp at h))<;>(try exact c3))
 ·refine o7 (fun(x:Nat×List α)=>⟨[(1,aj a),(2,aj b),(3,.ptr (.loc 0) 0),(6,aj i),(7,aj x.1)],(.loc 0,[.func g lc,.func cq ch])::(S x.2).b,(S x.2).e,1,cK (S l)⟩) (fun x=>x.1)
   (fun x=>x.2.length=n/\a<=x.1/\x.1<=i/\hj a b l x.2/\vx lt a (i+1) x.1 x.2) (i,lk)
   (H.weakC d J dl) ⟨J,by simp;omega,Ψ,U,fY.but e⟩ ?_
  rintro⟨j,f⟩ ⟨c,v,u,o,k⟩ _;simp only at c v u o k;simp[ae];((repeat' first|refine al ?_|simp[ae]|((first|apply ct|apply cz|apply cy)<;>intro h<;>try simp at h))<;>(try exact c3))
  ·obtain⟨dh,rfl⟩:∃dh,j=dh+1:=⟨j-1,Ω⟩;obtain⟨x,w⟩:∃x,f[dh+1]? =some x:=⟨_,cl Ω⟩;obtain⟨y,z⟩:∃y,f[dh]? =some y:=⟨_,cl Ω⟩;have N:(((dh+1:Nat):Int)-1)=(dh:Nat):=Ω
   rw[H.slc,N];refine H.doLess c (dh+1) dh w z ?_;simp;cases A:lt x y with
   |true=>
    simp[ae];(repeat' first|refine al ?_|simp[ae]);have L:((dh:Int)+1)=(dh+1:Nat):=Ω
    rw[H.ssc,L];refine H.doSwap c (dh+1) dh Ω Ω Ω ?_;simp;(repeat' first|refine al ?_|simp);refine bY.whl (dh,ie f (dh+1) dh) Ψ ⟨by simp[c],by simp;omega,by simp;omega,.step o Ω Ω Ω Ω Ω Ω,k.swap B Ω Ω Ω w z A⟩ (H.weakC d (by simp[c]) dl)
   |false=>simp;((repeat' first|refine al ?_|simp|((first|apply ct|apply cz|apply cy)<;>intro h<;>try simp at h))<;>(try exact c3));refine bY.whl (i+1,f) d6 ⟨c,by simp;omega,by simp;omega,by simp;omega,o,k.done B Ω Ω w z A⟩ (H.weakC d c dl)
  ·obtain rfl:j=a:=Ω
   refine bY.whl (i+1,f) d6 ⟨c,by simp;omega,by simp;omega,by simp;omega,o,k.first⟩ (H.weakC d c dl)
 ·refine H.ret d J (.inr rfl) ⟨rfl,lk,rfl,U,fun p q x y M K V=>e p q x y M K Ω⟩
end
section
open Go Go.Pv
variable {α:Type} [Inhabited α] {S:List α->cR} {n g cq:Nat} {lc ch:List af} {lt:α->α->Bool}
def AH{d:Array α}{i:Nat}(h:i<d.size):d.toList[i]? =some d[i]!:=by simp[getElem!_pos,h]
def ID(d:Array α){i j:Nat}(hi:i<d.size)(a:j<d.size):ie d.toList i j=(Sort.swp d i j).toList:=by simp[ie,Sort.swp,AH hi,AH a]
section
variable (H:fR S n g cq lc ch lt)
include H
theorem fR.swapA{d:Array α}(J:d.size=n)(U:2<=n)(i j:Nat)(hi:i<n)(b:j<n){t:List (Nat×af)}{aY:List af}{o:List aB}{a:bd Nat}{K:bp->Prop}
  (h:∀o,K ⟨e5 a (.tuple []) t,(.loc 0,aY)::(S (Sort.swp d i j).toList).b,(S (Sort.swp d i j).toList).e,1,o⟩):CallDo au cq (.int .i64 i:: .int .i64 j::ch) ⟨t,(.loc 0,aY)::(S d.toList).b,(S d.toList).e,1,o⟩ a K:=by
 refine H.doSwap (by simpa using J) i j hi b U ?_;rw[ID d Ω Ω];exact h _
theorem fR.lessA{d:Array α}(J:d.size=n)(i j:Nat)(hi:i<n)(b:j<n){t:List (Nat×af)}{aY:List af}{o:List aB}{a:bd Nat}{K:bp->Prop}
  (h:∀o,K ⟨e5 a (.bool (lt d[i]! d[j]!)) t,(.loc 0,aY)::(S d.toList).b,(S d.toList).e,1,o⟩):CallDo au g (.int .i64 i:: .int .i64 j::lc) ⟨t,(.loc 0,aY)::(S d.toList).b,(S d.toList).e,1,o⟩ a K:=
 H.doLess (by simpa using J) i j (AH Ω) (AH Ω) (h _)
theorem fR.fnA{d d2:Array α}(J:d.size=n)(U:d2.size=n){f:Nat}{args:List af}{r:af}(k:bG au f args (S d.toList) fun a g=>a=r/\g=S d2.toList)(j:aH (aM (S d.toList)) args){t:List (Nat×af)}{aY:List af}{o:List aB}{c:bd Nat}{K:bp->Prop}
  (h:∀o,K ⟨e5 c r t,(.loc 0,aY)::(S d2.toList).b,(S d2.toList).e,1,o⟩):CallDo au f args ⟨t,(.loc 0,aY)::(S d.toList).b,(S d.toList).e,1,o⟩ c K:=
 H.call (by simpa using J) (R:=fun a b=>a=r/\b=d2.toList) (k.mono fun r g ⟨i,l⟩=>⟨_,l,i,rfl⟩) (fun r b ⟨_,e⟩=>by rw[e];simpa using U) j (by rintro a b ⟨rfl,rfl⟩;exact h _)
end
section
variable (H:fR S n g cq lc ch lt)
include H
theorem fR.loopA{β:Type}{d:List α}(m:d.length=n){t:List (Nat×af)}{b:List (aB×List af)}{e:List (aB×dW)}{q:Nat}{o:List aB}(h:List Nat)(cs:β->List (Nat×af))(A:β->Array α)(μ:β->Nat)(f:β->Prop)(a0:β)(j:(A a0).size=n)(l:f a0)
  (i:ae (.loc 0) b=some [.func g lc,.func cq ch]) (s:∀k cs,ae k (S (A a0).toList).b=some cs->ae k b=some cs) (he:∀k o,ae k (S (A a0).toList).e=some o->ae k e=some o)
  (u:∀x∈wk t h++cs a0,Pv.get x.1 t=x.2/\az (nA (S (A a0).toList) 1) x.2) {c:C} {Q:Exit->bp->Prop}
  (p:∀a,f a->df au (cK (S d)) c (bY (cK (S d)) (C6 (fun a=>⟨wk t h++cs a,(.loc 0,[.func g lc,.func cq ch])::(S (A a).toList).b,(S (A a).toList).e,1,cK (S d)⟩) μ f) (μ a) Q) ⟨wk t h++cs a,(.loc 0,[.func g lc,.func cq ch])::(S (A a).toList).b,(S (A a).toList).e,1,cK (S d)⟩):
  df au (cK (S d)) (.loop c) Q ⟨t,b,e,q,o⟩:=
 o7 (fun a=>⟨wk t h++cs a,(.loc 0,[.func g lc,.func cq ch])::(S (A a).toList).b,(S (A a).toList).e,1,cK (S d)⟩) μ f a0 (H.weak m (by simpa using j) u i s he) l fun a r _=>p a r
theorem fR.callA0{lk:List α}(J:lk.length=n){f:Nat}{args:List af}{R:af->List α->Prop}(j:bG au f args (S lk) fun r c=> ∃a,c=S a/\R r a)(bt:∀r a,R r a->a.length=n)(i:aH (aM (S lk)) args){t:List (Nat×af)}{aY:List af}{o:List aB}{d:bd Nat}{K:bp->Prop}
  (h:∀r a,R r a->∀o,K ⟨e5 d r t,(.loc 0,aY)::(S a).b,(S a).e,1,o⟩):CallDo au f args ⟨t,(S lk).b++[(.loc 0,aY)],(S lk).e,1,o⟩ d K:=by
 refine CallDo.ob j (H.ok lk) (fun k cs b=>by rw[c6,b]) (fun _ _ b=>b) i ?_;rintro r c ⟨a,rfl,e⟩;refine⟨H.same _ _ J (bt _ _ e),?_⟩;have g:cL (S lk).b ((S lk).b++[(.loc 0,aY)])=[(.loc 0,aY)]:=by rw[jz,hH];simp[cL,H.loc]
 have l:cL (S lk).e (S lk).e=[]:=hH _;have:=h _ _ e (o++cK (S a));simp only[g,l];exact this
theorem fR.swapA0{d:Array α}(J:d.size=n)(U:2<=n)(i j:Nat)(hi:i<n)(f:j<n){t:List (Nat×af)}{aY:List af}{o:List aB}{b:bd Nat}{K:bp->Prop}
  (h:∀o,K ⟨e5 b (.tuple []) t,(.loc 0,aY)::(S (Sort.swp d i j).toList).b,(S (Sort.swp d i j).toList).e,1,o⟩):CallDo au cq (.int .i64 i:: .int .i64 j::ch) ⟨t,(S d.toList).b++[(.loc 0,aY)],(S d.toList).e,1,o⟩ b K:=by
 refine H.callA0 (by simpa using J) (R:=fun r a=>r= .tuple []/\a=(Sort.swp d i j).toList) ((H.swap d.toList (by simpa using J) U i j hi f).mono fun r k ⟨c,g⟩=>⟨_,g,c,ID d Ω Ω⟩) (fun r a ⟨_,e⟩=>by rw[e];simp[Sort.swp,J]) (by simp[az,aH,H.ksc d.toList (by simpa using J)]) ?_;rintro r a ⟨rfl,rfl⟩ o;exact h o
theorem fR.retA{l:List α}{d:Array α}(b:l.length=n)(J:d.size=n){Q:af->cR->Prop}{e:Exit}(he:e= .ret\/e= .normal){t:List (Nat×af)}{aY:List af}{q:Nat}{o:List aB}(a:Q (.tuple []) (S d.toList)):c5 [] (S l) Q e ⟨t,(.loc 0,aY)::(S d.toList).b,(S d.toList).e,q,o⟩:=H.ret b (by simpa using J) he a
theorem fR.retR{b:List bW}{l:List α}{d:Array α}(c:l.length=n)(J:d.size=n){Q:af->cR->Prop}{e:Exit}(he:e= .ret\/e= .normal){t:List (Nat×af)}{aY:List af}{q:Nat}{o:List aB}(h:dc ⟨t,(.loc 0,aY)::(S d.toList).b,(S d.toList).e,q,o⟩ b fun r=>az (aM (S d.toList)) r/\Q r (S d.toList)):c5 b (S l) Q e ⟨t,(.loc 0,aY)::(S d.toList).b,(S d.toList).e,q,o⟩:=by
 refine c5.at (S d.toList) he (H.ok _) (H.same _ _ c (by simpa using J)) (fun k cs a=>?_) (fun _ _ a=>a) h;cases k with
 |loc m=>rw[H.loc m]at a;cases a
 |obj m=>simpa[ae]using a
end
def hP(d:Array α)(i j:Nat):(Sort.swp d i j).size=d.size:=by simp[Sort.swp]
end
section
open Go Go.Pv
def S6:C:=(aa [bP 2 0] (.seq (.cond (.c (.bool false)) (aa [I 3 0,cd 4 (.conv .u32 (.t 3)),c0 5 236 4,I 2 5] .ret) .skip) (aa [I 6 0,c0 7 237 6,I 2 7] .ret)))
def Lm:C:=(aa [bk 91 2 4,I 92 1,I 93 2,I 94 11,dT 95 244 [.t 91,.t 92,.t 93,.t 94],I 90 95,cV 96 0 90,cV 97 1 90,I 14 96,I 15 97] (aa [I 98 15,I 9 98] (aa [I 99 14,I 100 1,bu 101 .sub 99 100,I 102 2,I 103 14,bu 104 .sub 102 103,I 16 101,I 17 104] (aa [I 105 10,aV 106 .quo 105 8,I 18 106] (aa [I 107 16,I 108 17,bu 109 .lss 107 108] (aW 109 (aa [I 110 16,I 111 18,bu 112 .geq 110 111,I 8 112] (aa [bk 113 2 4,I 114 1,I 115 14,I 116 3,dT 117 214 [.t 113,.t 114,.t 115,.t 116]] (.region [I 118 14,aV 119 .add 118 1,I 1 119]))) (aa [I 120 17,I 121 18,bu 122 .geq 120 121,I 8 122] (aa [bk 123 2 4,I 124 14,aV 125 .add 124 1,I 126 2,I 127 3,dT 128 214 [.t 123,.t 125,.t 126,.t 127]] (.region [I 129 14,I 2 129])))))))))
def Dr:C:=(.seq (aa [I 73 1,aV 74 .gtr 73 0,I 75 74,ax 75 true (aF 76 0 1 4),ax 75 true (ay 77 1 76),cg 75 true 78 1,ax 75 true (aV 79 .sub 78 1),cg 75 true 80 11,ax 75 true (hJ 81 77 [.t 79,.t 80]),ax 75 true (cO 82 81),eg 83 75 82] (aW 83 (aa [bk 84 2 4,I 85 1,I 86 2,I 87 11,dT 88 243 [.t 84,.t 85,.t 86,.t 87],I 13 88] (aa [I 89 13,I 1 89] (.exit 1))) .skip)) Lm)
def Ln:C:=(.seq (aa [I 61 8,I 62 61,cg 62 true 63 9,eg 64 62 63,I 65 64,cg 65 true 66 12,ax 65 true (aV 67 .eql 66 1),eg 68 65 67] (aW 68 (aa [bk 69 2 4,I 70 1,I 71 2,dT 72 242 [.t 69,.t 70,.t 71]] (aW 72 .ret .skip)) .skip)) Dr)
def Lo:C:=(aa [bk 43 2 4,I 44 1,I 45 2,dT 46 240 [.t 43,.t 44,.t 45],I 42 46,cV 47 0 42,cV 48 1 42,I 11 47,I 12 48] (.seq (aa [I 49 12,aV 50 .eql 49 2] (aW 50 (aa [bk 51 2 4,I 52 1,I 53 2,dT 54 241 [.t 51,.t 52,.t 53]] (aa [I 55 2,aV 56 .sub 55 1,I 57 11,I 58 1,bu 59 .sub 57 58,bu 60 .sub 56 59,I 11 60] (.region [bP 12 1]))) .skip)) Ln))
def Tj:C:=(aa [cZ 4 0] (aa [bz 8 true] (aa [bz 9 true] (.block 0 (.loop (.block 1 (aa [I 19 2,I 20 1,bu 21 .sub 19 20,I 10 21] (.seq (aa [I 22 10,aV 23 .leq 22 12] (aW 23 (aa [bk 24 2 4,I 25 1,I 26 2,dT 27 231 [.t 24,.t 25,.t 26]] .ret) .skip)) (.seq (aa [I 28 3,aV 29 .eql 28 0] (aW 29 (aa [bk 30 2 4,I 31 1,I 32 2,dT 33 238 [.t 30,.t 31,.t 32]] .ret) .skip)) (.seq (aa [I 34 8,cO 35 34] (aW 35 (aa [bk 36 2 4,I 37 1,I 38 2,dT 39 239 [.t 36,.t 37,.t 38]] (.region [I 40 3,aV 41 .sub 40 1,I 3 41])) .skip)) Lo))))))))))
def S7:C:=(aa [bP 2 0] (.seq (aa [I 3 0,cd 4 (.bin .geq false (.t 3) (.c (.int .u64 4294967296)))] (aW 4 (aa [I 5 0,cd 6 (.bin .shr false (.t 5) (.c (.int .u64 32))),I 0 6] (.region [bP 2 32])) .skip)) (.seq (aa [I 7 0,cd 8 (.bin .geq false (.t 7) (.c (.int .u64 65536)))] (aW 8 (aa [I 9 0,cd 10 (.bin .shr false (.t 9) (.c (.int .u64 16))),I 0 10] (.region [I 11 2,aV 12 .add 11 16,I 2 12])) .skip)) (.seq (aa [I 13 0,cd 14 (.bin .geq false (.t 13) (.c (.int .u64 256)))] (aW 14 (aa [I 15 0,cd 16 (.bin .shr false (.t 15) (.c (.int .u64 8))),I 0 16] (.region [I 17 2,aV 18 .add 17 8,I 2 18])) .skip)) (aa [I 19 2,I 20 0,cd 21 (.conv .u8 (.t 20)),cd 22 (.sidx (.c (.str QF)) (.t 21)),cd 23 (.conv .i64 (.t 22)),bu 24 .add 19 23,I 2 24] .ret)))))
def Tb:C:=(aa [cZ 3 0] (aa [I 11 1,I 6 11] (aa [bP 7 0] (aa [I 12 2,I 13 1,bu 14 .sub 12 13,I 8 14] (.seq (aa [I 15 8,aV 16 .sub 15 1,aV 17 .quo 16 2,I 9 17] (.block 0 (.loop (.seq (aa [I 18 9,aV 19 .geq 18 0] (aW 19 .skip (.exit 0))) (.seq (.block 1 (.region [bk 22 2 3,I 23 9,I 24 8,I 25 6,dT 26 252 [.t 22,.t 23,.t 24,.t 25]])) (.region [I 20 9,aV 21 .sub 20 1,I 9 21])))))) (aa [I 27 8,aV 28 .sub 27 1,I 10 28] (.block 2 (.loop (.seq (aa [I 29 10,aV 30 .geq 29 0] (aW 30 .skip (.exit 2))) (.seq (.block 3 (aa [aF 33 1 1 3,ay 34 1 33,I 35 6,I 36 6,I 37 10,bu 38 .add 36 37,hJ 39 34 [.t 35,.t 38]] (.region [bk 40 2 3,I 41 7,I 42 10,I 43 6,dT 44 252 [.t 40,.t 41,.t 42,.t 43]]))) (.region [I 31 10,aV 32 .sub 31 1,I 10 32])))))))))))
def S9:C:=(aa [cZ 3 0] (aa [I 11 2,I 12 1,bu 13 .sub 11 12,I 6 13] (aa [I 14 6,aV 15 .geq 14 8] (aW 15 (aa [I 16 6,cd 17 (.conv .u64 (.t 16)),dt (.alloc 7 (some 902) (.int .u64 0)),bV 1 7 17] (aa [I 18 6,c0 19 253 18,I 8 19] (aa [I 20 1,I 21 6,aV 22 .quo 21 4,aV 23 .mul 22 2,bu 24 .add 20 23,aV 25 .sub 24 1,I 9 25] (.block 0 (.loop (.seq (aa [I 26 9,I 27 1,I 28 6,aV 29 .quo 28 4,aV 30 .mul 29 2,bu 31 .add 27 30,aV 32 .add 31 1,bu 33 .leq 26 32] (aW 33 .skip (.exit 0))) (.seq (.block 1 (aa [c0 36 254 7,I 37 8,cd 38 (.bin .sub true (.t 37) (.c (.int .u64 1))),bu 39 .and 36 38,cd 40 (.conv .i64 (.t 39)),I 10 40] (.seq (aa [I 41 10,I 42 6,bu 43 .geq 41 42] (aW 43 (.region [I 44 10,I 45 6,bu 46 .sub 44 45,I 10 46]) .skip)) (.region [aF 47 1 1 3,ay 48 1 47,I 49 9,I 50 1,I 51 10,bu 52 .add 50 51,hJ 53 48 [.t 49,.t 52]])))) (.region [I 34 9,aV 35 .add 34 1,I 9 35])))))))) .skip))))
def Ta:C:=(aa [cZ 3 0,bP 6 0,bP 7 0] (aa [I 13 2,I 14 1,bu 15 .sub 13 14,I 8 15] (aa [dt (.alloc 9 (some 901) (.int .i64 0))] (aa [I 16 1,I 17 8,aV 18 .quo 17 4,aV 19 .mul 18 1,bu 20 .add 16 19,I 10 20] (aa [I 21 1,I 22 8,aV 23 .quo 22 4,aV 24 .mul 23 2,bu 25 .add 21 24,I 11 25] (aa [I 26 1,I 27 8,aV 28 .quo 27 4,aV 29 .mul 28 3,bu 30 .add 26 29,I 12 30] (.seq (aa [I 31 8,aV 32 .geq 31 8] (aW 32 (.seq (aa [I 33 8,aV 34 .geq 33 50] (aW 34 (aa [bk 35 2 3,I 36 10,dT 37 255 [.t 35,.t 36,.t 9],I 10 37] (aa [bk 38 2 3,I 39 11,dT 40 255 [.t 38,.t 39,.t 9],I 11 40] (.region [bk 41 2 3,I 42 12,dT 43 255 [.t 41,.t 42,.t 9],I 12 43]))) .skip)) (.region [bk 44 2 3,I 45 10,I 46 11,I 47 12,dT 48 256 [.t 44,.t 45,.t 46,.t 47,.t 9],I 11 48])) .skip)) (aa [ay 49 1 9] (.block 0 (aa [aV 52 .eql 49 0,I 51 52] (aW 51 (aa [I 53 11,I 6 53,bP 7 1] .ret) (aa [aV 55 .eql 49 12,I 54 55] (aW 54 (aa [I 56 11,I 6 56,bP 7 2] .ret) (aa [I 50 11,I 6 50,bP 7 0] .ret))))))))))))))
def Tk:C:=(aa [cZ 3 0] (aa [I 8 1,I 6 8] (aa [I 9 2,aV 10 .sub 9 1,I 7 10] (.block 0 (.loop (.seq (aa [I 11 6,I 12 7,bu 13 .lss 11 12] (aW 13 .skip (.exit 0))) (.block 1 (aa [aF 14 1 1 3,ay 15 1 14,I 16 6,I 17 7,hJ 18 15 [.t 16,.t 17]] (aa [I 19 6,aV 20 .add 19 1,I 6 20] (.region [I 21 7,aV 22 .sub 21 1,I 7 22]))))))))))
def Tg:C:=(aa [cZ 3 0,bz 6 false] (aa [I 11 1,aV 12 .add 11 1,I 7 12] (.seq (aa [bP 8 0] (.block 0 (.loop (.seq (aa [I 13 8,aV 14 .lss 13 5] (aW 14 .skip (.exit 0))) (.seq (.block 1 (.seq (.block 2 (.loop (.seq (aa [I 17 7,I 18 2,bu 19 .lss 17 18,I 20 19,ax 20 true (aF 21 0 1 3),ax 20 true (ay 22 1 21),cg 20 true 23 7,cg 20 true 24 7,ax 20 true (aV 25 .sub 24 1),ax 20 true (hJ 26 22 [.t 23,.t 25]),ax 20 true (cO 27 26),eg 28 20 27] (aW 28 .skip (.exit 2))) (.block 3 (.region [I 29 7,aV 30 .add 29 1,I 7 30]))))) (.seq (aa [I 31 7,I 32 2,bu 33 .eql 31 32] (aW 33 (aa [bz 6 true] .ret) .skip)) (.seq (aa [I 34 2,I 35 1,bu 36 .sub 34 35,aV 37 .lss 36 50] (aW 37 (aa [bz 6 false] .ret) .skip)) (aa [aF 38 1 1 3,ay 39 1 38,I 40 7,I 41 7,aV 42 .sub 41 1,hJ 43 39 [.t 40,.t 42]] (.seq (aa [I 44 7,I 45 1,bu 46 .sub 44 45,aV 47 .geq 46 2] (aW 47 (aa [I 48 7,aV 49 .sub 48 1,I 9 49] (.block 4 (.loop (.seq (aa [I 50 9,aV 51 .geq 50 1] (aW 51 .skip (.exit 4))) (.seq (.block 5 (.seq (aa [aF 54 0 1 3,ay 55 1 54,I 56 9,I 57 9,aV 58 .sub 57 1,hJ 59 55 [.t 56,.t 58],cO 60 59] (aW 60 (.exit 4) .skip)) (.region [aF 61 1 1 3,ay 62 1 61,I 63 9,I 64 9,aV 65 .sub 64 1,hJ 66 62 [.t 63,.t 65]]))) (.region [I 52 9,aV 53 .sub 52 1,I 9 53])))))) .skip)) (aa [I 67 2,I 68 7,bu 69 .sub 67 68,aV 70 .geq 69 2] (aW 70 (aa [I 71 7,aV 72 .add 71 1,I 10 72] (.block 6 (.loop (.seq (aa [I 73 10,I 74 2,bu 75 .lss 73 74] (aW 75 .skip (.exit 6))) (.seq (.block 7 (.seq (aa [aF 78 0 1 3,ay 79 1 78,I 80 10,I 81 10,aV 82 .sub 81 1,hJ 83 79 [.t 80,.t 82],cO 84 83] (aW 84 (.exit 6) .skip)) (.region [aF 85 1 1 3,ay 86 1 85,I 87 10,I 88 10,aV 89 .sub 88 1,hJ 90 86 [.t 87,.t 89]]))) (.region [I 76 10,aV 77 .add 76 1,I 10 77])))))) .skip)))))))) (.region [I 15 8,aV 16 .add 15 1,I 8 16])))))) (aa [bz 6 false] .ret))))
def Th:C:=(aa [cZ 4 0,bP 8 0] (aa [aF 11 1 1 4,ay 12 1 11,I 13 1,I 14 3,hJ 15 12 [.t 13,.t 14]] (aa [I 16 1,aV 17 .add 16 1,I 18 2,aV 19 .sub 18 1,I 9 17,I 10 19] (.seq (.block 0 (.loop (.block 1 (.seq (.block 2 (.loop (.seq (aa [I 20 9,I 21 10,bu 22 .leq 20 21,I 23 22,ax 23 true (aF 24 0 1 4),ax 23 true (ay 25 1 24),cg 23 true 26 1,cg 23 true 27 9,ax 23 true (hJ 28 25 [.t 26,.t 27]),ax 23 true (cO 29 28),eg 30 23 29] (aW 30 .skip (.exit 2))) (.block 3 (.region [I 31 9,aV 32 .add 31 1,I 9 32]))))) (.seq (.block 4 (.loop (.seq (aa [I 33 9,I 34 10,bu 35 .leq 33 34,I 36 35,ax 36 true (aF 37 0 1 4),ax 36 true (ay 38 1 37),cg 36 true 39 1,cg 36 true 40 10,ax 36 true (hJ 41 38 [.t 39,.t 40]),eg 42 36 41] (aW 42 .skip (.exit 4))) (.block 5 (.region [I 43 10,aV 44 .sub 43 1,I 10 44]))))) (.seq (aa [I 45 9,I 46 10,bu 47 .gtr 45 46] (aW 47 (.exit 0) .skip)) (aa [aF 48 1 1 4,ay 49 1 48,I 50 9,I 51 10,hJ 52 49 [.t 50,.t 51]] (aa [I 53 9,aV 54 .add 53 1,I 9 54] (.region [I 55 10,aV 56 .sub 55 1,I 10 56]))))))))) (aa [I 57 9,I 8 57] .ret)))))
def Ti:C:=(aa [cZ 4 0,bP 8 0,bz 9 false] (aa [aF 12 1 1 4,ay 13 1 12,I 14 1,I 15 3,hJ 16 13 [.t 14,.t 15]] (aa [I 17 1,aV 18 .add 17 1,I 19 2,aV 20 .sub 19 1,I 10 18,I 11 20] (.seq (.block 0 (.loop (.seq (aa [I 21 10,I 22 11,bu 23 .leq 21 22,I 24 23,ax 24 true (aF 25 0 1 4),ax 24 true (ay 26 1 25),cg 24 true 27 10,cg 24 true 28 1,ax 24 true (hJ 29 26 [.t 27,.t 28]),eg 30 24 29] (aW 30 .skip (.exit 0))) (.block 1 (.region [I 31 10,aV 32 .add 31 1,I 10 32]))))) (.seq (.block 2 (.loop (.seq (aa [I 33 10,I 34 11,bu 35 .leq 33 34,I 36 35,ax 36 true (aF 37 0 1 4),ax 36 true (ay 38 1 37),cg 36 true 39 11,cg 36 true 40 1,ax 36 true (hJ 41 38 [.t 39,.t 40]),ax 36 true (cO 42 41),eg 43 36 42] (aW 43 .skip (.exit 2))) (.block 3 (.region [I 44 11,aV 45 .sub 44 1,I 11 45]))))) (.seq (aa [I 46 10,I 47 11,bu 48 .gtr 46 47] (aW 48 (aa [aF 49 1 1 4,ay 50 1 49,I 51 11,I 52 1,hJ 53 50 [.t 51,.t 52]] (aa [I 54 11,I 8 54,bz 9 true] .ret)) .skip)) (aa [aF 55 1 1 4,ay 56 1 55,I 57 10,I 58 11,hJ 59 56 [.t 57,.t 58]] (aa [I 60 10,aV 61 .add 60 1,I 10 61] (aa [I 62 11,aV 63 .sub 62 1,I 11 63] (.seq (.block 4 (.loop (.block 5 (.seq (.block 6 (.loop (.seq (aa [I 64 10,I 65 11,bu 66 .leq 64 65,I 67 66,ax 67 true (aF 68 0 1 4),ax 67 true (ay 69 1 68),cg 67 true 70 10,cg 67 true 71 1,ax 67 true (hJ 72 69 [.t 70,.t 71]),eg 73 67 72] (aW 73 .skip (.exit 6))) (.block 7 (.region [I 74 10,aV 75 .add 74 1,I 10 75]))))) (.seq (.block 8 (.loop (.seq (aa [I 76 10,I 77 11,bu 78 .leq 76 77,I 79 78,ax 79 true (aF 80 0 1 4),ax 79 true (ay 81 1 80),cg 79 true 82 11,cg 79 true 83 1,ax 79 true (hJ 84 81 [.t 82,.t 83]),ax 79 true (cO 85 84),eg 86 79 85] (aW 86 .skip (.exit 8))) (.block 9 (.region [I 87 11,aV 88 .sub 87 1,I 11 88]))))) (.seq (aa [I 89 10,I 90 11,bu 91 .gtr 89 90] (aW 91 (.exit 4) .skip)) (aa [aF 92 1 1 4,ay 93 1 92,I 94 10,I 95 11,hJ 96 93 [.t 94,.t 95]] (aa [I 97 10,aV 98 .add 97 1,I 10 98] (.region [I 99 11,aV 100 .sub 99 1,I 11 100]))))))))) (aa [aF 101 1 1 4,ay 102 1 101,I 103 11,I 104 1,hJ 105 102 [.t 103,.t 104]] (aa [I 106 11,I 8 106,bz 9 false] .ret))))))))))))
def Tn:C:=(aa [cZ 4 0] (aa [I 10 1,I 8 10] (.block 0 (.loop (.block 1 (aa [I 11 8,cd 12 (.bin .mul false (gX 2) (.t 11)),aV 13 .add 12 1,I 9 13] (.seq (aa [I 14 9,I 15 2,bu 16 .geq 14 15] (aW 16 (.exit 0) .skip)) (.seq (aa [I 17 9,aV 18 .add 17 1,I 19 2,bu 20 .lss 18 19,I 21 20,ax 21 true (aF 22 0 1 4),ax 21 true (ay 23 1 22),cg 21 true 24 3,cg 21 true 25 9,ax 21 true (bu 26 .add 24 25),cg 21 true 27 3,cg 21 true 28 9,ax 21 true (bu 29 .add 27 28),ax 21 true (aV 30 .add 29 1),ax 21 true (hJ 31 23 [.t 26,.t 30]),eg 32 21 31] (aW 32 (.region [I 33 9,aV 34 .add 33 1,I 9 34]) .skip)) (.seq (aa [aF 35 0 1 4,ay 36 1 35,I 37 3,I 38 8,bu 39 .add 37 38,I 40 3,I 41 9,bu 42 .add 40 41,hJ 43 36 [.t 39,.t 42],cO 44 43] (aW 44 .ret .skip)) (aa [aF 45 1 1 4,ay 46 1 45,I 47 3,I 48 8,bu 49 .add 47 48,I 50 3,I 51 9,bu 52 .add 50 51,hJ 53 46 [.t 49,.t 52]] (.region [I 54 9,I 8 54])))))))))))
def Te:C:=(aa [cd 2 (.mov (.c (.int .u64 0)))] (aa [I 4 0,cd 5 (.conv .u64 (.t 4)),c0 6 213 5,cd 7 (.conv .u64 (.t 6)),I 3 7] (aa [I 8 3,cd 9 (.bin .shl false (.c (.int .u64 1)) (.t 8)),I 2 9] .ret)))
def Tr:C:=(aa [cd 2 (.mov (.c (.int .u64 0)))] (.seq (.drawn true 33 [I 3 0,gv 4 3,ay 5 1 4,I 6 0,gv 7 6,ay 8 1 7,cd 9 (.bin .shl false (.t 8) (.c (.int .u64 13))),bu 10 .xor 5 9,gv 11 3,bV 1 11 10]) (.seq (.drawn true 33 [I 12 0,gv 13 12,ay 14 1 13,I 15 0,gv 16 15,ay 17 1 16,cd 18 (.bin .shr false (.t 17) (.c (.int .u64 7))),bu 19 .xor 14 18,gv 20 12,bV 1 20 19]) (.seq (.drawn true 33 [I 21 0,gv 22 21,ay 23 1 22,I 24 0,gv 25 24,ay 26 1 25,cd 27 (.bin .shl false (.t 26) (.c (.int .u64 17))),bu 28 .xor 23 27,gv 29 21,bV 1 29 28]) (aa [I 30 0,gv 31 30,ay 32 1 31,I 2 32] .ret)))))
def Tc:C:=(aa [cZ 3 0,bP 6 0] (aa [bk 7 2 3,I 8 1,aV 9 .sub 8 1,I 10 1,I 11 1,aV 12 .add 11 1,I 13 2,dT 14 256 [.t 7,.t 9,.t 10,.t 12,.t 13],I 6 14] .ret))
def Td:C:=(aa [cZ 5 0,bP 10 0] (aa [bk 12 2 5,I 13 1,I 14 2,I 15 4,dT 16 271 [.t 12,.t 13,.t 14,.t 15],I 11 16,cV 17 0 11,cV 18 1 11,I 1 17,I 2 18] (aa [bk 20 2 5,I 21 2,I 22 3,I 23 4,dT 24 271 [.t 20,.t 21,.t 22,.t 23],I 19 24,cV 25 0 19,cV 26 1 19,I 2 25,I 3 26] (aa [bk 28 2 5,I 29 1,I 30 2,I 31 4,dT 32 271 [.t 28,.t 29,.t 30,.t 31],I 27 32,cV 33 0 27,cV 34 1 27,I 1 33,I 2 34] (aa [I 35 2,I 10 35] .ret)))))
def Tf:C:=(aa [cZ 4 0,bP 8 0,bP 9 0] (.seq (aa [aF 10 0 1 4,ay 11 1 10,I 12 2,I 13 1,hJ 14 11 [.t 12,.t 13]] (aW 14 (aa [I 15 3,gv 16 15,ay 17 1 16,aV 18 .add 17 1,gv 19 15,bV 1 19 18] (aa [I 20 2,I 21 1,I 8 20,I 9 21] .ret)) .skip)) (aa [I 22 1,I 23 2,I 8 22,I 9 23] .ret)))
def aon:b4 aT S6 [.tmp 2] 1 Tryz.f213=true:=bi
def aoA:b4 aT Tj [] 4 Tryz.f214=true:=bi
def aoo:b4 aT S7 [.tmp 2] 1 Tryz.f237=true:=bi
def aos:b4 aT Tb [] 3 Tryz.f238=true:=bi
def aoq:b4 aT S9 [] 3 Tryz.f239=true:=bi
def aor:b4 aT Ta [.tmp 6,.tmp 7] 3 Tryz.f240=true:=bi
def aoB:b4 aT Tk [] 3 Tryz.f241=true:=bi
def aox:b4 aT Tg [.tmp 6] 3 Tryz.f242=true:=bi
def aoy:b4 aT Th [.tmp 8] 4 Tryz.f243=true:=bi
def aoz:b4 aT Ti [.tmp 8,.tmp 9] 4 Tryz.f244=true:=bi
def aoD:b4 aT Tn [] 4 Tryz.f252=true:=bi
def aov:b4 aT Te [.tmp 2] 1 Tryz.f253=true:=bi
def aoH:b4 aT Tr [.tmp 2] 1 Tryz.f254=true:=bi
def aot:b4 aT Tc [.tmp 6] 3 Tryz.f255=true:=bi
def aou:b4 aT Td [.tmp 10] 5 Tryz.f256=true:=bi
def aow:b4 aT Tf [.tmp 8,.tmp 9] 4 Tryz.f271=true:=bi
end
section
open Go Go.Pv
variable {α:Type} [Inhabited α] {S:List α->cR} {n g cq:Nat} {lc ch:List af} {lt:α->α->Bool}
def VO(H:fR S n g cq lc ch lt)(d:Array α)(p:d.size=n)(lo hi first:Nat)(J:first+hi<=n)(U:2<=n)(w:lo<=n):
  bG au 252 [fC g cq lc ch,aj lo,aj hi,aj first] (S d.toList) fun r y=>r= .tuple []/\∃k,y=S k.toList/\k=Sort.siftDown lt hi first lo d/\k.size=n:=by
 have t:=H.ok d.toList;have e:d.toList.length=n:=by simpa using p
 have q:∀l m,ae (.loc m) (S l).b=none:=fun l=>(H.ok l).obj.1;have hu:∀l m cs,cJ (.loc m) cs (S l).b=(S l).b++[(.loc m,cs)]:=fun l m cs=>kO (q l m);have ar:∀m,aB.loc m∉cK (S d.toList):=kJ t.obj;have hle:=H.le;refine bG.mk mixed a6 Tryz.func252 aoD Ψ t.obj fun B A=>?_;unfold Tn;simp[fC,hu,ar,c6,q];refine H.loopA e [2,3,4] (fun(x:Nat×Array α)=>[(8,aj x.1)]) (·.2) (fun x=>hi-x.1) (fun x=>x.2.size=n/\x.1<=n/\Sort.siftDown lt hi first x.1 x.2=Sort.siftDown lt hi first lo d) (lo,d) p ⟨p,w,rfl⟩ (by simp[c6,q]) aX aX dl ?_;rintro⟨root,c⟩ ⟨a,v,b⟩;simp only at a v b;have j:((first:Int)+(2*root+1))=(first+(2*root+1):Nat):=Ω
 have z:(((first+(2*root+1):Nat):Int)+1)=(first+(2*root+1)+1:Nat):=Ω
 have i:((first:Int)+root)=(first+root:Nat):=Ω
 have s:((first:Int)+(2*root+1+1))=(first+(2*root+2):Nat):=Ω
 simp[ae,H.slc,H.ssc];(with_reducible repeat' first|((first|apply ct|apply cz|apply cy)<;>intro h<;>try simp at h)|refine al ?_|simp[ae,H.slc,H.ssc])
 ·rw[Sort.siftDown,dif_pos Ω]at b;exact H.retA e a (.inr rfl) ⟨rfl,c,rfl,b,a⟩
 ·rw[Sort.siftDown,dif_neg Ω]at b;rw[j,z];refine H.lessA a _ _ Ω Ω fun o=>?_;have aw:decide (2*root+1+1<hi)=true:=by simp;omega
  cases u:lt c[first+(2*root+1)]! c[first+(2*root+1)+1]! with
  |true=>
   rw[if_pos (by rw[aw,u];rfl)]at b;simp;(repeat' first|refine al ?_|simp[ae,H.slc,H.ssc]);rw[i,s];refine H.lessA a _ _ Ω Ω fun o=>?_;cases f:lt c[first+root]! c[first+(2*root+2)]! with
   |true=>rw[if_neg (by simp[f]),dif_pos Ω]at b;simp;(repeat' first|refine al ?_|simp[ae,H.slc,H.ssc]);rw[i,s];refine H.swapA a U _ _ Ω Ω fun o=>?_;simp;(repeat' first|refine al ?_|simp);refine bY.whl (2*root+2,Sort.swp c (first+root) (first+(2*root+2))) d6 ⟨by rw[hP,a],by simp;omega,b⟩ (H.weakC e (by simp[hP,a]) (by simp[az];omega))
   |false=>rw[if_pos (by simp[f])]at b;simp;(repeat' first|refine al ?_|simp);all_goals exact H.retA e a (.inl rfl) ⟨rfl,c,rfl,b,a⟩
  |false=>
   rw[if_neg (by simp[u])]at b;simp;(repeat' first|refine al ?_|simp[ae,H.slc,H.ssc]);rw[i,j];refine H.lessA a _ _ Ω Ω fun o=>?_;cases f:lt c[first+root]! c[first+(2*root+1)]! with
   |true=>rw[if_neg (by simp[f])]at b;simp;(repeat' first|refine al ?_|simp[ae,H.slc,H.ssc]);rw[i,j];refine H.swapA a U _ _ Ω Ω fun o=>?_;simp;(repeat' first|refine al ?_|simp);refine bY.whl (2*root+1,Sort.swp c (first+root) (first+(2*root+1))) d6 ⟨by rw[hP,a],by simp;omega,b⟩ (H.weakC e (by simp[hP,a]) dl)
   |false=>rw[if_pos (by simp[f])]at b;simp;(repeat' first|refine al ?_|simp);all_goals exact H.retA e a (.inl rfl) ⟨rfl,c,rfl,b,a⟩
 ·rw[Sort.siftDown,dif_neg Ω]at b;have aw:decide (2*root+1+1<hi)=false:=by simp;omega
  rw[if_neg (by rw[aw];simp)]at b;rw[i,j];refine H.lessA a _ _ Ω Ω fun o=>?_;cases f:lt c[first+root]! c[first+(2*root+1)]! with
  |true=>rw[if_neg (by simp[f])]at b;simp;(repeat' first|refine al ?_|simp[ae,H.slc,H.ssc]);rw[i,j];refine H.swapA a U _ _ Ω Ω fun o=>?_;simp;(repeat' first|refine al ?_|simp);refine bY.whl (2*root+1,Sort.swp c (first+root) (first+(2*root+1))) d6 ⟨by rw[hP,a],by simp;omega,b⟩ (H.weakC e (by simp[hP,a]) dl)
  |false=>rw[if_pos (by simp[f])]at b;simp;(repeat' first|refine al ?_|simp);all_goals exact H.retA e a (.inl rfl) ⟨rfl,c,rfl,b,a⟩
def ajf(H:fR S n g cq lc ch lt)(d:Array α)(q:d.size=n)(a b:Nat)(A:a<b)(E:b<=n)(U:2<=n):
  bG au 241 [fC g cq lc ch,aj a,aj b] (S d.toList) fun r y=>r= .tuple []/\∃k,y=S k.toList/\k=Sort.reverseRange d a b/\k.size=n:=by
 have t:=H.ok d.toList;have p:d.toList.length=n:=by simpa using q
 have f:∀l m,ae (.loc m) (S l).b=none:=fun l=>(H.ok l).obj.1;have hu:∀l m cs,cJ (.loc m) cs (S l).b=(S l).b++[(.loc m,cs)]:=fun l m cs=>kO (f l m);have ar:∀m,aB.loc m∉cK (S d.toList):=kJ t.obj;have hle:=H.le;refine bG.mk mixed a6 Tryz.func241 aoB Ψ t.obj fun F B=>?_;unfold Tk;simp[fC,hu,ar,c6,f];have u:((b:Int)-1)=(b-1:Nat):=Ω
 (repeat' first|refine al ?_|simp[hu,ar,c6,f]);rw[u];refine H.loopA p [3] (fun(x:(Nat×Nat)×Array α)=>[(6,aj x.1.1),(7,aj x.1.2)]) (·.2) (fun x=>x.1.2+1-x.1.1) (fun x=>x.2.size=n/\x.1.2<n/\Sort.reverseLoop x.1.1 x.1.2 x.2=Sort.reverseRange d a b) ((a,b-1),d) q ⟨q,by simp;omega,rfl⟩ (by simp[c6,f]) aX aX dl ?_;rintro⟨⟨i,j⟩,s⟩ ⟨e,v,c⟩;simp only at e v c;rw[Sort.reverseLoop]at c;simp[ae,H.slc,H.ssc];(with_reducible repeat' first|((first|apply ct|apply cz|apply cy)<;>intro h<;>try simp at h)|refine al ?_|simp[ae,H.slc,H.ssc])
 ·rw[if_pos Ω]at c;refine H.swapA e U _ _ Ω Ω fun o=>?_;have w:((i:Int)+1)=(i+1:Nat):=Ω
  have z:((j:Int)-1)=(j-1:Nat):=Ω
  simp;((repeat' first|refine al ?_|simp|((first|apply ct|apply cz|apply cy)<;>intro h<;>try simp at h))<;>(try exact c3));rw[w,z];refine bY.whl ((i+1,j-1),Sort.swp s i j) d6 ⟨by rw[hP,e],by simp;omega,c⟩ (H.weakC p (by simp[hP,e]) dl)
 ·rw[if_neg Ω]at c;exact H.retA p e (.inr rfl) ⟨rfl,s,rfl,c,e⟩
def aiL(H:fR S n g cq lc ch lt)(d:Array α)(J:d.size=n)(a b:Nat)(O:a<=b)(X:b<=n)(U:2<=n):
  bG au 238 [fC g cq lc ch,aj a,aj b] (S d.toList) fun r E=>r= .tuple []/\∃c,E=S c.toList/\c=Sort.heapSort lt d a b/\c.size=n:=by
 have M:=H.ok d.toList;have y:d.toList.length=n:=by simpa using J
 have z:∀l m,ae (.loc m) (S l).b=none:=fun l=>(H.ok l).obj.1;have hu:∀l m cs,cJ (.loc m) cs (S l).b=(S l).b++[(.loc m,cs)]:=fun l m cs=>kO (z l m);have ar:∀m,aB.loc m∉cK (S d.toList):=kJ M.obj;have hle:=H.le;refine bG.mk mixed a6 Tryz.func238 aos Ψ M.obj fun Y W=>?_;unfold Tb;simp[fC,hu,ar,c6,z];(repeat' first|refine al ?_|simp[hu,ar,c6,z]);have P:vn.wrap (((b:Int)-a-1).tdiv 2)=(((b-a-1)/2+1:Nat):Int)-1:=by
  have e:((b:Int)-a-1).tdiv 2=(((b-a-1)/2+1:Nat):Int)-1:=by
   rcases Nat.eq_or_lt_of_le O with h|h
   ·subst h;simp
   ·rw[show((b:Int)-a-1)=((b-a-1:Nat):Int) by omega,Int.tdiv_eq_ediv_of_nonneg Ω];omega
  rw[e,pt _ Ω]
 rw[P];refine H.loopA y [3,6,7,8] (fun(x:Nat×Array α)=>[(9,aj ((x.1:Int)-1))]) (·.2) (fun x=>x.1) (fun x=>x.2.size=n/\x.1<=n/\Sort.heapBuild lt (b-a) a x.1 x.2=Sort.heapBuild lt (b-a) a ((b-a-1)/2+1) d) ((b-a-1)/2+1,d) J ⟨J,by simp;omega,rfl⟩ (by simp[c6,z]) aX aX dl ?_;rintro⟨k,i⟩ ⟨s,Q,w⟩;simp only at s Q w;have F:((b:Int)-a)=(b-a:Nat):=Ω
 simp[ae,H.slc,H.ssc];(with_reducible repeat' first|((first|apply ct|apply cz|apply cy)<;>intro h<;>try simp at h)|refine al ?_|simp[ae,H.slc,H.ssc])
 ·obtain⟨k,rfl⟩:∃bs,k=bs+1:=⟨k-1,Ω⟩;have L:(((k+1:Nat):Int)-1)=(k:Nat):=Ω
  rw[Sort.heapBuild]at w;simp only[jl H,H.slc,H.ssc,jg,L,F];refine H.doFn (lk:=i.toList) (by simpa using s) (R:=fun j=> ∃c,j=c.toList/\c=Sort.siftDown lt (b-a) a k i/\c.size=n) ((VO H i s k (b-a) a Ω U Ω).mono fun r E ⟨p,c,f,B,A⟩=>⟨p,c.toList,f,c,rfl,B,A⟩) (by rintro j ⟨c,rfl,_,q⟩;simpa using q) (by simp[aH,az,H.kdata (lk:=i.toList) (by simpa using s)]) ?_;rintro j ⟨c,rfl,p,f⟩;simp;((repeat' first|refine al ?_|simp|((first|apply ct|apply cz|apply cy)<;>intro h<;>try simp at h))<;>(try exact c3));refine bY.whl (k,c) Ψ ⟨f,by simp;omega,by rw[<-w,p]⟩ (H.weakC y (by simpa using f) dl)
 ·obtain rfl:k=0:=Ω
  rw[Sort.heapBuild]at w;have V:i.size=n:=s;refine H.loopA y [3,6,7] (fun(x:Nat×Array α)=>[(10,aj ((x.1:Int)-1))]) (·.2) (fun x=>x.1) (fun x=>x.2.size=n/\x.1<=b-a/\Sort.heapPop lt a x.1 x.2=Sort.heapPop lt a (b-a) i) (b-a,i) s ⟨s,Ψ,rfl⟩ (by simp[ae]) aX aX (by simp[az];omega) ?_;rintro⟨k,t⟩ ⟨u,N,v⟩;simp only at u N v;simp[ae,H.slc,H.ssc];(with_reducible repeat' first|((first|apply ct|apply cz|apply cy)<;>intro h<;>try simp at h)|refine al ?_|simp[ae,H.slc,H.ssc])
  ·obtain⟨k,rfl⟩:∃bs,k=bs+1:=⟨k-1,Ω⟩;have L:(((k+1:Nat):Int)-1)=(k:Nat):=Ω
   have G:((a:Int)+k)=(a+k:Nat):=Ω
   rw[Sort.heapPop]at v;simp only[L,G];refine H.swapA u U _ _ Ω Ω fun o=>?_;have K:(Sort.swp t a (a+k)).size=n:=by rw[hP,u]
   simp;simp only[jl H,H.slc,H.ssc,jg];refine H.doFn (lk:=(Sort.swp t a (a+k)).toList) (by simpa using K) (R:=fun j=> ∃c,j=c.toList/\c=Sort.siftDown lt k a 0 (Sort.swp t a (a+k))/\c.size=n) ((VO H (Sort.swp t a (a+k)) K 0 k a Ω U Ω).mono fun r E ⟨p,c,f,B,A⟩=>⟨p,c.toList,f,c,rfl,B,A⟩) (by rintro j ⟨c,rfl,_,q⟩;simpa using q) (by simp[aH,az,H.kdata (lk:=(Sort.swp t a (a+k)).toList) (by simpa using K)]) ?_;rintro j ⟨c,rfl,p,f⟩;simp;((repeat' first|refine al ?_|simp|((first|apply ct|apply cz|apply cy)<;>intro h<;>try simp at h))<;>(try exact c3));refine bY.whl (k,c) Ψ ⟨f,by simp;omega,by rw[<-v,p]⟩ (H.weakC y (by simpa using f) dl)
  ·obtain rfl:k=0:=Ω
   rw[Sort.heapPop]at v;refine H.retA y u (.inr rfl) ⟨rfl,t,rfl,?_,u⟩;rw[Sort.heapSort,<-w,<-v]
def aiV(H:fR S n g cq lc ch lt)(d:Array α)(y:d.size=n)(a b:Nat)(L:a<=b)(N:b<=n):
  bG au 231 [fC g cq lc ch,aj a,aj b] (S d.toList) fun r K=>r= .tuple []/\∃u,K=S u.toList/\u=Sort.insertionSort lt d a b/\u.size=n:=by
 have z:=H.ok d.toList;have p:d.toList.length=n:=by simpa using y
 have s:∀l m,ae (.loc m) (S l).b=none:=fun l=>(H.ok l).obj.1;have hu:∀l m cs,cJ (.loc m) cs (S l).b=(S l).b++[(.loc m,cs)]:=fun l m cs=>kO (s l m);have ar:∀m,aB.loc m∉cK (S d.toList):=kJ z.obj;have hle:=H.le;refine bG.mk mixed a6 Tryz.func231 ZB Ψ z.obj fun O M=>?_;unfold Ll;simp[fC,hu,ar,c6,s];have G:((a:Int)+1)=(a+1:Nat):=Ω
 (repeat' first|refine al ?_|simp[hu,ar,c6,s]);rw[G];refine H.loopA p [1,2,3] (fun(x:Nat×Array α)=>[(6,aj x.1)]) (·.2) (fun x=>b+1-x.1) (fun x=>x.2.size=n/\x.1<=b+1/\Sort.insOuter lt a b x.1 x.2=Sort.insertionSort lt d a b) (a+1,d) y ⟨y,by simp;omega,rfl⟩ (by simp[c6,s]) aX aX dl ?_;rintro⟨i,v⟩ ⟨q,J,k⟩;simp only at q J k;rw[Sort.insOuter]at k;simp;(with_reducible repeat' first|((first|apply ct|apply cz|apply cy)<;>intro h<;>try simp at h)|refine al ?_|simp)
 ·rw[if_pos Ω]at k;refine H.loopA p [1,2,3,6] (fun(x:Nat×Array α)=>[(7,aj x.1)]) (·.2) (fun x=>x.1) (fun x=>x.2.size=n/\x.1<=i/\Sort.insInner lt a x.1 x.2=Sort.insInner lt a i v) (i,v) q ⟨q,Ψ,rfl⟩ (by simp[ae]) aX aX dl ?_;rintro⟨j,f⟩ ⟨c,E,e⟩;simp only at c E e;simp[ae,H.slc,H.ssc];(with_reducible repeat' first|((first|apply ct|apply cz|apply cy)<;>intro h<;>try simp at h)|refine al ?_|simp[ae,H.slc,H.ssc])
  ·obtain⟨j,rfl⟩:∃dh,j=dh+1:=⟨j-1,Ω⟩;have F:(((j+1:Nat):Int)-1)=(j:Nat):=Ω
   have t:((i:Int)+1)=(i+1:Nat):=Ω
   have w:((j:Int)+1)=(j+1:Nat):=Ω
   rw[Sort.insInner]at e;have aw:decide (j+1>a)=true:=by simp;omega
   rw[F];refine H.lessA c _ _ Ω Ω fun o=>?_;cases A:lt f[j+1]! f[j]! with
   |true=>rw[if_pos (by rw[aw,A];rfl)]at e;simp;(repeat' first|refine al ?_|simp[ae,H.slc,H.ssc]);rw[w];refine H.swapA c Ω _ _ Ω Ω fun o=>?_;simp;(repeat' first|refine al ?_|simp);refine bY.whl (j,Sort.swp f (j+1) j) Ψ ⟨by rw[hP,c],by simp;omega,e⟩ (H.weakC p (by simp[hP,c]) dl)
   |false=>rw[if_neg (by simp[A])]at e;simp;((repeat' first|refine al ?_|simp|((first|apply ct|apply cz|apply cy)<;>intro h<;>try simp at h))<;>(try exact c3));rw[t];refine bY.whl (i+1,f) d6 ⟨c,by simp;omega,by rw[<-k,<-e]⟩ (H.weakC p (by simpa using c) dl)
  ·have t:((i:Int)+1)=(i+1:Nat):=Ω
   have B:Sort.insInner lt a j f=f:=by
    cases j with
    |zero=>rfl
    |succ j=>rw[Sort.insInner,if_neg d6]
   rw[t];refine bY.whl (i+1,f) d6 ⟨c,by simp;omega,by rw[<-k,<-e,B]⟩ (H.weakC p (by simpa using c) dl)
 ·rw[if_neg Ω]at k;exact H.retA p q (.inr rfl) ⟨rfl,v,rfl,k,q⟩
end
end Go.Proofs.YtahlgcidhnjlbaaGreat
