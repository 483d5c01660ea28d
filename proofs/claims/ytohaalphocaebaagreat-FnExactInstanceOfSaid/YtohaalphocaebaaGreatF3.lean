/- Calls of less and swap over arrays. -/
import Derived.Test.YtohaalphocaebaaGreatProg
import Derived.Shelf.Sort.Plain
import Derived.Ground.NamesProg
import Derived.Sort.OwnSortedInts
import Derived.Lib.OwnBridge
import Derived.Sort.AssemblyPlain
import Derived.Sort.LotD5
import Derived.Test.YtohaalphocaebaaGreatF2
set_option linter.all false
set_option maxHeartbeats 4000000
set_option maxRecDepth 4000
open Bool renaming and_eq_true->cC,eq_iff_iff->oG,false_eq_true->hl,or_eq_true->lH
open Go renaming Program->cG
open Go.IntKind renaming bits->oH,signed->s9,u64->hA,wrap->ta
open Go.IntWalk renaming i64_in->pz
open Go.Op renaming bytesLess->hF
open Go.Proofs.Tryz renaming f7->kW,prog->ak
open Go.Value renaming cells->pB
open List renaming all_eq_true->ga,cons_append->bZ,drop->ng,drop_eq_getElem_cons->lI,getElem?_eq_getElem->cc,getElem?_eq_none->qO,getElem?_eq_some_iff->eP,getElem?_map->qP,getElem_of_mem->nY,length_append->pC,length_cons->pD,length_drop->tc,map_cons->gS,mem_append->kn,mem_cons->fA,mem_filter->nZ,mem_map->hB,mem_of_getElem?->dE,nil_append->b6,pairwise_cons->ni,pairwise_iff_getElem->qg,pairwise_map->td,take_of_length_le->hQ,take_succ->ma
open List.Nodup renaming length_le_of_subset->Pp
open List.Pairwise renaming filter->aav,imp_of_mem->arl,sublist->avP
open List.Perm renaming eq_of_pairwise->I3,swap->avQ
open List.cons renaming injEq->oJ
open Nat renaming le_refl->e7,le_trans->kB
open Ne renaming symm->ld
open Option renaming bind_eq_some_iff->nj,getD_none->nk,getD_some->jA,map_eq_some_iff->ha,map_some->nl
open Option.some renaming inj->eQ,injEq->dQ
open Prod.mk renaming injEq->jB
open _root_ renaming False->e1,Option->ba,UInt8->dM,beq_iff_eq->dV,congrArg->e2,decide_eq_false->hG,decide_eq_false_iff_not->fJ,decide_eq_true->gK,decide_eq_true_eq->fc
namespace Go.Pv
section
open Go
structure bQ where
 v:Int
 k:Int
 deriving DecidableEq,Inhabited
def bQ.e(b:bQ):ai:= .agg [.int .i64 b.v,.int .i64 b.k]
@[simp]theorem bQ.eta(b:bQ):bQ.mk b.v b.k=b:=rfl
@[simp]theorem PN(v k:Int):ai.agg [.int .i64 v,.int .i64 k]=(bQ.mk v k).e:=rfl
@[simp]theorem atJ(S:aI->Prop)(b:bQ):aD S b.e=True:=by simp[bQ.e,-PN]
@[simp]theorem avv(b:bQ):dt b.e=b.e:=by simp[bQ.e,-PN]
theorem VZ(S:aI->Prop):∀l:List bQ,aH S (l.map bQ.e)
 |[]=>by simp[aH]
 |x::xs=>by simp[aH,VZ S xs]
@[simp]theorem ats(S:aI->Prop)(l:List bQ):aH S (l.map bQ.e)=True:=eq_true (VZ S l)
@[simp]theorem OD:∀l:List bQ,c2 (l.map bQ.e)=l.map bQ.e
 |[]=>rfl
 |x::xs=>by simp[c2,OD xs]
@[simp]theorem au9(b:bQ):eF b.e=true:=rfl
@[simp]theorem arY(b:bQ):cells b.e=[.int .i64 b.v,.int .i64 b.k]:=rfl
@[simp]theorem atb(b:bQ):Pv.isAgg 2 b.e:=⟨_,rfl,rfl⟩
@[simp]theorem ast(off:Nat)(gf:Bool)(sz:Nat)(b:bQ):u3 off gf sz b.e=if gf then some (off+sz<=2,.agg (([.int .i64 b.v,.int .i64 b.k].drop off).take sz))else(([.int .i64 b.v,.int .i64 b.k]:List ai)[off]?).map fun p=>(True,p):=rfl
@[simp]theorem asl(off:Nat)(gf:Bool)(sz:Nat)(b:bQ):q5 off gf sz (.eptr b.e)=if gf then some (off+sz<=2,.eptr (.agg (([.int .i64 b.v,.int .i64 b.k].drop off).take sz)))else(([.int .i64 b.v,.int .i64 b.k]:List ai)[off]?).map fun p=>(eF p=true/\cells p=[p],.eptr p):=rfl
structure bj where
 v:Int
 s:List dM
 deriving DecidableEq,Inhabited
def bj.e(b:bj):ai:= .agg [.int .i64 b.v,.str b.s]
@[simp]theorem bj.eta(b:bj):bj.mk b.v b.s=b:=rfl
@[simp]theorem Js(v:Int)(s:List dM):ai.agg [.int .i64 v,.str s]=(bj.mk v s).e:=rfl
@[simp]theorem ajr(S:aI->Prop)(b:bj):aD S b.e=True:=by simp[bj.e,-Js]
@[simp]theorem avz(b:bj):dt b.e=b.e:=by simp[bj.e,-Js]
theorem Mi(S:aI->Prop):∀l:List bj,aH S (l.map bj.e)
 |[]=>by simp[aH]
 |x::xs=>by simp[aH,Mi S xs]
@[simp]theorem V1(S:aI->Prop)(l:List bj):aH S (l.map bj.e)=True:=eq_true (Mi S l)
@[simp]theorem OE:∀l:List bj,c2 (l.map bj.e)=l.map bj.e
 |[]=>rfl
 |x::xs=>by simp[c2,OE xs]
@[simp]theorem avb(b:bj):eF b.e=true:=rfl
@[simp]theorem ar0(b:bj):cells b.e=[.int .i64 b.v,.str b.s]:=rfl
@[simp]theorem atd(b:bj):Pv.isAgg 2 b.e:=⟨_,rfl,rfl⟩
@[simp]theorem asu(off:Nat)(gf:Bool)(sz:Nat)(b:bj):u3 off gf sz b.e=if gf then some (off+sz<=2,.agg (([.int .i64 b.v,.str b.s].drop off).take sz))else(([.int .i64 b.v,.str b.s]:List ai)[off]?).map fun p=>(True,p):=rfl
@[simp]theorem asm(off:Nat)(gf:Bool)(sz:Nat)(b:bj):q5 off gf sz (.eptr b.e)=if gf then some (off+sz<=2,.eptr (.agg (([.int .i64 b.v,.str b.s].drop off).take sz)))else(([.int .i64 b.v,.str b.s]:List ai)[off]?).map fun p=>(eF p=true/\cells p=[p],.eptr p):=rfl
def fq(x y:bj):Int:=if eE x.v y.v=0 then kT x.s y.s else eE x.v y.v
theorem l4:jK fq:=by
 refine⟨fun x y=>?_,fun x y z J U=>?_,fun x y=>?_⟩
 ·unfold fq;have:=ky.neg x.v y.v;have:=Ei.neg x.s y.s;by_cases e:eE x.v y.v=0
  ·rw[if_pos e,if_pos Ω];omega
  ·rw[if_neg e,if_neg Ω];omega
 ·unfold fq at J U⊢;by_cases al:eE x.v y.v=0
  ·rw[if_pos al]at J;rw[(ky.zero _ _).1 al];by_cases aE:eE y.v z.v=0
   ·rw[if_pos aE]at U⊢;exact Ei.tr _ _ _ J U
   ·rw[if_neg aE]at U⊢;exact U
  ·rw[if_neg al]at J;have bD:eE x.v y.v<0:=Ω
   by_cases aE:eE y.v z.v=0
   ·rw[<-(ky.zero _ _).1 aE,if_neg al];exact J
   ·rw[if_neg aE]at U;have:=ky.ltr bD U;rw[if_neg Ω];omega
 ·unfold fq;by_cases e:eE x.v y.v=0
  ·rw[if_pos e,Ei.zero];have:=(ky.zero _ _).1 e;cases x;cases y;simp_all
  ·rw[if_neg e];exact⟨fun h=>absurd h e,fun h=>by rw[h]at e;exact absurd (ky.refl _) e⟩
def ub(x y:bj):Bool:=decide (x.v<y.v)||(x.v==y.v&&hF x.s y.s)
theorem abw(a:List dM):hF a a=false:=by
 cases h:hF a a with
 |false=>rfl
 |true=>rw[JA a a h]at h;cases h
theorem WO(x y:bj):ub x y=hY fq x y:=by
 unfold ub hY fq;rw[oG];simp only[lH,fc,cC,dV];by_cases e:x.v=y.v
 ·have:eE x.v y.v=0:=(ky.zero _ _).2 e;rw[if_pos this];simp only[e,Int.lt_irrefl,false_or,true_and,kT];by_cases aE:x.s=y.s
  ·rw[if_pos aE,aE,abw];simp
  ·rw[if_neg aE];split<;>simp_all
 ·have bs:¬eE x.v y.v=0:=fun h=>e ((ky.zero _ _).1 h);rw[if_neg bs];simp only[e,false_and,or_false];unfold eE;(repeat' split)<;>omega
def iv{α:Type}(p:α->Prop)(r:α->α->Prop)(l:List α)(i:Nat):Prop:= ∀b,l[i]? =some b->p b/\∀c,0<i->l[i-1]? =some c->r c b
theorem PJ{α:Type}{p:α->Prop}{r:α->α->Prop}(aN:∀a b c,r a b->r b c->r a c){l:List α}:(∀i,i<l.length->iv p r l i)↔(∀b∈l,p b)/\l.Pairwise r:=by
 constructor
 ·intro h;refine⟨fun b ab=>?_,?_⟩
  ·obtain⟨i,hi,e⟩:=nY ab;exact(h i hi b (by rw[cc hi,e])).1
  ·rw[qg];have jV:∀i (h:i+1<l.length),r l[i] l[i+1]:=fun i hi=>(h (i+1) hi l[i+1] (by simp[cc hi])).2 l[i] Ω (by simp[cc (show i<l.length by omega)]);have:∀(d i:Nat) (h:i+d+1<l.length),r l[i] l[i+d+1]:=by
    intro d;induction d with
    |zero=>intro i h;exact jV i h
    |succ d bR=>intro i h;exact aN _ _ _ (bR i Ω) (jV (i+d+1) Ω)
   intro i j hi ae ml;have:=this (j-i-1) i Ω;simpa[show i+(j-i-1)+1=j from by omega]using this
 ·rintro⟨J,U⟩ i hi b ab;refine⟨J b (dE ab),fun c bs aw=>?_⟩;obtain⟨g1,al⟩:=eP.1 aw;obtain⟨g2,aE⟩:=eP.1 ab;have:=qg.1 U (i-1) i g1 g2 Ω;rw[al,aE]at this;exact this
def kv{α:Type}(c:α->α->Int)(x:α):List α->List α
 |[]=>[x]
 |y::l=>if c y x<0 then y::kv c x l else if c y x=0 then y::l else x::y::l
section
variable {α:Type} {c:α->α->Int}
theorem Hu(aw:jK c){x z:α}:∀{l:List α},z∈kv c x l↔z=x\/z∈l
 |[]=>by simp[kv]
 |y::l=>by
  simp only[kv];split
  ·simp only[fA,Hu aw (l:=l)];constructor
   ·rintro(h|h|h)
    ·exact .inr (.inl h)
    ·exact .inl h
    ·exact .inr (.inr h)
   ·rintro(h|h|h)
    ·exact .inr (.inl h)
    ·exact .inl h
    ·exact .inr (.inr h)
  ·split
   ·rename_i h;obtain rfl:=(aw.zero _ _).1 h;simp
   ·simp
theorem L0(aw:jK c){x:α}:∀{l:List α},hZ c l->hZ c (kv c x l)
 |[],_=>by simp[kv,hZ]
 |y::l,h=>by
  obtain⟨J,U⟩:=ni.1 h;simp only[kv];split
  ·rename_i au;refine ni.2 ⟨fun z bp=>?_,L0 aw U⟩;rcases(Hu aw).1 bp with rfl|bp
   ·exact au
   ·exact J z bp
  ·split
   ·exact h
   ·rename_i au a6;have h3:c x y<0:=by have:=aw.neg x y;omega
    refine ni.2 ⟨fun z bp=>?_,h⟩;rcases fA.1 bp with rfl|bp
    ·exact h3
    ·exact aw.ltr h3 (by have:=J z bp;omega)
theorem L2(x:α):∀l:List α,(kv c x l).length<=l.length+1
 |[]=>by simp[kv]
 |y::l=>by
  have:=L2 x l;simp only[kv];split
  ·simp;omega
  ·split<;>simp
theorem L1(aw:jK c)(x:α):∀(l:List α) (k:Nat),(∀i y,i<k->l[i]? =some y->c y x<0)->(∀y,l[k]? =some y->0<=c y x)->k<=l.length->kv c x l=if(match l[k]? with|some y=>decide (c y x=0)|none=>false)=true then l else l.take k++x::l.drop k
 |[],k,_,_,ad=>by simp at ad;subst ad;simp[kv]
 |y::l,0,_,U,_=>by
  have:=U y rfl;by_cases e:c y x=0
  ·simp[kv,e]
  ·have au:¬c y x<0:=Ω
   simp[kv,au,e]
 |y::l,k+1,J,U,ad=>by
  have bs:=J 0 y Ω rfl;simp only[kv,if_pos bs,List.take_succ_cons,List.drop_succ_cons,bZ,List.getElem?_cons_succ];rw[L1 aw x l k (fun i d hi aR=>J (i+1) d Ω (by simpa using aR)) (fun d aR=>U d (by simpa using aR)) (by simpa using ad)];cases l[k]? with
  |none=>rfl
  |some z=>simp only[];split<;>rfl
end
structure ju (l:List bQ):Prop where
 at':∀x∈l,(0<=x.v/\x.v<=100000)/\(x.k=2\/x.k=3)
 asc:l.Pairwise fun x y=>x.v<y.v
def lA(l:List bQ)(v:Int):ba Int:=(l.find? fun x=>x.v==v).map (·.k)
def lY(x:bQ):List bQ->List bQ
 |[]=>[x]
 |y::l=>if y.v<x.v then y::lY x l else x::y::l
theorem Hv{x z:bQ}:∀{l:List bQ},z∈lY x l↔z=x\/z∈l
 |[]=>by simp[lY]
 |y::l=>by
  simp only[lY];split
  ·simp only[fA,Hv (l:=l)];constructor
   ·rintro(h|h|h)
    ·exact .inr (.inl h)
    ·exact .inl h
    ·exact .inr (.inr h)
   ·rintro(h|h|h)
    ·exact .inr (.inl h)
    ·exact .inl h
    ·exact .inr (.inr h)
  ·simp
theorem L3(x:bQ):∀l:List bQ,(lY x l).Perm (x::l)
 |[]=>.refl _
 |y::l=>by
  simp only[lY];split
  ·exact((L3 x l).cons y).trans (avQ _ _ _)
  ·exact .refl _
theorem GX{x:bQ}:∀{l:List bQ},l.Pairwise (fun x y=>x.v<y.v)->(∀y∈l,y.v≠x.v)->(lY x l).Pairwise fun x y=>x.v<y.v
 |[],_,_=>by simp[lY]
 |y::l,h,ax=>by
  obtain⟨J,U⟩:=ni.1 h;have aO:=ax y Ψ;simp only[lY];split
  ·rename_i au;refine ni.2 ⟨fun z bp=>?_,GX U fun z bp=>ax z (by simp[bp])⟩;rcases Hv.1 bp with rfl|bp
   ·exact au
   ·exact J z bp
  ·refine ni.2 ⟨fun z bp=>?_,h⟩;rcases fA.1 bp with rfl|bp
   ·omega
   ·have:=J z bp;omega
theorem Vn(x:bQ):∀(l:List bQ) (k:Nat),(∀i y,i<k->l[i]? =some y->y.v<x.v)->(∀y,l[k]? =some y->¬y.v<x.v)->k<=l.length->lY x l=l.take k++x::l.drop k
 |[],k,_,_,ad=>by simp at ad;subst ad;rfl
 |y::l,0,_,U,_=>by have:=U y rfl;simp[lY,this]
 |y::l,k+1,J,U,ad=>by have bs:=J 0 y Ω rfl;simp only[lY,if_pos bs,List.take_succ_cons,List.drop_succ_cons,bZ];rw[Vn x l k (fun i d hi aR=>J (i+1) d Ω (by simpa using aR)) (fun d aR=>U d (by simpa using aR)) (by simpa using ad)]
theorem VJ{l aZ:List bQ}(bB:aZ.Perm l)(aR:l.Pairwise fun x y=>x.v<y.v)(ag:aZ.Pairwise fun x y=>decide (y.v<x.v)=false):aZ=l:=by
 refine I3 (le:=fun x y:bQ=>x.v<=y.v) (fun x y af aO J U=>?_) (ag.imp Ψ) (aR.imp Ω) bB;have iy:x∈l:=bB.mem_iff.1 af;have sv:y∈l:=aO;obtain⟨i,hi,rfl⟩:=nY iy;obtain⟨j,ae,rfl⟩:=nY sv;have:=qg.1 aR;rcases Nat.lt_trichotomy i j with h|h|h
 ·have:=this i j hi ae h;omega
 ·subst h;rfl
 ·have:=this j i ae hi h;omega
theorem yU{l:List bQ}{v:Int}:lA l v=none↔∀x∈l,x.v≠v:=by simp[lA]
theorem VQ{l:List bQ}{v k:Int}(h:lA l v=some k):(⟨v,k⟩:bQ)∈l:=by unfold lA at h;rw[ha]at h;obtain⟨x,J,rfl⟩:=h;have U:=List.find?_some J;simp at U;subst U;exact List.mem_of_find?_eq_some J
theorem Hc{l:List bQ}(bu:l.Pairwise fun x y=>x.v<y.v){x:bQ}(h:x∈l):lA l x.v=some x.k:=by
 induction l with
 |nil=>simp at h
 |cons y l bR=>
  obtain⟨J,U⟩:=ni.1 bu;rcases fA.1 h with rfl|h
  ·simp[lA]
  ·have:=J x h;have e:=bR U h;unfold lA at e⊢;rw[List.find?_cons_of_neg (by simp;omega)];exact e
def kC(l:List bQ)(t:T)(k:Int):ba (List bQ):=match t with
 | .var n=>match lA l n with
  |some bT=>if bT=k then some l else none
  |none=>some (lY ⟨n,k⟩ l)
 |t=>if t.kind=k then some l else none
theorem Jn{l aZ:List bQ}{t:T}{k:Int}(h:ju l)(aN:t.ok=true)(ad:k=2\/k=3)(he:kC l t k=some aZ):ju aZ:=by
 unfold kC at he;split at he
 ·rename_i n;split at he
  ·split at he
   ·cases he;exact h
   ·cases he
  ·rename_i ax;cases he;rw[yU]at ax;refine⟨fun x af=>?_,GX h.asc ax⟩;rcases Hv.1 af with rfl|af
   ·exact⟨by simpa[T.ok]using aN,ad⟩
   ·exact h.at' x af
 ·split at he
  ·cases he;exact h
  ·cases he
theorem tU{l:List bQ}(h:ju l):l.length<=100001:=by
 have J:(l.map (·.v)).Nodup:=by rw[List.nodup_iff_pairwise_ne,td];exact h.asc.imp fun h e=>Ω
 have:=Mf J fun v aB=>by obtain⟨x,af,rfl⟩:=hB.1 aB;exact(h.at' x af).1
 simpa using this
def gq(s:List aq):List bQ->List bQ->ba (List bQ)
 |[],acc=>some acc
 |x::r,acc=>match kC acc (bX s x.v) x.k with
  |some a=>gq s r a
  |none=>none
structure h6 (l:List bj):Prop where
 at':∀x∈l,(0<=x.v/\x.v<=100000)/\jX x.s=true
 asc:hZ fq l
def _root_.Go.Pv.T.has(s:List dM):T->Bool
 | .sym n=>n==s
 | .pair a b=>a.has s||b.has s
 |_=>false
def mf(l:List bj)(t:T)(s:List dM):ba (List bj):=if t.has s then none else some (asc fq (l++(nX t).map fun v=>⟨v,s⟩))
theorem E1{t:T}{v:Int}:v∈nX t↔t.occ v=true:=by
 refine⟨fun h=>?_,y4⟩;induction t with
 |var n=>simp[nX]at h;simp[T.occ,h]
 |pair a b ds dv=>simp only[nX,kn]at h;simp only[T.occ,lH];exact h.imp ds dv
 |_=>simp[nX]at h
theorem DX{l aZ:List bj}{t:T}{s:List dM}(h:mf l t s=some aZ)(x:bj):x∈aZ↔x∈l\/(x.s=s/\t.occ x.v=true):=by
 unfold mf at h;split at h
 ·cases h
 ·cases h;rw[Wy,kn,hB];refine or_congr_right ?_;constructor
  ·rintro⟨v,aB,rfl⟩;exact⟨rfl,E1.1 aB⟩
  ·rintro⟨J,U⟩;exact⟨x.v,E1.2 U,by rw[<-J]⟩
theorem Jo{l aZ:List bj}{t:T}{s:List dM}(cz:t.has s=false)(bu:hZ fq aZ)(hm:∀x,x∈aZ↔x∈l\/(x.s=s/\t.occ x.v=true)):mf l t s=some aZ:=by
 have h:mf l t s=some (asc fq (l++(nX t).map fun v=>⟨v,s⟩)):=by unfold mf;rw[cz];rfl
 rw[h];congr 1;exact(Jv l4 _).ext l4 bu fun x=>by rw[hm,<-DX h]
theorem Jp{l aZ:List bj}{t:T}{s:List dM}(h:h6 l)(aN:t.ok=true)(ag:jX s=true)(he:mf l t s=some aZ):h6 aZ:=by
 refine⟨fun x af=>?_,?_⟩
 ·rcases(DX he x).1 af with J|⟨J,U⟩
  ·exact h.at' x J
  ·exact⟨xL aN U,by rw[J];exact ag⟩
 ·unfold mf at he;split at he
  ·cases he
  ·cases he;exact Jv l4 _
def gr(s:List aq):List bj->List bj->ba (List bj)
 |[],acc=>some acc
 |x::r,acc=>match mf acc (bX s x.v) x.s with
  |some a=>gr s r a
  |none=>none
end
end Go.Pv
namespace Go.Proofs.YtohaalphocaebaaGreat
section
open Go Go.Pv
def JM:C:=(aa [a8 2 false] (.seq (aa [I 5 0,b2 6 5,bP 7 0] (eH 8 7 6 (.seq (.block 1 (aa [b9 9 4 5 7,a1 10 4 9,c9 4 dj,bM 4 4 10] (aa [a1 11 4 4,cE 12 117 11,cn 13 12] (aS 13 (aa [a8 2 false] .ret) .skip)))) (.region [aT 14 .add 7 1,I 7 14])))) (aa [a8 2 true] .ret)))
@[simp] def anj:List bN:=[.tmp 2]
def z6:C:=(aa [cO 1 0,c9 2 dj] (aa [aC 6 0 1 1,av 7 1 6,aC 8 1 1 1,av 9 1 8,aC 10 2 1 1,av 11 1 10,j5 12 dj [(0,1,(.t 7)),(1,1,(.t 9)),(2,1,(.t 11))],c9 3 dj,bM 4 3 12] (.seq (aa [aC 13 3 1 1,av 14 1 13,b2 15 14,bP 16 0] (eH 17 16 15 (.seq (.block 1 (aa [b9 18 4 14 16,a1 19 4 18,c9 5 dj,bM 4 5 19] (.drawn true 29 [aC 20 3 1 3,av 21 1 20,a1 22 4 5,cE 23 74 22,fj 24 4 32 [.t 23],iP 25 4 32 21 24,aC 26 3 1 3,bM 1 26 25]))) (.region [aT 27 .add 16 1,I 16 27])))) (aa [a1 28 4 3,bM 4 2 28] .ret))))
@[simp] def an7:List bN:=[.cell 2 true 4]
def Sb:C:=(aa [c9 2 dj] (aa [I 3 0,j5 4 dj [(0,1,(gI 1)),(1,1,(.t 3))],bM 4 2 4] .ret))
@[simp] def an8:List bN:=[.cell 2 true 4]
def QY:C:=(aa [cN (.box 2 (some 201) (.t 0)),cO 3 1,c9 4 dj,a8 5 false] (aa [a1 6 4 3,b5 7 (.mkf 182 [.t 2]),bY 8 181 6 7,cD 9 0 8,cD 10 1 8,bM 4 4 9,I 5 10] .ret))
@[simp] def X2:List bN:=[.cell 4 true 4,.tmp 5]
def Qy:C:=(aa [a8 2 false] (.seq (aa [I 5 0,b2 6 5,aT 7 .gtr 6 400] (aS 7 (aa [a8 2 false] .ret) .skip)) (.seq (aa [I 8 0,b2 9 8,bP 10 0] (eH 11 10 9 (.seq (.block 1 (aa [I 12 10,b9 13 5 8 10,a1 14 5 13,c9 4 iA,I 3 12,bM 5 4 14] (.seq (.drawn true 45 [aC 15 0 1 4,av 16 1 15,aT 17 .lss 16 0,I 18 17,ao 18 false (aC 19 0 1 4),ao 18 false (av 20 1 19),ao 18 false (aT 21 .gtr 20 100000),cZ 22 18 21,I 23 22,b4 23 false 24 3,ao 23 false (aT 25 .gtr 24 0),b4 23 false 26 25,b4 26 true 27 0,b4 26 true 28 3,ao 26 true (aT 29 .sub 28 1),ao 26 true (b9 30 5 27 29),ao 26 true (aC 31 0 1 30),ao 26 true (av 32 1 31),ao 26 true (aC 33 0 1 4),ao 26 true (av 34 1 33),ao 26 true (bh 35 .geq 32 34),ao 23 false (dx 36 26 35),cZ 37 23 36,I 38 37,ao 38 false (fi 39 1 4 4),ao 38 false (a1 40 4 39),ao 38 false (cE 41 117 40),ao 38 false (cn 42 41),cZ 43 38 42]) (aS 43 (aa [a8 2 false] .ret) .skip)))) (.region [aT 44 .add 10 1,I 10 44])))) (aa [a8 2 true] .ret))))
@[simp] def HV:List bN:=[.tmp 2]
def QL:C:=(aa [cO 2 0,cO 3 1,a8 4 false] (aa [a1 5 4 2,a1 6 4 3,bY 7 170 5 6,aT 8 .eql 7 0,I 4 8] .ret))
@[simp] def XS:List bN:=[.tmp 4]
def R8:C:=(aa [cO 2 0,cO 3 1,c9 4 dj] (aa [a1 5 4 2,a1 6 4 3,fj 7 4 32 [.t 5,.t 6],j5 8 dj [(0,1,(gI 4)),(3,1,(.t 7))],bM 4 4 8] .ret))
@[simp] def Yk:List bN:=[.cell 4 true 4]
def Qx:C:=(aa [cO 1 0,a8 2 false] (aa [a1 3 4 1,dL 4 194 [.t 3,(gI 5000)],aT 5 .gtr 4 0,I 2 5] .ret))
@[simp] def XJ:List bN:=[.tmp 2]
def Qo:C:=(aa [a8 2 false] (.seq (aa [I 4 0,b5 5 (.slen (.t 4)),aT 6 .lss 5 1,I 7 6,b4 7 false 8 0,ao 7 false (b5 9 (.slen (.t 8))),ao 7 false (aT 10 .gtr 9 12),cZ 11 7 10,I 12 11,b4 12 false 13 0,ao 12 false (b5 14 (.sidx (.t 13) (gI 0))),ao 12 false (b5 15 (.bin .lss false (.t 14) (.c (.int .u8 97)))),cZ 16 12 15,I 17 16,b4 17 false 18 0,ao 17 false (b5 19 (.sidx (.t 18) (gI 0))),ao 17 false (b5 20 (.bin .gtr false (.t 19) (.c (.int .u8 122)))),cZ 21 17 20] (aS 21 (aa [a8 2 false] .ret) .skip)) (.seq (aa [bP 3 1] (.block 0 (.loop (.seq (aa [I 22 3,I 23 0,b5 24 (.slen (.t 23)),bh 25 .lss 22 24] (aS 25 .skip (.exit 0))) (.seq (.block 1 (aa [I 28 0,I 29 3,b5 30 (.sidx (.t 28) (.t 29)),b5 31 (.bin .geq false (.t 30) (.c (.int .u8 97))),I 32 31,b4 32 true 33 0,b4 32 true 34 3,ao 32 true (b5 35 (.sidx (.t 33) (.t 34))),ao 32 true (b5 36 (.bin .leq false (.t 35) (.c (.int .u8 122)))),dx 37 32 36,I 38 37,b4 38 false 39 0,b4 38 false 40 3,ao 38 false (b5 41 (.sidx (.t 39) (.t 40))),ao 38 false (b5 42 (.bin .geq false (.t 41) (.c (.int .u8 48)))),b4 38 false 43 42,b4 43 true 44 0,b4 43 true 45 3,ao 43 true (b5 46 (.sidx (.t 44) (.t 45))),ao 43 true (b5 47 (.bin .leq false (.t 46) (.c (.int .u8 57)))),ao 38 false (dx 48 43 47),cZ 49 38 48,I 50 49,b4 50 false 51 0,b4 50 false 52 3,ao 50 false (b5 53 (.sidx (.t 51) (.t 52))),ao 50 false (b5 54 (.bin .eql false (.t 53) (.c (.int .u8 45)))),cZ 55 50 54,cn 56 55] (aS 56 (aa [a8 2 false] .ret) .skip))) (.region [I 26 3,aT 27 .add 26 1,I 3 27])))))) (aa [a8 2 true] .ret))))
@[simp] def HU:List bN:=[.tmp 2]
def tp:C:=(aa [cO 2 0] (.seq (aa [aC 4 0 1 2,av 5 1 4,aT 6 .eql 5 1] (aS 6 (.region [I 7 1,aC 8 1 1 2,av 9 1 8,gZ 10 7 [.t 9]]) .skip)) (aa [aC 11 0 1 2,av 12 1 11,aT 13 .eql 12 4] (aS 13 (aa [aC 14 3 1 2,av 15 1 14,iO 16 4 15 0,a1 17 4 16,I 18 1,bY 19 129 17 18] (.region [aC 20 3 1 2,av 21 1 20,iO 22 4 21 1,a1 23 4 22,I 24 1,bY 25 129 23 24])) .skip))))
@[simp] def ug:List bN:=[]
def QN:C:=(aa [cN (.box 2 (some 101) (.t 0)),cN (.box 3 (some 102) (.t 1)),bP 4 0] (aa [av 6 1 2,b2 7 6,b5 8 (.mkf 212 [.t 2,.t 3]),bY 9 211 7 8,I 5 9] (.seq (.seq (.drawn true 24 [I 10 5,av 11 1 2,b2 12 11,bh 13 .lss 10 12,I 14 13,ao 14 true (av 15 1 2),b4 14 true 16 5,ao 14 true (b9 17 5 15 16),ao 14 true (aC 18 0 1 17),ao 14 true (av 19 1 18),ao 14 true (av 20 1 3),ao 14 true (bh 21 .eql 19 20),dx 22 14 21]) (aS 22 (aa [I 23 5,I 4 23] .ret) .skip)) (aa [bP 4 (-1)] .ret))))
@[simp] def XU:List bN:=[.tmp 4]
def x3:C:=(aa [cO 2 0,c9 4 dj] (.seq (aa [aC 7 0 1 2,av 8 1 7] (.block 0 (aa [aT 10 .eql 8 1,I 9 10] (aS 9 (.seq (aa [I 12 1,aC 13 1 1 2,av 14 1 13,gZ 15 12 [.t 14],I 11 15,cD 16 0 11,cD 17 1 11,c9 5 dj,bM 4 5 16,I 6 17] (aa [I 18 6] (aS 18 (aa [a1 19 4 5,cE 20 200 19,bM 4 4 20] .ret) .skip))) (aa [a1 21 4 2,bM 4 4 21] .ret)) (aa [aT 23 .eql 8 4,I 22 23] (aS 22 (.seq (.drawn false 38 [aC 24 3 1 2,av 25 1 24,iO 26 4 25 0,a1 27 4 26,I 28 1,bY 29 153 27 28,aC 30 3 1 2,av 31 1 30,iO 32 4 31 1,a1 33 4 32,I 34 1,bY 35 153 33 34,bY 36 225 29 35,bM 4 4 36]) .ret) .skip)))))) (aa [a1 37 4 2,bM 4 4 37] .ret)))
@[simp] def zi:List bN:=[.cell 4 true 4]
def FD:C:=(aa [cO 2 0,cO 3 1,bP 4 0] (.seq (aa [aC 6 0 1 2,av 7 1 6,aC 8 0 1 3,av 9 1 8,bh 10 .neq 7 9] (aS 10 (aa [aC 11 0 1 2,av 12 1 11,aC 13 0 1 3,av 14 1 13,bY 15 232 12 14,I 4 15] .ret) .skip)) (.seq (aa [aC 16 1 1 2,av 17 1 16,aC 18 1 1 3,av 19 1 18,bh 20 .neq 17 19] (aS 20 (aa [aC 21 1 1 2,av 22 1 21,aC 23 1 1 3,av 24 1 23,bY 25 232 22 24,I 4 25] .ret) .skip)) (.seq (aa [aC 26 2 1 2,av 27 1 26,aC 28 2 1 3,av 29 1 28,bh 30 .neq 27 29] (aS 30 (.seq (aa [aC 31 2 1 2,av 32 1 31,aC 33 2 1 3,av 34 1 33,bh 35 .lss 32 34] (aS 35 (aa [bP 4 (-1)] .ret) .skip)) (aa [bP 4 1] .ret)) .skip)) (.seq (aa [aC 36 0 1 2,av 37 1 36,aT 38 .neq 37 4] (aS 38 (aa [bP 4 0] .ret) .skip)) (.seq (.seq (.drawn true 60 [aC 39 3 1 2,av 40 1 39,iO 41 4 40 0,a1 42 4 41,aC 43 3 1 3,av 44 1 43,iO 45 4 44 0,a1 46 4 45,bY 47 170 42 46,I 5 47]) (aa [I 48 5,aT 49 .neq 48 0] (aS 49 (aa [I 50 5,I 4 50] .ret) .skip))) (.seq (.drawn true 60 [aC 51 3 1 2,av 52 1 51,iO 53 4 52 1,a1 54 4 53,aC 55 3 1 3,av 56 1 55,iO 57 4 56 1,a1 58 4 57,bY 59 170 54 58,I 4 59]) .ret)))))))
@[simp] def H3:List bN:=[.tmp 4]
def Q0:C:=(aa [cO 2 0,cN (.box 3 (some 202) (.t 1)),c9 4 dj,a8 5 false] (aa [a1 7 4 2,b5 8 (.mkf 240 [.t 3]),bY 9 239 7 8,I 6 9] (.seq (aa [I 10 6,aT 11 .gtr 10 5000] (aS 11 (aa [j5 12 dj [],bM 4 4 12,a8 5 false] .ret) .skip)) (aa [a1 13 4 2,av 14 1 3,bY 15 153 13 14,bM 4 4 15,a8 5 true] .ret))))
@[simp] def NG:List bN:=[.cell 4 true 4,.tmp 5]
def QZ:C:=(aa [c9 3 dj,a8 4 false] (.seq (aa [av 6 1 1,I 7 0,bY 8 134 6 7,I 5 8] (aa [I 9 5,aT 10 .geq 9 0] (aS 10 (aa [av 11 1 1,I 12 5,b9 13 5 11 12,fi 14 1 4 13,a1 15 4 14,bM 4 3 15,a8 4 true] .ret) .skip))) (aa [j5 16 dj [],bM 4 3 16,a8 4 false] .ret)))
@[simp] def NF:List bN:=[.cell 3 true 4,.tmp 4]
def Q5:C:=(aa [ep 2 1] (aa [cN (.bslm 5 (some 306) 1 3 []),I 3 5] (.seq (aa [I 6 0,cN (.range 7 none (.t 6))] (.block 0 (.loop (aa [⟨none,.next 8 (.t 7)⟩,cD 9 0 8] (.seq (aS 9 .skip (.exit 0)) (.block 1 (aa [b5 10 (.ment (.t 7)),cD 11 0 10,I 4 11] (.region [I 12 3,I 13 4,fj 14 1 3 [.t 13],cN (.appm 15 none 1 3 (.t 12) (.t 14)),I 3 15])))))))) (aa [I 16 3,cE 17 242 16] (.seq (.pub 3 (.region [I 18 3,I 2 18])) .ret)))))
@[simp] def X6:List bN:=[.tmp 2]
def QT:C:=(aa [cO 2 0,bP 4 0] (.seq (aa [I 7 1,aT 8 .lss 7 1] (aS 8 (aa [bP 4 (-1)] .ret) .skip)) (.seq (aa [aC 9 0 1 2,av 10 1 9,aT 11 .neq 10 4] (aS 11 (.seq (aa [aC 12 3 1 2,av 13 1 12,b2 14 13,aT 15 .neq 14 0] (aS 15 (aa [bP 4 (-1)] .ret) .skip)) (.seq (aa [aC 16 0 1 2,av 17 1 16] (.block 0 (aa [aT 19 .eql 17 0,I 18 19] (aS 18 (aa [aC 20 1 1 2,av 21 1 20,aT 22 .neq 21 0,I 23 22,ao 23 false (aC 24 2 1 2),ao 23 false (av 25 1 24),xN 23 false 26 (.bin .neq false (.t 25) (.c (.str []))),cZ 27 23 26] (aS 27 (aa [bP 4 (-1)] .ret) .skip)) (aa [aT 29 .eql 17 1,I 28 29] (aS 28 (aa [aC 30 1 1 2,av 31 1 30,aT 32 .lss 31 0,I 33 32,ao 33 false (aC 34 1 1 2),ao 33 false (av 35 1 34),ao 33 false (aT 36 .gtr 35 100000),cZ 37 33 36,I 38 37,ao 38 false (aC 39 2 1 2),ao 38 false (av 40 1 39),xN 38 false 41 (.bin .neq false (.t 40) (.c (.str []))),cZ 42 38 41] (aS 42 (aa [bP 4 (-1)] .ret) .skip)) (aa [aT 44 .eql 17 2,I 43 44] (aS 43 (aa [aC 45 1 1 2,av 46 1 45,aT 47 .neq 46 0,I 48 47,ao 48 false (aC 49 2 1 2),ao 48 false (av 50 1 49),ao 48 false (cE 51 128 50),ao 48 false (cn 52 51),cZ 53 48 52] (aS 53 (aa [bP 4 (-1)] .ret) .skip)) (aa [aT 55 .eql 17 3,I 54 55] (aS 54 (aa [aC 56 1 1 2,av 57 1 56,aT 58 .lss 57 (-1000000000),I 59 58,ao 59 false (aC 60 1 1 2),ao 59 false (av 61 1 60),ao 59 false (aT 62 .gtr 61 1000000000),cZ 63 59 62,I 64 63,ao 64 false (aC 65 2 1 2),ao 64 false (av 66 1 65),xN 64 false 67 (.bin .neq false (.t 66) (.c (.str []))),cZ 68 64 67] (aS 68 (aa [bP 4 (-1)] .ret) .skip)) (aa [bP 4 (-1)] .ret))))))))))) (aa [bP 4 1] .ret))) .skip)) (.seq (aa [aC 69 1 1 2,av 70 1 69,aT 71 .neq 70 0,I 72 71,ao 72 false (aC 73 2 1 2),ao 72 false (av 74 1 73),xN 72 false 75 (.bin .neq false (.t 74) (.c (.str []))),cZ 76 72 75,I 77 76,ao 77 false (aC 78 3 1 2),ao 77 false (av 79 1 78),ao 77 false (b2 80 79),ao 77 false (aT 81 .neq 80 2),cZ 82 77 81] (aS 82 (aa [bP 4 (-1)] .ret) .skip)) (aa [aC 83 3 1 2,av 84 1 83,iO 85 4 84 0,a1 86 4 85,I 87 1,aT 88 .sub 87 1,bY 89 194 86 88,I 5 89] (.seq (aa [I 90 5,aT 91 .lss 90 0] (aS 91 (aa [bP 4 (-1)] .ret) .skip)) (aa [aC 92 3 1 2,av 93 1 92,iO 94 4 93 1,a1 95 4 94,I 96 1,aT 97 .sub 96 1,I 98 5,bh 99 .sub 97 98,bY 100 194 95 99,I 6 100] (.seq (aa [I 101 6,aT 102 .lss 101 0] (aS 102 (aa [bP 4 (-1)] .ret) .skip)) (aa [I 103 5,b5 104 (.bin .add false (gI 1) (.t 103)),I 105 6,bh 106 .add 104 105,I 4 106] .ret)))))))))
@[simp] def H2:List bN:=[.tmp 4]
def JI:C:=(aa [cO 1 0,c9 2 dj] (.seq (aa [aC 3 0 1 1,av 4 1 3,aT 5 .neq 4 4] (aS 5 (aa [aC 6 0 1 1,av 7 1 6,aC 8 1 1 1,av 9 1 8,aC 10 2 1 1,av 11 1 10,j5 12 dj [(0,1,(.t 7)),(1,1,(.t 9)),(2,1,(.t 11))],bM 4 2 12] .ret) .skip)) (.seq (.drawn true 25 [aC 13 3 1 1,av 14 1 13,iO 15 4 14 0,a1 16 4 15,cE 17 200 16,aC 18 3 1 1,av 19 1 18,iO 20 4 19 1,a1 21 4 20,cE 22 200 21,fj 23 4 32 [.t 17,.t 22],j5 24 dj [(0,1,(gI 4)),(3,1,(.t 23))],bM 4 2 24]) .ret)))
@[simp] def ang:List bN:=[.cell 2 true 4]
def Rx:C:=(aa [bP 4 0] (aa [I 8 0,bP 5 0,I 6 8] (.seq (.block 0 (.loop (.seq (aa [I 9 5,I 10 6,bh 11 .lss 9 10] (aS 11 .skip (.exit 0))) (.block 1 (aa [I 12 5,I 13 6,bh 14 .add 12 13,b5 15 (.conv .u64 (.t 14)),b5 16 (.bin .shr false (.t 15) (.c (.int .u64 1))),b5 17 (.conv .i64 (.t 16)),I 7 17] (aa [I 18 1,I 19 7,gZ 20 18 [.t 19],cn 21 20] (aS 21 (.region [I 22 7,aT 23 .add 22 1,I 5 23]) (.region [I 24 7,I 6 24])))))))) (aa [I 25 5,I 4 25] .ret))))
@[simp] def X9:List bN:=[.tmp 4]
def QO:C:=(aa [a8 4 false] (.seq (.drawn true 12 [av 5 1 1,I 6 0,b9 7 5 5 6,aC 8 0 1 7,av 9 1 8,av 10 1 2,bh 11 .geq 9 10,I 4 11]) .ret))
@[simp] def XV:List bN:=[.tmp 4]
def QX:C:=(aa [cO 2 0,cO 3 1,c9 4 dj] (aa [a1 5 4 2,a1 6 4 3,fj 7 4 32 [.t 5,.t 6],j5 8 dj [(0,1,(gI 4)),(3,1,(.t 7))],bM 4 4 8] .ret))
@[simp] def X1:List bN:=[.cell 4 true 4]
def QV:C:=(aa [bP 4 0] (.seq (aa [I 5 0,I 6 1,bh 7 .lss 5 6] (aS 7 (aa [bP 4 (-1)] .ret) .skip)) (.seq (aa [I 8 0,I 9 1,bh 10 .gtr 8 9] (aS 10 (aa [bP 4 1] .ret) .skip)) (aa [bP 4 0] .ret))))
@[simp] def X0:List bN:=[.tmp 4]
def wk:C:=(aa [cO 2 0,bP 4 0] (.seq (aa [aC 6 0 1 2,av 7 1 6] (.block 0 (aa [aT 9 .eql 7 1,I 8 9] (aS 8 (aa [I 10 1,aC 11 1 1 2,av 12 1 11,gZ 13 10 [.t 12],b5 14 (.min2 (.t 13) (gI 5001)),I 4 14] .ret) (aa [aT 16 .eql 7 4,I 15 16] (aS 15 (aa [aC 17 3 1 2,av 18 1 17,iO 19 4 18 0,a1 20 4 19,I 21 1,bY 22 239 20 21,I 5 22] (.seq (aa [I 23 5,aT 24 .gtr 23 5000] (aS 24 (aa [I 25 5,I 4 25] .ret) .skip)) (aa [I 26 5,b5 27 (.bin .add false (gI 1) (.t 26)),aC 28 3 1 2,av 29 1 28,iO 30 4 29 1,a1 31 4 30,I 32 1,bY 33 239 31 32,bh 34 .add 27 33,b5 35 (.min2 (.t 34) (gI 5001)),I 4 35] .ret))) .skip)))))) (aa [bP 4 1] .ret)))
@[simp] def vJ:List bN:=[.tmp 4]
def Q1:C:=(aa [bP 3 0] (.seq (aa [av 7 1 1,I 8 0,gZ 9 7 [.t 8],I 6 9,cD 10 0 6,cD 11 1 6,c9 4 dj,bM 4 4 10,I 5 11] (aa [I 12 5] (aS 12 (aa [a1 13 4 4,dL 14 194 [.t 13,(gI 5000)],I 3 14] .ret) .skip))) (aa [bP 3 1] .ret)))
@[simp] def X3:List bN:=[.tmp 3]
def bG:List (Nat×dH):=[
 (3,⟨1,8,.int .i64,.int .i64 0⟩),
 (9,⟨1,16,.str,.str []⟩),
 (23,⟨1,24,.slice 61,.slice 5 .nil []⟩),
 (30,⟨1,24,.slice 32,.slice 4 .nil []⟩),
 (32,⟨4,56,.struct [(0,3),(1,3),(2,9),(3,30)],.agg [.int .i64 0,.int .i64 0,.str [],.slice 4 .nil []]⟩),
 (61,⟨5,64,.struct [(0,3),(1,32)],.agg [.int .i64 0,.int .i64 0,.int .i64 0,.str [],.slice 4 .nil []]⟩),
 (112,⟨1,24,.slice 3,.slice 1 .nil []⟩),
 (154,⟨1,8,.map 3 4,.junk⟩),
 (163,⟨1,8,.int .u64,.int .u64 0⟩),
 (184,⟨1,8,.other,.junk⟩)]
theorem mixed:ak.follows .mixedOrders=true:=by kernel_rfl
theorem be{bG:List (Nat×dH)}(aN:fS ak bG=true){f:FuncId}{fn:Func}(aJ:ak.funcs[f]? =some fn){c:C}{fw:List bN}{n:Nat}(dY:bU bG c fw n fn=true){args:List ai}{r:ai}(he:ek args->c4 ak [] c (bz fw r) ⟨kA 0 args,[],[],0,[]⟩)(ar:args.length<=n:=by simp)(aM:aD (fun _=>e1) r:=by simp[aD]):bF ak f args r:=bF.mk mixed aN aJ dY ar aM he
theorem fy:fS ak bG=true:=by kernel_rfl
theorem W8:bU bG JM anj 1 Tryz.f68=true:=by kernel_rfl
theorem Th:ak.funcs[(68:Nat)]? =some Tryz.f68:=Tryz.func68
theorem Ed:bU bG z6 an7 1 Tryz.f74=true:=by kernel_rfl
theorem CL:ak.funcs[(74:Nat)]? =some Tryz.f74:=Tryz.func74
theorem amv:bU bG Sb an8 1 Tryz.f91=true:=by kernel_rfl
theorem aft:ak.funcs[(91:Nat)]? =some Tryz.f91:=Tryz.func91
theorem alj:bU bG QY X2 2 Tryz.f95=true:=by kernel_rfl
theorem aej:ak.funcs[(95:Nat)]? =some Tryz.f95:=Tryz.func95
theorem akT:bU bG Qy HV 1 Tryz.f100=true:=by kernel_rfl
theorem adT:ak.funcs[(100:Nat)]? =some Tryz.f100:=Tryz.func100
theorem ak6:bU bG QL XS 2 Tryz.f108=true:=by kernel_rfl
theorem ad6:ak.funcs[(108:Nat)]? =some Tryz.f108:=Tryz.func108
theorem ams:bU bG R8 Yk 2 Tryz.f114=true:=by kernel_rfl
theorem afq:ak.funcs[(114:Nat)]? =some Tryz.f114:=Tryz.func114
theorem akS:bU bG Qx XJ 1 Tryz.f117=true:=by kernel_rfl
theorem adS:ak.funcs[(117:Nat)]? =some Tryz.f117:=Tryz.func117
theorem akJ:bU bG Qo HU 1 Tryz.f128=true:=by kernel_rfl
theorem adJ:ak.funcs[(128:Nat)]? =some Tryz.f128:=Tryz.func128
theorem vC:bU bG tp ug 2 Tryz.f129=true:=by kernel_rfl
theorem u1:ak.funcs[(129:Nat)]? =some Tryz.f129:=Tryz.func129
theorem ak8:bU bG QN XU 2 Tryz.f134=true:=by kernel_rfl
theorem ad8:ak.funcs[(134:Nat)]? =some Tryz.f134:=Tryz.func134
theorem Bw:bU bG x3 zi 2 Tryz.f153=true:=by kernel_rfl
theorem Ai:ak.funcs[(153:Nat)]? =some Tryz.f153:=Tryz.func153
theorem M6:bU bG FD H3 2 Tryz.f170=true:=by kernel_rfl
theorem Kv:ak.funcs[(170:Nat)]? =some Tryz.f170:=Tryz.func170
theorem alm:bU bG Q0 NG 2 Tryz.f181=true:=by kernel_rfl
theorem ael:ak.funcs[(181:Nat)]? =some Tryz.f181:=Tryz.func181
theorem alk:bU bG QZ NF 2 Tryz.f182=true:=by kernel_rfl
theorem aek:ak.funcs[(182:Nat)]? =some Tryz.f182:=Tryz.func182
theorem alr:bU bG Q5 X6 1 Tryz.f189=true:=by kernel_rfl
theorem aeq:ak.funcs[(189:Nat)]? =some Tryz.f189:=Tryz.func189
theorem ale:bU bG QT H2 2 Tryz.f194=true:=by kernel_rfl
theorem aee:ak.funcs[(194:Nat)]? =some Tryz.f194:=Tryz.func194
theorem W4:bU bG JI ang 1 Tryz.f200=true:=by kernel_rfl
theorem Td:ak.funcs[(200:Nat)]? =some Tryz.f200:=Tryz.func200
theorem alT:bU bG Rx X9 2 Tryz.f211=true:=by kernel_rfl
theorem aeR:ak.funcs[(211:Nat)]? =some Tryz.f211:=Tryz.func211
theorem ak9:bU bG QO XV 3 Tryz.f212=true:=by kernel_rfl
theorem ad9:ak.funcs[(212:Nat)]? =some Tryz.f212:=Tryz.func212
theorem ali:bU bG QX X1 2 Tryz.f225=true:=by kernel_rfl
theorem aei:ak.funcs[(225:Nat)]? =some Tryz.f225:=Tryz.func225
theorem alg:bU bG QV X0 2 Tryz.f232=true:=by kernel_rfl
theorem aeg:ak.funcs[(232:Nat)]? =some Tryz.f232:=Tryz.func232
theorem zc:bU bG wk vJ 2 Tryz.f239=true:=by kernel_rfl
theorem ya:ak.funcs[(239:Nat)]? =some Tryz.f239:=Tryz.func239
theorem aln:bU bG Q1 X3 2 Tryz.f240=true:=by kernel_rfl
theorem aem:ak.funcs[(240:Nat)]? =some Tryz.f240:=Tryz.func240
def ai2(s:List dM)(k:Nat)(st:br):Prop:=∃i:Nat,1<=i/\i<=s.length/\k=s.length-i/\((s.drop 1).all mP=(s.drop i).all mP)/\st=⟨[(0,.str s),(3,.int .i64 i)],[],[],0,[]⟩
theorem uz(s:List dM):bF ak 128 [.str s] (.bool (jX s)):=by
 refine bF.mk mixed fy adJ akJ Ψ (by simp[aD]) fun ab=>?_;unfold Qo;simp;(with_reducible repeat' first|((first|refine bS (fun h=>?_) fun h=>?_|refine bW (fun h=>?_) fun h=>?_|refine bV (fun h=>?_) fun h=>?_)<;>try simp at h)|refine aj ?_|simp);case refine_1.refine_1.refine_1.refine_2=>
  have ah4:jX s=(s.drop 1).all mP:=by simp[jX,low];omega
  rw[ah4];refine oX (ai2 s) (s.length-1) _ ⟨Ψ,by simp[gY],by simp[pj],Ψ⟩ ⟨1,Ω,Ω,rfl,rfl,rfl⟩ ?_;rintro k st ⟨i,k2,fM,ad,jR,rfl⟩ ku cB;rw[jR];simp;refine bS (fun bD=>?_) (fun vf=>?_)
  ·simp at bD;have aR:s.drop i=s[i]?.getD 0::s.drop (i+1):=by rw[lI bD];simp[bD]
   simp;(with_reducible repeat' first|((first|refine bS (fun h=>?_) fun h=>?_|refine bW (fun h=>?_) fun h=>?_|refine bV (fun h=>?_) fun h=>?_)<;>try simp at h)|refine aj ?_|simp);all_goals first
    |(simp[bz,HU,aX,aY,aW,aR,mP,low];omega)
    |(simp only[Fa];refine⟨s.length-(i+1),_,Ω,⟨Ψ,by simp[gY],by simp[pj],Ψ⟩,i+1,Ω,Ω,rfl,?_,rfl⟩;rw[jR,aR];simp[mP,low];omega)
  ·simp at vf;have:s.drop i=[]:=by simp;omega
   simp[bz,HU,aX,aY,aW,this]
 all_goals simp[bz,HU,aX,aY,aW,jX,low]
 all_goals omega
theorem Z4(m:Nat):∀(t:bI),t.sz<=m->∀(room:Int),0<=room/\room<=10000->bF ak 194 [enc t,.int .i64 room] (.int .i64 (fF t room)):=by
 induction m with
 |zero=>intro t aN;cases t;simp[bI.sz]at aN
 |succ m bR=>
 rintro⟨k,n,s,args⟩ aN room sr;refine be fy aee ale fun aK=>?_;unfold QT;simp[bI.kind,bI.num,bI.name,bI.args];(with_reducible repeat' first|((first|refine bS (fun h=>?_) fun h=>?_|refine bW (fun h=>?_) fun h=>?_|refine bV (fun h=>?_) fun h=>?_)<;>try simp at h)|refine aj ?_|simp);all_goals try refine cT.val Ψ (uz _) ?_
 all_goals try simp
 (with_reducible repeat' first|((first|refine bS (fun h=>?_) fun h=>?_|refine bW (fun h=>?_) fun h=>?_|refine bV (fun h=>?_) fun h=>?_)<;>try simp at h)|refine aj ?_|simp);all_goals try simp[bz,H2,aX,aY,aW]
 case succ.refine_2.refine_2.refine_1.refine_1.refine_2=>
  rename_i bs J U au;match args,h with
  |[a,b],_=>
  simp[bI.sz,bI.szL]at aN;subst J U au;simp;(with_reducible repeat' first|((first|refine bS (fun h=>?_) fun h=>?_|refine bW (fun h=>?_) fun h=>?_|refine bV (fun h=>?_) fun h=>?_)<;>try simp at h)|refine aj ?_|simp);refine cT.val Ψ (bR a Ω (room-1) Ω) ?_;simp;have bu:=MX a (room-1);have nz:=D5 a (room-1);(with_reducible repeat' first|((first|refine bS (fun h=>?_) fun h=>?_|refine bW (fun h=>?_) fun h=>?_|refine bV (fun h=>?_) fun h=>?_)<;>try simp at h)|refine aj ?_|simp)
  ·simp[bz,H2,aX,aY,aW];rw[MW];simp;omega
  ·refine cT.val Ψ (bR b Ω (room-1-fF a (room-1)) Ω) ?_;simp;have ab:=MX b (room-1-fF a (room-1));have fW:=D5 b (room-1-fF a (room-1));(with_reducible repeat' first|((first|refine bS (fun h=>?_) fun h=>?_|refine bW (fun h=>?_) fun h=>?_|refine bV (fun h=>?_) fun h=>?_)<;>try simp at h)|refine aj ?_|simp);all_goals simp[bz,H2,aX,aY,aW]
   all_goals rw[MW];simp;omega
 all_goals rw[MW]
 all_goals simp_all[lB]
 all_goals first|omega|(split<;>simp at h⊢)
theorem IQ(t:bI):bF ak 117 [enc t] (.bool t.fits):=by refine be fy adS akS fun aK=>?_;unfold Qx;simp;refine cT.val Ψ (Z4 t.sz t (e7 _) 5000 Ω) ?_;simp;simp[bz,XJ,aX,aY,aW];simp[bI.fits]
theorem apU(t:T):bF ak 117 [t.e] (.bool t.fit):=by have:=IQ t.tm;rwa[qm,bI.fits_T]at this
theorem IZ(a b:T):bF ak 225 [a.e,b.e] (T.pair a b).e:=by refine be fy aei ali fun aK=>?_;unfold QX;simp;(with_reducible repeat' first|((first|refine bS (fun h=>?_) fun h=>?_|refine bW (fun h=>?_) fun h=>?_|refine bV (fun h=>?_) fun h=>?_)<;>try simp at h)|refine aj ?_|simp);all_goals try simp[bz,X1,aX,aY,aW]
theorem IT(a b:T):bF ak 114 [a.e,b.e] (T.pair a b).e:=by refine be fy afq ams fun aK=>?_;unfold R8;simp;(with_reducible repeat' first|((first|refine bS (fun h=>?_) fun h=>?_|refine bW (fun h=>?_) fun h=>?_|refine bV (fun h=>?_) fun h=>?_)<;>try simp at h)|refine aj ?_|simp);all_goals try simp[bz,Yk,aX,aY,aW]
theorem uA(t:T):bF ak 200 [t.e] t.e:=by
 induction t with
 |pair a b ds dv=>refine be fy Td W4 fun aK=>?_;unfold JI;exact bJ
 |_=>refine be fy Td W4 fun aK=>?_;unfold JI;exact bJ
theorem oF(a b:Int):bF ak 232 [.int .i64 a,.int .i64 b] (.int .i64 (eE a b)):=by
 refine be fy aeg alg fun aK=>?_;unfold QV;simp;((with_reducible repeat' first|refine aj ?_|simp|((first|apply bS|apply bW|apply bV)<;>intro h<;>try simp at h))<;>(try exact cy));all_goals simp[bz,X0,aX,aY,aW]
 all_goals simp[eE]
 all_goals omega
theorem B9(a:T):∀b:T,bF ak 170 [a.e,b.e] (.int .i64 (eC a b)):=by
 induction a with
 |pair bC a2 GV GW=>
  intro b;cases b with
  |pair ch ca=>
   refine be fy Kv M6 fun aK=>?_;unfold FD;simp;((with_reducible repeat' first|refine aj ?_|refine aF (GV _) ?_|refine aG (GV _) ?_|refine aF (GW _) ?_|refine aG (GW _) ?_|refine aF (oF _ _) ?_|refine aG (oF _ _) ?_|simp|((first|apply bS|apply bW|apply bV)<;>intro h<;>try simp at h))<;>(try exact cy));all_goals simp[bz,H3,aX,aY,aW]
   all_goals simp_all[eC]
  |_=>
   refine be fy Kv M6 fun aK=>?_;unfold FD;simp;(with_reducible repeat' first|refine aj ?_|refine aF (oF _ _) ?_|refine aG (oF _ _) ?_|simp);all_goals simp[bz,H3,aX,aY,aW]
   all_goals simp_all[eC]
 |_=>
  intro b;cases b<;>
  (refine be fy Kv M6 fun aK=>?_;unfold FD
   simp
   (with_reducible repeat' first|((first|apply bS|apply bW|apply bV)<;>intro h<;>try simp at h)|refine aj ?_|refine aF (oF _ _) ?_|refine aG (oF _ _) ?_|simp)
   all_goals simp[bz,H3,aX,aY,aW]
   all_goals simp_all[eC,kT])
theorem ps(a b:T):bF ak 108 [a.e,b.e] (.bool (decide (a=b))):=by
 refine be fy ad6 ak6 fun aK=>?_;unfold QL;simp;(with_reducible repeat' first|refine aj ?_|refine aF (B9 _ _) ?_|refine aG (B9 _ _) ?_|simp);all_goals simp[bz,XS,aX,aY,aW]
 have:=rs a b;by_cases h:eC a b=0<;>simp_all
open Classical in
def ai7(l:List cX)(k:Nat)(st:br):Prop:=∃i:Nat,i<=l.length/\k=l.length-i/\(∀j,j<i->Bu l j)/\st=⟨[(0,.slice 5 .no (l.map cX.e)),(8,.slice 5 .no (l.map cX.e)),(9,.int .i64 l.length),(10,.int .i64 i)],[],[],0,[]⟩
open Classical in
theorem O1(l:List cX):bF ak 100 [.slice 5 .no (l.map cX.e)] (.bool (decide (wg l))):=by
 refine be fy adT akT fun aK=>?_;unfold Qy;simp;(with_reducible repeat' first|((first|apply bS|apply bW|apply bV)<;>intro h<;>try simp at h)|refine aj ?_|simp)
 ·simp[bz,HV,aX,aY,aW];intro cf;have:=cf.1;omega
 ·refine oX (ai7 l) l.length _ ⟨Ψ,by simp[gY],by simp[pj],Ψ⟩ ⟨0,Ω,Ω,Ψ,rfl⟩ ?_;rintro k st ⟨i,hi,ad,jR,rfl⟩ ku cB;simp;refine bS (fun bD=>?_) (fun vf=>?_)
  ·simp at bD;obtain⟨b,ab⟩:∃b,l[i]? =some b:=⟨_,cc bD⟩;obtain⟨c,aw⟩:∃c,l[i-1]? =some c:=⟨_,cc Ω⟩;clear ku cB;simp[ab,aw];((with_reducible repeat' first|refine aj ?_|refine aF (IQ _) ?_|refine aG (IQ _) ?_|simp[aw]|((first|apply bS|apply bW|apply bV)<;>intro h<;>try simp at h))<;>(try exact cy));all_goals first
    |(simp[bz,HV,aX,aY,aW];intro cf;have J:=cf.2 i bD b ab;have U:=J.2.1 c;have au:=J.2.2;first|omega|(have:=U Ω aw;omega)|(rw[au]at h;cases h)|simp_all)
    |(simp only[Fa];refine⟨l.length-(i+1),_,Ω,⟨Ψ,by simp[gY],by simp[pj],Ψ⟩,i+1,Ω,rfl,fun j ae=>?_,rfl⟩
      by_cases e:j=i
      ·subst e;intro cb fW;rw[ab]at fW;cases fW;refine⟨Ω,fun cw bs hJ=>?_,by assumption⟩;rw[aw]at hJ;cases hJ;omega
      ·exact jR j Ω)
  ·simp at vf;simp[bz,HV,aX,aY,aW];exact⟨Ω,fun j ae=>jR j Ω⟩
def mw(p:Nat->Bool)(i j:Nat):Nat:=if i<j then(if p ((i+j)/2)then mw p i ((i+j)/2)else mw p ((i+j)/2+1) j)else i
termination_by j-i
def ai5(s:cH)(n g:Nat)(dg:List ai)(p:Nat->Bool)(k:Nat)(st:br):Prop:=∃i j:Nat,i<=j/\j<=n/\k=j-i/\mw p i j=mw p 0 n/\st=⟨[(1,.func g dg),(5,.int .i64 i),(6,.int .i64 j)],s.b,s.e,0,c1 s⟩
theorem af8(s:cH)(ag:dN s)(n g:Nat)(ax:n<=1000000)(dg:List ai)(aw:aH (inObs s) dg)(cR:c2 dg=dg)(p:Nat->Bool)(aJ:∀i:Nat,i<n->bH ak g (.int .i64 i::dg) s fun r ah=>r= .bool (p i)/\ah=s):
  bH ak 211 [.int .i64 n,.func g dg] s fun r ah=>r= .int .i64 (mw p 0 n)/\ah=s:=by
 refine bH.mk mixed fy aeR alT Ψ ag.obj fun aK cB=>?_;unfold Rx;simp;refine oX (ai5 s n g dg p) n _ (iU.ob ag (by simp[aw]) aL aL) ⟨0,n,Ω,Ω,rfl,rfl,rfl⟩ ?_;rintro k st ⟨i,j,ml,ae,ad,LL,rfl⟩ ku cB;clear ku cB;simp;refine bS (fun bD=>?_) (fun vf=>?_)
 ·simp at bD;have hw:hA.wrap ((i:Int)+j)=i+j:=by simp[ta,oH,s9];omega
  obtain⟨m,hm⟩:∃m,m=(i+j)/2:=⟨_,rfl⟩;have aR:Int.fdiv ((i:Int)+j) 2=(m:Int):=by rw[Int.fdiv_eq_ediv_of_nonneg _ Ω];omega
  have o9:IntKind.i64.wrap (m:Int)=m:=by rw[pz];omega
  have K9:hA.bits=64:=rfl;simp[hw,cR,K9,aR,o9];refine⟨by unfold tQ;omega,?_⟩;refine cT.ob (aJ m Ω) ag aL aL (by simp[aw]) ?_;rintro r ah ⟨rfl,rfl⟩;refine⟨Same.refl _,?_⟩;simp[gR];(with_reducible repeat' first|((first|apply bS|apply bW|apply bV)<;>intro h<;>try simp at h)|refine aj ?_|simp)
  ·simp only[Fa];refine⟨j-(m+1),_,Ω,iU.ob ag (by simp[aw]) aL aL,m+1,j,Ω,Ω,rfl,?_,rfl⟩;rw[<-LL];conv=>rhs;unfold mw
   simp[bD,<-hm,h]
  ·simp only[Fa];refine⟨m-i,_,Ω,iU.ob ag (by simp[aw]) aL aL,i,m,Ω,Ω,rfl,?_,rfl⟩;rw[<-LL];conv=>rhs;unfold mw
   simp[bD,<-hm,h]
 ·simp at vf;have:mw p 0 n=i:=by rw[<-LL];unfold mw;rw[if_neg Ω]
  rw[this];simp;refine cF.at s (.inl rfl) ag (Same.refl s) aL aL ?_;simp[cL,X9,aX,aY,aW]
def nu(l:List aq)(v:Int):Int:=
 let i:=mw (fun i=>match l[i]? with|some b=>decide (v<=b.v)|none=>false) 0 l.length
 match l[i]? with|some b=>if b.v=v then i else-1|none=> -1
theorem agf(l:List aq)(v:Int)(i:Nat)(b:aq)(ab:l[i]? =some b):bH ak 212 [.int .i64 i,.ptr (.obj 101) 0,.ptr (.obj 102) 0] ⟨[(.obj 101,[.slice 5 .no (l.map aq.e)]),(.obj 102,[.int .i64 v])],[]⟩ fun r ah=>r= .bool (decide (v<=b.v))/\ah=⟨[(.obj 101,[.slice 5 .no (l.map aq.e)]),(.obj 102,[.int .i64 v])],[]⟩:=by have ag:dN ⟨[(.obj 101,[.slice 5 .no (l.map aq.e)]),(.obj 102,[.int .i64 v])],[]⟩:=(dN.of ⟨by intro m;simp[Pv.look],by intro m;simp[Pv.look]⟩ (by simp[aH,aD,inObs,Pv.look]) (by simp[aH,aD,inObs,Pv.look]));have bD:i<l.length:=(eP.1 ab).1;refine bH.mk mixed fy ad9 ak9 Ψ ag.obj fun aK cB=>?_;unfold QO;simp[ab];(with_reducible repeat' first|refine aj ?_|simp);refine cF.at _ (.inl rfl) ag (Same.refl _) aL aL ?_;simp[cL,XV,aX,aY,aW]
theorem uB(l:List aq)(v:Int)(ar:l.length<=1000000):bF ak 134 [.slice 5 .no (l.map aq.e),.int .i64 v] (.int .i64 (nu l v)):=by
 refine be fy ad8 ak8 fun aK=>?_;unfold QN;simp;have ag:dN ⟨[(.obj 101,[.slice 5 .no (l.map aq.e)]),(.obj 102,[.int .i64 v])],[]⟩:=(dN.of ⟨by intro m;simp[Pv.look],by intro m;simp[Pv.look]⟩ (by simp[aH,aD,inObs,Pv.look]) (by simp[aH,aD,inObs,Pv.look]));refine cT.ob (af8 ⟨[(.obj 101,[.slice 5 .no (l.map aq.e)]),(.obj 102,[.int .i64 v])],[]⟩ ag l.length 212 ar [.ptr (.obj 101) 0,.ptr (.obj 102) 0] (by simp[inObs]) Ψ (fun i=>match l[i]? with|some b=>decide (v<=b.v)|none=>false) fun i hi=>?_) ag aL aL (by simp[inObs]) ?_
 ·obtain⟨b,ab⟩:∃b,l[i]? =some b:=⟨_,cc hi⟩;simp only[ab];exact agf l v i b ab
 rintro r ah ⟨rfl,rfl⟩;refine⟨Same.refl _,?_⟩;unfold nu;generalize mw _ 0 l.length=i;cases ab:l[i]? with
 |none=>
  have bD:¬i<l.length:=by simpa using ab
  simp[cl,bD];exact bJ
 |some b=>
  have bD:i<l.length:=(eP.1 ab).1;simp[cl,ab,bD];((with_reducible repeat' first|refine aj ?_|simp[ab]|((first|apply bS|apply bW|apply bV)<;>intro h<;>try simp at h))<;>(try exact cy));all_goals simp[bz,XU,aX,aY,aW]
  all_goals simp_all
def sN(l:List aq)(v:Int):ba T:=if nu l v<0 then none else(l[(nu l v).toNat]?).map (·.t)
theorem Tz(l:List aq)(v:Int):nu l v<l.length/\ -1<=nu l v:=by
 unfold nu;simp only;split
 ·rename_i b ab;have:=(eP.1 ab).1;split<;>omega
 ·omega
theorem TR(l:List aq)(v:Int)(ar:l.length<=1000000)(o:ba T)(ay:o=sN l v):bH ak 182 [.int .i64 v,.ptr (.obj 201) 0] ⟨[(.obj 201,[.slice 5 .no (l.map aq.e)])],[]⟩ fun r ah=>r= .tuple [(o.getD .nil).e,.bool o.isSome]/\ah=⟨[(.obj 201,[.slice 5 .no (l.map aq.e)])],[]⟩:=by
 have ag:dN ⟨[(.obj 201,[.slice 5 .no (l.map aq.e)])],[]⟩:=(dN.of ⟨by intro m;simp[Pv.look],by intro m;simp[Pv.look]⟩ (by simp[aH,aD,inObs,Pv.look]) (by simp[aH,aD,inObs,Pv.look]));have bD:=(Tz l v).1;unfold sN at ay;refine bH.mk mixed fy aek alk Ψ ag.obj fun aK cB=>?_;unfold QZ;simp;(with_reducible repeat' first|((first|apply bS|apply bW|apply bV)<;>intro h<;>try simp at h)|refine aj ?_|refine aF (uB l v ar) ?_|refine aG (uB l v ar) ?_|simp)
 ·obtain⟨b,ab⟩:∃b,l[(nu l v).toNat]? =some b:=⟨_,cc Ω⟩;have h2:o=some b.t:=by rw[ay,if_neg Ω,ab];rfl
  simp[ab];(with_reducible repeat' first|((first|apply bS|apply bW|apply bV)<;>intro h<;>try simp at h)|refine aj ?_|simp[ab]);refine cF.at _ (.inl rfl) ag (Same.refl _) aL aL ?_;simp[cL,NF,aX,aY,aW];simp[h2]
 ·have h2:o=none:=by rw[ay,if_pos h]
  refine cF.at _ (.inl rfl) ag (Same.refl _) aL aL ?_;simp[cL,NF,aX,aY,aW];simp[h2]
theorem agC(s:cH)(ag:dN s)(g:Nat)(dg:List ai)(aw:aH (inObs s) dg)(cR:c2 dg=dg)(f:Int->Int)(C8:∀v,-1<=f v)(t:T)(aJ:∀v,t.occ v=true->bH ak g (.int .i64 v::dg) s fun r ah=>r= .int .i64 (f v)/\ah=s):
  bH ak 239 [t.e,.func g dg] s fun r ah=>r= .int .i64 (lD f t)/\ah=s:=by
 have ax:∀m,Pv.look (.loc m) s.b=none:=ag.obj.1;have hu:∀m cs,cA (.loc m) cs s.b=s.b++[(.loc m,cs)]:=fun m cs=>j4 (ax m);have ay:∀m,aI.loc m∉c1 s:=jY ag.obj;induction t with
 |pair a b ds dv=>
  have as0:=Iy f C8 a;have as3:=Iy f C8 b;refine bH.mk mixed fy ya zc Ψ ag.obj fun aK cB=>?_;unfold wk;simp[hu,ay,cK,ax,cR];(with_reducible repeat' first|refine aj ?_|simp[hu,ay,cK,ax]);refine cT.ob (ds fun v aB=>aJ v (by simp[T.occ,aB])) ag aL aL (by simp[aw]) ?_;rintro r ah ⟨rfl,rfl⟩;refine⟨Same.refl _,?_⟩;simp[gR,ia,cl,ax];(with_reducible repeat' first|((first|apply bS|apply bW|apply bV)<;>intro h<;>try simp at h)|refine aj ?_|simp[hu,ay,cK,ax])
  ·refine cF.at ah (.inl rfl) ag (Same.refl _) aL aL ?_;simp[cL,vJ,aX,aY,aW];simp[lD];omega
  ·rw[cR];refine cT.ob (dv fun v aB=>aJ v (by simp[T.occ,aB])) ag aL aL (by simp[aw]) ?_;rintro r s2 ⟨rfl,rfl⟩;refine⟨Same.refl _,?_⟩;simp[gR,ia,cl,ax];(with_reducible repeat' first|((first|apply bS|apply bW|apply bV)<;>intro h<;>try simp at h)|refine aj ?_|simp[hu,ay,cK,ax]);refine cF.at s2 (.inl rfl) ag (Same.refl _) aL aL ?_;simp[cL,vJ,aX,aY,aW];simp[lD];omega
 |var n=>refine bH.mk mixed fy ya zc Ψ ag.obj fun aK cB=>?_;unfold wk;simp[hu,ay,cK,ax,cR];(with_reducible repeat' first|refine aj ?_|simp[hu,ay,cK,ax]);refine cT.ob (aJ n (by simp[T.occ])) ag aL aL (by simp[aw]) ?_;rintro r ah ⟨rfl,rfl⟩;refine⟨Same.refl _,?_⟩;simp[gR,ia,cl,ax];refine cF.at ah (.inl rfl) ag (Same.refl _) aL aL ?_;simp[cL,vJ,aX,aY,aW];simp[lD]
 |_=>refine bH.mk mixed fy ya zc Ψ ag.obj fun aK cB=>?_;unfold wk;simp[hu,ay,cK,ax,cR];(with_reducible repeat' first|refine aj ?_|simp[hu,ay,cK,ax]);refine cF.at s (.inl rfl) ag (Same.refl _) aL aL ?_;simp[cL,vJ,aX,aY,aW];simp[lD]
theorem TP(s:cH)(ag:dN s)(g:Nat)(dg:List ai)(aw:aH (inObs s) dg)(cR:c2 dg=dg)(f:Int->ba T)(t:T)(aJ:∀v,t.occ v=true->bH ak g (.int .i64 v::dg) s fun r ah=>r= .tuple [((f v).getD .nil).e,.bool (f v).isSome]/\ah=s):
  bH ak 153 [t.e,.func g dg] s fun r ah=>r=(t.sub f).e/\ah=s:=by
 have ax:∀m,Pv.look (.loc m) s.b=none:=ag.obj.1;have cM:∀m,Pv.look (.loc m) s.e=none:=ag.obj.2;have hu:∀m cs,cA (.loc m) cs s.b=s.b++[(.loc m,cs)]:=fun m cs=>j4 (ax m);have ay:∀m,aI.loc m∉c1 s:=jY ag.obj;have jW:∀m p r,cA (.loc m) p (s.b++r)=s.b++cA (.loc m) p r:=fun m p r=>B6 (ax m);induction t with
 |pair a b ds dv=>refine bH.mk mixed fy Ai Bw Ψ ag.obj fun aK cB=>?_;unfold x3;simp[hu,ay,cK,ax,cM,cR,jW];(with_reducible repeat' first|refine aj ?_|simp[hu,ay,cK,ax,cM,jW]);refine hn.ob (ds fun v aB=>aJ v (by simp[T.occ,aB])) ag ag (Same.refl _) aL aL (by simp[aw]) ?_;simp[gR,ia,cl,ax,cR];refine hn.ob (dv fun v aB=>aJ v (by simp[T.occ,aB])) ag ag (Same.refl _) aL aL (by simp[aw]) ?_;simp[gR,ia,cl,ax,cR];(with_reducible repeat' first|refine aj ?_|refine aF (IZ _ _) ?_|refine aG (IZ _ _) ?_|simp);refine cF.at s (.inl rfl) ag (Same.refl _) aL aL ?_;simp[cL,zi,aX,aY,aW,cK,ax];simp[T.sub]
 |var n=>
  refine bH.mk mixed fy Ai Bw Ψ ag.obj fun aK cB=>?_;unfold x3;simp[hu,ay,cK,ax,cR,jW];(with_reducible repeat' first|refine aj ?_|simp[hu,ay,cK,ax,jW]);refine cT.ob (aJ n (by simp[T.occ])) ag aL aL (by simp[aw]) ?_;rintro r ah ⟨rfl,rfl⟩;refine⟨Same.refl _,?_⟩;simp[gR,ia,cl,ax,hu,ay,cK];(with_reducible repeat' first|((first|apply bS|apply bW|apply bV)<;>intro h<;>try simp at h)|refine aj ?_|refine aF (uA _) ?_|refine aG (uA _) ?_|simp[hu,ay,cK,ax,jW]);all_goals refine cF.at ah (.inl rfl) ag (Same.refl _) aL aL ?_
  all_goals simp[cL,zi,aX,aY,aW,cK,ax]
  all_goals cases q9:f n<;>simp_all[T.sub]
 |_=>refine bH.mk mixed fy Ai Bw Ψ ag.obj fun aK cB=>?_;unfold x3;simp[hu,ay,cK,ax,cR,jW];(with_reducible repeat' first|((first|apply bS|apply bW|apply bV)<;>intro h<;>try simp at h)|refine aj ?_|simp[hu,ay,cK,ax,jW]);refine cF.at s (.inl rfl) ag (Same.refl _) aL aL ?_;simp[cL,zi,aX,aY,aW,cK,ax];simp[T.sub]
def oP(l:List aq):cH:=⟨[(.obj 201,[.slice 5 .no (l.map aq.e)])],[]⟩
def rR(l:List aq):cH:=⟨[(.obj 201,[.slice 5 .no (l.map aq.e)]),(.obj 202,[.func 182 [.ptr (.obj 201) 0]])],[]⟩
theorem Ck(l:List aq):dN (oP l):=by unfold oP;exact(dN.of ⟨by intro m;simp[Pv.look],by intro m;simp[Pv.look]⟩ (by simp[aH,aD,inObs,Pv.look]) (by simp[aH,aD,inObs,Pv.look]))
theorem I7(l:List aq):dN (rR l):=by unfold rR;exact(dN.of ⟨by intro m;simp[Pv.look],by intro m;simp[Pv.look]⟩ (by simp[aH,aD,inObs,Pv.look]) (by simp[aH,aD,inObs,Pv.look]))
def u4(l:List aq)(v:Int):Int:=match sN l v with|some x=>fF x.tm 5000|none=>1
theorem afZ(l:List aq)(v:Int): -1<=u4 l v:=by
 unfold u4;split
 ·rename_i x _;rcases D5 x.tm 5000 with h|h<;>omega
 ·omega
theorem Z5(t:T):bF ak 194 [t.e,.int .i64 5000] (.int .i64 (fF t.tm 5000)):=by have:=Z4 t.tm.sz t.tm (e7 _) 5000 Ω;rwa[qm]at this
theorem agz(l:List aq)(v:Int)(ar:l.length<=1000000):bH ak 240 [.int .i64 v,.ptr (.obj 202) 0] (rR l) fun r ah=>r= .int .i64 (u4 l v)/\ah=rR l:=by
 have ag:=I7 l;unfold rR at ag⊢;refine bH.mk mixed fy aem aln Ψ ag.obj fun aK cB=>?_;unfold Q1;simp;refine cT.ob (TR l v ar _ rfl) (Ck l) aL aL (by simp[inObs]) ?_;rintro r ah ⟨rfl,rfl⟩;refine⟨Same.refl _,?_⟩;simp[cl];(with_reducible repeat' first|((first|apply bS|apply bW|apply bV)<;>intro h<;>try simp at h)|refine aj ?_|refine aF (Z5 _) ?_|refine aG (Z5 _) ?_|simp);all_goals refine cF.at _ (.inl rfl) ag (Same.refl _) aL aL ?_
 all_goals simp[cL,X3,aX,aY,aW]
 all_goals unfold u4
 all_goals cases bB:sN l v<;>simp_all
def Er(l:List aq)(t:T):T:=t.sub (sN l)
def ue(l:List aq)(t:T):Bool:=decide (lD (u4 l) t<=5000)
theorem agy(l:List aq)(t:T)(ar:l.length<=1000000):bH ak 181 [t.e,.func 182 [.ptr (.obj 201) 0]] (oP l) fun r ah=>r= .tuple [(if ue l t then Er l t else .nil).e,.bool (ue l t)]/\ah=oP l:=by
 have ag:=Ck l;unfold oP at ag⊢;refine bH.mk mixed fy ael alm Ψ ag.obj fun aK cB=>?_;unfold Q0;simp;refine cT.ob (agC (rR l) (I7 l) 240 [.ptr (.obj 202) 0] (by simp[inObs,rR]) Ψ (u4 l) (afZ l) t fun v aB=>agz l v ar) (I7 l) (by unfold rR;exact aL) (by unfold rR;exact aL) (by simp[inObs,rR]) ?_;rintro r ah ⟨rfl,rfl⟩;refine⟨Same.refl _,?_⟩;unfold rR;simp[cl];(with_reducible repeat' first|((first|apply bS|apply bW|apply bV)<;>intro h<;>try simp at h)|refine aj ?_|simp)
 ·refine cF.at _ (.inl rfl) ag (Same.refl _) aL aL ?_;simp[cL,NG,aX,aY,aW];have:ue l t=false:=by simp[ue];omega
  simp[this]
 ·refine cT.ob (TP (oP l) (Ck l) 182 [.ptr (.obj 201) 0] (by simp[inObs,oP]) Ψ (sN l) t fun v aB=>TR l v ar _ rfl) (Ck l) (by unfold oP;exact aL) (by unfold oP;exact aL) (by simp[inObs,oP]) ?_;rintro r ah ⟨rfl,rfl⟩;refine⟨Same.refl _,?_⟩;unfold oP;simp[cl];refine cF.at _ (.inl rfl) ag (Same.refl _) aL aL ?_;simp[cL,NG,aX,aY,aW];have:ue l t=true:=by simp[ue];omega
  simp[this,Er]
theorem aqx(l:List aq)(t:T)(ar:l.length<=1000000):bF ak 95 [.slice 5 .no (l.map aq.e),t.e] (.tuple [(if ue l t then Er l t else .nil).e,.bool (ue l t)]):=by refine be fy aej alj fun aK=>?_;unfold QY;simp;refine cT.ob (agy l t ar) (Ck l) (by unfold oP;exact aL) (by unfold oP;exact aL) (by simp[inObs,oP]) ?_;rintro r ah ⟨rfl,rfl⟩;refine⟨Same.refl _,?_⟩;unfold oP;simp[cl];simp[bz,X2,aX,aY,aW]
theorem Ox(p:Nat->Bool)(n:Nat)(hm:∀k bT,k<=bT->bT<n->p k=true->p bT=true):∀(m i j:Nat),j-i<=m->i<=j->j<=n->(∀k,k<i->p k=false)->(∀k,j<=k->k<n->p k=true)->
  (i<=mw p i j/\mw p i j<=j)/\(∀k,k<mw p i j->p k=false)/\(∀k,mw p i j<=k->k<n->p k=true)
 |m,i,j,aR,ml,ae,J,U=>by
  rw[mw];split
  ·rename_i bD;obtain⟨m,rfl⟩:∃ht,m=ht+1:=⟨m-1,Ω⟩;split
   ·rename_i bB;have:=Ox p n hm m i ((i+j)/2) Ω Ω Ω J (fun k ad GB=>hm _ k ad GB bB);exact⟨⟨this.1.1,Ω⟩,this.2⟩
   ·rename_i bB;have:=Ox p n hm m ((i+j)/2+1) j Ω Ω ae (fun k ad=>by
     by_cases og:p k=true
     ·exact absurd (hm k ((i+j)/2) Ω Ω og) bB
     ·simpa using og) U
    exact⟨⟨Ω,this.1.2⟩,this.2⟩
  ·obtain rfl:i=j:=Ω
   exact⟨⟨e7 _,e7 _⟩,J,U⟩
theorem Nt{l:List aq}(ag:gk l)(v:Int):sN l v=cP l v:=by
 have bD:∀(i j:Nat) (x y:aq),i<j->l[i]? =some x->l[j]? =some y->x.v<y.v:=by intro i j x y ml af aO;obtain⟨J,rfl⟩:=eP.1 af;obtain⟨U,rfl⟩:=eP.1 aO;exact qg.1 ag i j J U ml
 obtain⟨p,bB⟩:∃p:Nat->Bool,p=(fun i=>match l[i]? with|some b=>decide (v<=b.v)|none=>false):=⟨_,rfl⟩;have GK:∀i b,l[i]? =some b->p i=decide (v<=b.v):=fun i b ab=>by rw[bB];simp[ab]
 have hm:∀k bT,k<=bT->bT<l.length->p k=true->p bT=true:=by
  intro k bT ad og h;have al:l[k]? =some l[k]:=cc Ω;have aE:l[bT]? =some l[bT]:=cc og;rw[GK k _ al]at h;rw[GK bT _ aE];simp only[fc]at h⊢;rcases Nat.lt_or_eq_of_le ad with wK|rfl
  ·have:=bD k bT _ _ wK al aE;omega
  ·exact h
 obtain⟨⟨_,hle⟩,hbef,haft⟩:=Ox p l.length hm l.length 0 l.length Ω Ω (e7 _) (fun k ad=>Ω) (fun k J U=>Ω);have Lj:nu l v=(match l[mw p 0 l.length]? with|some b=>if b.v=v then((mw p 0 l.length:Nat):Int)else-1|none=> -1):=by rw[bB];rfl
 generalize mw p 0 l.length=r at hle hbef haft Lj;by_cases hex:∃(k:Nat) (b:aq),l[k]? =some b/\b.v=v
 ·obtain⟨k,b,ab,Ue⟩:=hex;have hW:k<l.length:=(eP.1 ab).1;have gE:r<=k:=by
   rcases Nat.lt_or_ge k r with h|h
   ·have:=hbef k h;rw[GK k b ab]at this;simp at this;omega
   ·exact h
  have aM:l[r]? =some l[r]:=cc Ω;have AW:=haft r (e7 _) Ω;rw[GK r _ aM]at AW;simp only[fc]at AW;have ain:r=k:=by
   rcases Nat.lt_or_eq_of_le gE with h|h
   ·have:=bD r k _ _ h aM ab;omega
   ·exact h
  subst ain;have Lm:nu l v=r:=by rw[Lj,ab];simp[Ue]
  have J:sN l v=some b.t:=by unfold sN;rw[Lm,if_neg Ω];simp[ab]
  have U:l.find? (fun b=>b.v==v)=some b:=by
   rw[List.find?_eq_some_iff_getElem];refine⟨by simp[Ue],r,hW,?_,fun j ae=>?_⟩
   ·rw[cc hW]at ab;simpa using ab
   ·have:=bD j r l[j] b ae (cc Ω) ab;simp;omega
  rw[J];simp[cP,U]
 ·have U:l.find? (fun b=>b.v==v)=none:=by rw[List.find?_eq_none];intro b ab;obtain⟨k,ad,rfl⟩:=List.mem_iff_getElem.1 ab;simp;intro e;exact hex ⟨k,l[k],cc ad,e⟩
  have Lm:nu l v= -1:=by
   rw[Lj];split
   ·rename_i b ab;rw[if_neg (fun e=>hex ⟨r,b,ab,e⟩)]
   ·rfl
  unfold sN;rw[Lm];simp[cP,U]
theorem TA{l:List aq}(ag:gk l)(v:Int):nu l v<0↔cP l v=none:=by
 rw[<-Nt ag v];unfold sN;have J:=Tz l v;by_cases h:nu l v<0
 ·simp[h]
 ·simp only[h,if_false,false_iff];intro e;rw[Option.map_eq_none_iff,List.getElem?_eq_none_iff]at e;omega
def yd(s:List aq):Prop:= ∀b∈s,b.t.fit=true
theorem afY{l:List aq}(ag:gk l)(h:yd l)(v:Int):u4 l v=(bX l v).size:=by
 unfold u4 bX;rw[Nt ag];cases ab:cP l v with
 |none=>simp[T.size]
 |some x=>have:=h _ (iV ab);simp only[T.fit,cC,fc]at this;simp only[jA];rw[HB,if_pos ⟨this.1,Ω⟩]
theorem aoI{l:List aq}(ag:gk l)(h:yd l)(t:T):lD (u4 l) t=cut (t.ap (bX l)).size:=by
 induction t with
 |var n=>simp only[lD,afY ag h,T.ap];rfl
 |pair a b ds dv=>have ab:=T.size_pos (b.ap (bX l));simp only[lD,ds,dv,T.ap,T.size];unfold cut;(repeat' split)<;>omega
 |_=>simp[lD,T.ap,T.size,cut]
theorem amX{l:List aq}(ag:gk l)(h:yd l)(t:T):ue l t=decide ((t.ap (bX l)).size<=5000):=by unfold ue;rw[aoI ag h];unfold cut;split<;>simp<;>omega
theorem amY{l:List aq}(ag:gk l)(t:T):Er l t=t.ap (bX l):=by unfold Er;rw[Zb];exact uP fun v _=>by rw[Nt ag];rfl
theorem zD(l:List aq)(t:T)(ar:l.length<=1000000)(ag:gk l)(h:yd l):bF ak 95 [.slice 5 .no (l.map aq.e),t.e] (.tuple [(if(t.ap (bX l)).size<=5000 then t.ap (bX l)else .nil).e,.bool (decide ((t.ap (bX l)).size<=5000))]):=by have:=aqx l t ar;rw[amX ag h,amY ag]at this;simpa using this
def FF:C:=(aa [cO 2 0,a8 4 false] (aa [bP 5 1048576] (aa [a1 10 6 2,I 11 5,bY 12 21 10 11,I 5 12] (.seq (aa [I 13 5,aT 14 .lss 13 0] (aS 14 (aa [a8 4 true] .ret) .skip)) (aa [I 15 1,I 16 5,bY 17 32 15 16,I 5 17] (.seq (aa [I 18 5,aT 19 .lss 18 0] (aS 19 (aa [a8 4 true] .ret) .skip)) (aa [a1 20 6 2,cE 21 23 20,I 22 1,cE 23 34 22,bY 24 33 21 23,I 6 24] (aa [a1 25 6 2,cE 26 23 25,cN (.alloc 7 none (.agg [.slice 4 .nil [],.int .i64 0,.slice 5 .nil [],.slice 1 .nil [],.slice 2 .nil [],.slice 2 .nil []])),bM 6 7 26] (aa [I 27 1,cE 28 34 27,I 8 28] (aa [a1 29 6 7,I 30 8,bY 31 35 29 30,I 9 31] (.seq (aa [I 32 9,I 33 6,b5 34 (.beq true none (.t 32) (.t 33))] (aS 34 (aa [a8 4 false] .ret) .skip)) (.seq (.seq (.drawn true 45 [a1 35 6 7,a1 36 6 2,cE 37 23 36,bY 38 25 35 37,cn 39 38]) (aS 39 (aa [a8 4 false] .ret) .skip)) (.seq (aa [I 40 8,I 41 1,cE 42 34 41,bY 43 36 40 42,cn 44 43] (aS 44 (aa [a8 4 false] .ret) .skip)) (aa [a8 4 true] .ret))))))))))))))
@[simp] def X8:List bN:=[.tmp 4]
def JY:C:=(aa [cO 2 0,a8 4 false] (.seq (aa [a1 9 6 2,cE 10 22 9,cn 11 10] (aS 11 (aa [a8 4 false] .ret) .skip)) (.seq (aa [I 12 1,b2 13 12,bP 14 0] (eH 15 14 13 (.seq (.block 1 (aa [b9 16 4 12 14,a1 17 4 16,c9 6 dj,bM 4 6 17] (aa [a1 18 4 6,cE 19 79 18,cn 20 19] (aS 20 (aa [a8 4 false] .ret) .skip)))) (.region [aT 21 .add 14 1,I 14 21])))) (aa [aC 23 0 1 2,av 24 1 23,I 25 1,bY 26 86 24 25,I 22 26,cD 27 0 22,cD 28 1 22,I 7 27,I 8 28] (aa [I 29 8,I 30 29,ao 30 true (fi 31 1 5 2),ao 30 true (a1 32 5 31),b4 30 true 33 7,ao 30 true (bY 34 80 32 33),dx 35 30 34,I 4 35] .ret)))))
@[simp] def Eu:List bN:=[.tmp 4]
def zX:C:=(aa [cO 2 0,a8 4 false] (.seq (aa [a1 7 6 2,cE 8 24 7,cn 9 8,I 10 9,b4 10 false 11 1,ao 10 false (cE 12 68 11),ao 10 false (cn 13 12),cZ 14 10 13] (aS 14 (aa [a8 4 false] .ret) .skip)) (aa [aC 16 0 1 2,av 17 1 16,I 18 1,bY 19 88 17 18,I 15 19,cD 20 0 15,cD 21 1 15,I 5 20,I 6 21] (.seq (.drawn false 30 [I 22 6,I 23 22,ao 23 true (fi 24 1 5 2),ao 23 true (a1 25 5 24),b4 23 true 26 5,ao 23 true (cE 27 89 26),ao 23 true (bY 28 84 25 27),dx 29 23 28,I 4 29]) .ret))))
@[simp] def am6:List bN:=[.tmp 4]
def J2:C:=(aa [ep 4 5,a8 5 false] (aa [fj 9 5 61 [],I 6 9] (aa [I 10 0,b2 11 10,I 12 1,b2 13 12,bh 14 .eql 11 13,I 7 14] (.seq (.seq (.fg false 6 (.region [bP 8 0])) (.block 0 (.loop (.seq (aa [I 15 8,I 16 0,b2 17 16,bh 18 .lss 15 17,I 19 18,b4 19 true 20 7,dx 21 19 20] (aS 21 .skip (.exit 0))) (.seq (.block 1 (.drawn true 44 [I 25 0,I 26 8,b9 27 4 25 26,a1 28 4 27,I 29 1,I 30 8,b9 31 4 29 30,a1 32 4 31,I 33 6,dL 34 173 [.t 28,.t 32,.t 33],I 24 34,cD 35 0 24,cD 36 1 24,I 6 35,I 7 36])) (.region [I 22 8,aT 23 .add 22 1,I 8 23])))))) (aa [I 37 6,I 38 7,I 39 38,b4 39 true 40 6,ao 39 true (b2 41 40),ao 39 true (aT 42 .leq 41 400),dx 43 39 42,I 4 37,I 5 43] .ret)))))
@[simp] def NY:List bN:=[.tmp 4,.tmp 5]
def FC:C:=(aa [b5 4 (.mov (.c (.junk))),a8 5 false] (aa [cN (.mkmap 8 (some 867)),I 6 8] (.seq (aa [I 9 0,b2 10 9,I 11 1,b2 12 11,bh 13 .neq 10 12] (aS 13 (aa [b5 4 (.mov (.c (.junk))),a8 5 false] .ret) .skip)) (.seq (aa [I 14 0,b2 15 14,bP 16 0] (eH 17 16 15 (.seq (.block 1 (aa [I 18 16,I 7 18] (.seq (.drawn false 32 [I 19 0,I 20 7,b9 21 4 19 20,a1 22 4 21,I 23 1,I 24 7,b9 25 4 23 24,a1 26 4 25,I 27 6,dL 28 174 [.t 22,.t 26,.t 27],cn 29 28]) (aS 29 (aa [b5 4 (.mov (.c (.junk))),a8 5 false] .ret) .skip)))) (.region [aT 30 .add 16 1,I 16 30])))) (aa [I 31 6,I 4 31,a8 5 true] .ret)))))
@[simp] def XY:List bN:=[.tmp 4,.tmp 5]
def Q6:C:=(aa [ep 2 5] (aa [cN (.bslm 6 (some 868) 5 61 []),I 3 6] (.seq (aa [I 7 0,cN (.range 8 none (.t 7))] (.block 0 (.loop (aa [⟨none,.next 9 (.t 8)⟩,cD 10 0 9] (.seq (aS 10 .skip (.exit 0)) (.block 1 (aa [b5 11 (.ment (.t 8)),cD 12 0 11,cD 13 1 11,c9 5 dj,I 4 12,bM 4 5 13] (.region [I 14 3,I 15 4,a1 16 4 5,j5 17 iA [(0,1,(.t 15)),(1,4,(.t 16))],fj 18 5 61 [.t 17],cN (.appm 19 none 5 61 (.t 14) (.t 18)),I 3 19])))))))) (aa [I 20 3,cE 21 175 20] (.seq (.pub 3 (.region [I 22 3,I 2 22])) .ret)))))
@[simp] def X7:List bN:=[.tmp 2]
def ql:C:=(aa [cO 3 0,cO 4 1,ep 6 5,a8 7 false] (.seq (aa [aC 13 0 1 3,av 14 1 13,aT 15 .eql 14 1] (aS 15 (aa [I 17 2,aC 18 1 1 3,av 19 1 18,bY 20 161 17 19,I 16 20,cD 21 0 16,cD 22 1 16,c9 8 dj,bM 4 8 21,I 9 22] (.seq (aa [I 23 9] (aS 23 (aa [I 24 2,a1 25 4 8,a1 26 4 4,bY 27 167 25 26,I 6 24,I 7 27] .ret) .skip)) (aa [I 28 2,aC 29 1 1 3,av 30 1 29,a1 31 4 4,j5 32 iA [(0,1,(.t 30)),(1,4,(.t 31))],bY 33 234 28 32,I 6 33,a8 7 true] .ret))) .skip)) (.seq (aa [aC 34 0 1 3,av 35 1 34,aC 36 0 1 4,av 37 1 36,bh 38 .neq 35 37,I 39 38,ao 39 false (aC 40 1 1 3),ao 39 false (av 41 1 40),ao 39 false (aC 42 1 1 4),ao 39 false (av 43 1 42),ao 39 false (bh 44 .neq 41 43),cZ 45 39 44,I 46 45,ao 46 false (aC 47 2 1 3),ao 46 false (av 48 1 47),ao 46 false (aC 49 2 1 4),ao 46 false (av 50 1 49),ao 46 false (bh 51 .neq 48 50),cZ 52 46 51] (aS 52 (aa [ep 6 5,a8 7 false] .ret) .skip)) (aa [a8 10 true] (.seq (aa [aC 53 3 1 3,av 54 1 53,b2 55 54,bP 56 0] (eH 57 56 55 (.seq (.block 1 (aa [I 58 56,b9 59 4 54 56,a1 60 4 59,c9 12 dj,I 11 58,bM 4 12 60] (.seq (.drawn true 76 [a1 62 4 12,aC 63 3 1 4,av 64 1 63,I 65 11,b9 66 4 64 65,a1 67 4 66,I 68 2,dL 69 173 [.t 62,.t 67,.t 68],I 61 69,cD 70 0 61,cD 71 1 61,I 2 70,I 10 71]) (aa [I 72 10,cn 73 72] (aS 73 (aa [ep 6 5,a8 7 false] .ret) .skip))))) (.region [aT 74 .add 56 1,I 56 74])))) (aa [I 75 2,I 6 75,a8 7 true] .ret))))))
@[simp] def aoa:List bN:=[.tmp 6,.tmp 7]
def zZ:C:=(aa [cO 3 0,cO 4 1,a8 6 false] (.seq (aa [aC 9 0 1 3,av 10 1 9,aT 11 .eql 10 1] (aS 11 (.seq (aa [I 13 2,aC 14 1 1 3,av 15 1 14,b5 16 (.mget .i (.agg dj) true (.t 13) (.t 15)),I 12 16,cD 17 0 12,cD 18 1 12,c9 7 dj,bM 4 7 17,I 8 18] (aa [I 19 8] (aS 19 (aa [a1 20 4 7,a1 21 4 4,bY 22 108 20 21,I 6 22] .ret) .skip))) (aa [I 23 2,aC 24 1 1 3,av 25 1 24,a1 26 4 4,cN (.mput .i (.t 23) (.t 25) (.t 26))] (aa [a8 6 true] .ret))) .skip)) (.seq (aa [aC 27 0 1 3,av 28 1 27,aC 29 0 1 4,av 30 1 29,bh 31 .neq 28 30,I 32 31,ao 32 false (aC 33 1 1 3),ao 32 false (av 34 1 33),ao 32 false (aC 35 1 1 4),ao 32 false (av 36 1 35),ao 32 false (bh 37 .neq 34 36),cZ 38 32 37,I 39 38,ao 39 false (aC 40 2 1 3),ao 39 false (av 41 1 40),ao 39 false (aC 42 2 1 4),ao 39 false (av 43 1 42),ao 39 false (bh 44 .neq 41 43),cZ 45 39 44] (aS 45 (aa [a8 6 false] .ret) .skip)) (.seq (.drawn false 73 [aC 46 0 1 3,av 47 1 46,aT 48 .neq 47 4,I 49 48,ao 49 false (aC 50 3 1 3),ao 49 false (av 51 1 50),ao 49 false (iO 52 4 51 0),ao 49 false (a1 53 4 52),ao 49 false (aC 54 3 1 4),ao 49 false (av 55 1 54),ao 49 false (iO 56 4 55 0),ao 49 false (a1 57 4 56),b4 49 false 58 2,ao 49 false (dL 59 174 [.t 53,.t 57,.t 58]),b4 49 false 60 59,ao 60 true (aC 61 3 1 3),ao 60 true (av 62 1 61),ao 60 true (iO 63 4 62 1),ao 60 true (a1 64 4 63),ao 60 true (aC 65 3 1 4),ao 60 true (av 66 1 65),ao 60 true (iO 67 4 66 1),ao 60 true (a1 68 4 67),b4 60 true 69 2,ao 60 true (dL 70 174 [.t 64,.t 68,.t 69]),ao 49 false (dx 71 60 70),cZ 72 49 71,I 6 72]) .ret))))
@[simp] def zj:List bN:=[.tmp 6]
def Q3:C:=(aa [cN (.box 1 (some 307) (.t 0))] (.region [av 2 1 1,b5 3 (.mkif 23 (.t 2)),b5 4 (.mkf 235 [.t 1]),bY 5 126 3 4]))
@[simp] def X4:List bN:=[]
def Q4:C:=(aa [a8 5 false] (.seq (.drawn true 17 [av 6 1 2,I 7 0,b9 8 5 6 7,aC 9 0 1 8,av 10 1 9,av 11 1 2,I 12 1,b9 13 5 11 12,aC 14 0 1 13,av 15 1 14,bh 16 .lss 10 15,I 5 16]) .ret))
@[simp] def X5:List bN:=[.tmp 5]
def sX:List (Nat×dH):=[
 (3,⟨1,8,.int .i64,.int .i64 0⟩),
 (4,⟨1,1,.bool,.bool false⟩),
 (9,⟨1,16,.str,.str []⟩),
 (23,⟨1,24,.slice 61,.slice 5 .nil []⟩),
 (24,⟨1,24,.slice 23,.slice 1 .nil []⟩),
 (25,⟨1,24,.slice 104,.slice 2 .nil []⟩),
 (26,⟨1,24,.slice 106,.slice 2 .nil []⟩),
 (28,⟨5,104,.struct [(0,3),(1,23),(2,24),(3,25),(4,26)],.agg [.int .i64 0,.slice 5 .nil [],.slice 1 .nil [],.slice 2 .nil [],.slice 2 .nil []]⟩),
 (30,⟨1,24,.slice 32,.slice 4 .nil []⟩),
 (32,⟨4,56,.struct [(0,3),(1,3),(2,9),(3,30)],.agg [.int .i64 0,.int .i64 0,.str [],.slice 4 .nil []]⟩),
 (49,⟨5,104,.struct [(0,3),(1,44),(2,45),(3,46),(4,47)],.agg [.int .i64 0,.slice 5 .nil [],.slice 1 .nil [],.slice 2 .nil [],.slice 2 .nil []]⟩),
 (51,⟨6,128,.struct [(0,43),(1,49)],.agg [.slice 4 .nil [],.int .i64 0,.slice 5 .nil [],.slice 1 .nil [],.slice 2 .nil [],.slice 2 .nil []]⟩),
 (55,⟨6,128,.struct [(0,30),(1,28)],.agg [.slice 4 .nil [],.int .i64 0,.slice 5 .nil [],.slice 1 .nil [],.slice 2 .nil [],.slice 2 .nil []]⟩),
 (61,⟨5,64,.struct [(0,3),(1,32)],.agg [.int .i64 0,.int .i64 0,.int .i64 0,.str [],.slice 4 .nil []]⟩),
 (104,⟨2,16,.struct [(0,3),(1,3)],.agg [.int .i64 0,.int .i64 0]⟩),
 (106,⟨2,24,.struct [(0,3),(1,9)],.agg [.int .i64 0,.str []]⟩),
 (127,⟨1,8,.map 3 32,.junk⟩)]
theorem hO:fS ak sX=true:=by kernel_rfl
theorem M8:bU sX FF X8 2 kW=true:=by kernel_rfl
theorem Kx:ak.funcs[(7:Nat)]? =some kW:=Tryz.func7
theorem Xf:bU sX JY Eu 2 Tryz.f33=true:=by kernel_rfl
theorem To:ak.funcs[(33:Nat)]? =some Tryz.f33:=Tryz.func33
theorem D9:bU sX zX am6 2 Tryz.f35=true:=by kernel_rfl
theorem CH:ak.funcs[(35:Nat)]? =some Tryz.f35:=Tryz.func35
theorem Xj:bU sX J2 NY 2 Tryz.f86=true:=by kernel_rfl
theorem Ts:ak.funcs[(86:Nat)]? =some Tryz.f86:=Tryz.func86
theorem M5:bU sX FC XY 2 Tryz.f88=true:=by kernel_rfl
theorem Ku:ak.funcs[(88:Nat)]? =some Tryz.f88:=Tryz.func88
theorem als:bU sX Q6 X7 1 Tryz.f89=true:=by kernel_rfl
theorem aer:ak.funcs[(89:Nat)]? =some Tryz.f89:=Tryz.func89
theorem rq:bU sX ql aoa 3 Tryz.f173=true:=by kernel_rfl
theorem q4:ak.funcs[(173:Nat)]? =some Tryz.f173:=Tryz.func173
theorem Eb:bU sX zZ zj 3 Tryz.f174=true:=by kernel_rfl
theorem CJ:ak.funcs[(174:Nat)]? =some Tryz.f174:=Tryz.func174
theorem alp:bU sX Q3 X4 1 Tryz.f175=true:=by kernel_rfl
theorem aeo:ak.funcs[(175:Nat)]? =some Tryz.f175:=Tryz.func175
theorem alq:bU sX Q4 X5 3 Tryz.f235=true:=by kernel_rfl
theorem aep:ak.funcs[(235:Nat)]? =some Tryz.f235:=Tryz.func235
def nL(l:List (Int×T)):List ai:=jZ (l.map fun x=>(x.1,x.2.e))
def j3(k:Int):List (Int×T)->ba T
 |[]=>none
 |(i,v)::r=>if k=i then some v else j3 k r
theorem PR(k:Int):∀l:List (Int×T),uO k (l.map fun x=>(x.1,x.2.e))=(j3 k l).map T.e
 |[]=>rfl
 |(i,v)::r=>by
  simp only[gS,uO,j3];split
  ·rfl
  ·exact PR k r
theorem PY(k:Int)(v:ai):∀l:List (Int×T),j3 k l=none->n3 k v (l.map fun x=>(x.1,x.2.e))=none
 |[],_=>rfl
 |(i,w)::r,h=>by
  simp only[j3]at h;split at h
  ·cases h
  ·rename_i cM;simp[n3,cM,PY k v r h]
theorem akl{k:Int}{t:T}{l:List (Int×T)}(h:j3 k l=none):ox .i (.int .i64 k) t.e (nL l)=some (nL (l++[(k,t)])):=by simp[nL,Cs,PY k _ l h]
theorem WG{f:aI->ba (List ai)}{m:aI}{l:List (Int×T)}{z:ai}{k:Int}(hm:f m=some (nL l)):nM f .i z true (.gmap m) (.int .i64 k)=some (True,.tuple [((j3 k l).map T.e).getD z,.bool (j3 k l).isSome]):=by rw[WE f m _ z true k hm,PR];cases j3 k l<;>rfl
@[simp]theorem at3:nL []=jZ []:=rfl
@[simp]theorem auF(m:aI)(l:List (Int×T)):xt m (nL l)=some (b7 l.length [] m):=by simp[nL]
@[simp]theorem auw(l:List (Int×T)):gG (nL l)=false:=rfl
theorem ajZ(f:aI->ba (List ai))(eR mk:aI)(n:Nat)(seen:List Nat)(b:Nat)(l:List (Int×T))(x:Int×T)(hi:f eR=some (b7 n (seen++[b]) mk))(hm:f mk=some (nL l))(ax:n=l.length)(af:l[b]? =some x):ov f (.ptr eR 0)=some (True,.tuple [.int .i64 x.1,x.2.e]):=by rw[MG f eR mk n seen b _ hi hm (by simpa using ax)];simp[af]
theorem acJ{st:br}{d:Nat}{K:br->Prop}{eR mk:aI}{n:Nat}{seen:List Nat}{l:List (Int×T)}(hi:Pv.look eR st.b=some (b7 n seen mk))(hm:Pv.look mk st.b=some (nL l))(ax:n=l.length)
  (J:(∀b,b<l.length->b∈seen)->K {st with t:=Pv.put d (.tuple [.bool false]) st.t}) (U:∀b x,l[b]? =some x->b∉seen->K {st with t:=Pv.put d (.tuple [.bool true,.int .i64 x.1,x.2.e]) st.t,b:=cA eR (b7 n (seen++[b]) mk) st.b}):
  r3 st d (.ptr eR 0) K:=by
 refine Kl hi hm (by simpa using ax) (fun h=>J fun b ab=>h b Ω) (fun b k v ab ag=>?_);simp only[qP,ha]at ab;obtain⟨x,al,aE⟩:=ab;simp only[jB]at aE;obtain⟨rfl,rfl⟩:=aE;exact U b x al ag
def fR:T->T->List (Int×T)->Bool×List (Int×T)
 | .var n,t,m=>match j3 n m with
  |some x=>(decide (x=t),m)
  |none=>(true,m++[(n,t)])
 | .pair a b,.pair c d,m=>if(fR a c m).1 then fR b d (fR a c m).2 else(false,(fR a c m).2)
 |p,t,m=>(decide (p=t),m)
theorem mr(S:aI->Prop)(l:List (Int×T)):aH S (nL l):=by
 have:∀l:List (Int×T),aH S (jO (l.map fun x=>(x.1,x.2.e))):=by
  intro l;induction l with
  |nil=>simp[jO,aH]
  |cons x r bR=>simp[jO,aH,bR]
 simp[nL,jZ,aH,this,aD]
def gb(n:Nat)(l:List (Int×T)):cH:=⟨[(.obj n,nL l)],[]⟩
theorem lL(n:Nat)(l:List (Int×T)):dN (gb n l):=by unfold gb;exact dN.of ⟨by intro m;simp[Pv.look],by intro m;simp[Pv.look]⟩ (by simp[mr]) Ψ
theorem uK(n:Nat)(l aZ:List (Int×T)):Same (gb n l) (gb n aZ):=by refine⟨fun k=>?_,fun k=>rfl⟩;simp only[gb,Pv.look];split<;>rfl
theorem TQ(K:Nat)(p:T):∀(t:T) (m:List (Int×T)),bH ak 174 [p.e,t.e,.gmap (.obj K)] (gb K m) fun r ah=>r= .bool (fR p t m).1/\ah=gb K (fR p t m).2:=by
 induction p with
 |var n=>
  intro t m;have ag:=lL K m;cases ar:j3 n m with
  |some x=>unfold gb at ag⊢;refine bH.mk mixed hO CJ Eb Ψ ag.obj fun aK cB=>?_;unfold zZ;simp[WG (m:= .obj K) (l:=m),ar];(with_reducible repeat' first|((first|apply bS|apply bW|apply bV)<;>intro h<;>try simp at h)|refine aj ?_|refine aF (ps _ _) ?_|refine aG (ps _ _) ?_|simp);refine cF.at _ (.inl rfl) ag (Same.refl _) aL aL ?_;simp[cL,zj,aX,aY,aW];simp[fR,ar]
  |none=>have ei:=lL K (m++[(n,t)]);have dG:=uK K m (m++[(n,t)]);unfold gb at ag ei dG⊢;refine bH.mk mixed hO CJ Eb Ψ ag.obj fun aK cB=>?_;unfold zZ;simp[WG (m:= .obj K) (l:=m),ar,akl ar];(with_reducible repeat' first|((first|apply bS|apply bW|apply bV)<;>intro h<;>try simp at h)|refine aj ?_|simp);refine cF.at _ (.inl rfl) ei dG aL aL ?_;simp[cL,zj,aX,aY,aW];simp[fR,ar]
 |pair a b ds dv=>
  intro t m;have ag:=lL K m;cases t with
  |pair c d=>
   unfold gb at ag⊢;refine bH.mk mixed hO CJ Eb Ψ ag.obj fun aK cB=>?_;unfold zZ;simp;(with_reducible repeat' first|((first|apply bS|apply bW|apply bV)<;>intro h<;>try simp at h)|refine aj ?_|simp);refine hn.ob (ds c m) (lL K m) (lL K _) (uK K _ _) (by unfold gb;exact aL) (by unfold gb;exact aL) (by simp[inObs,gb]) ?_;unfold gb;simp[cl];(with_reducible repeat' first|((first|apply bS|apply bW|apply bV)<;>intro h<;>try simp at h)|refine aj ?_|simp)
   ·refine hn.ob (dv d (fR a c m).2) (lL K _) (lL K _) (uK K _ _) (by unfold gb;exact aL) (by unfold gb;exact aL) (by simp[inObs,gb]) ?_;unfold gb;simp[cl];have ei:=lL K (fR b d (fR a c m).2).2;have dG:=uK K m (fR b d (fR a c m).2).2;unfold gb at ei dG;refine cF.at _ (.inl rfl) ei dG aL aL ?_;simp[cL,zj,aX,aY,aW];simp[fR,h]
   ·have ei:=lL K (fR a c m).2;have dG:=uK K m (fR a c m).2;unfold gb at ei dG;refine cF.at _ (.inl rfl) ei dG aL aL ?_;simp[cL,zj,aX,aY,aW];simp[fR,h]
  |_=>unfold gb at ag⊢;refine bH.mk mixed hO CJ Eb Ψ ag.obj fun aK cB=>?_;unfold zZ;simp;(with_reducible repeat' first|((first|apply bS|apply bW|apply bV)<;>intro h<;>try simp at h)|refine aj ?_|simp);refine cF.at _ (.inl rfl) ag (Same.refl _) aL aL ?_;simp[cL,zj,aX,aY,aW];simp[fR]
 |_=>
  intro t m;have ag:=lL K m;unfold gb at ag⊢;cases t<;>
  (refine bH.mk mixed hO CJ Eb Ψ ag.obj fun aK cB=>?_;unfold zZ
   simp
   (with_reducible repeat' first|((first|apply bS|apply bW|apply bV)<;>intro h<;>try simp at h)|refine aj ?_|simp)
   all_goals refine cF.at _ (.inl rfl) ag (Same.refl _) aL aL ?_
   all_goals simp[cL,zj,aX,aY,aW]
   all_goals simp_all[fR])
def YU(x:Int×T):Bool:= !(decide (x.2= .var x.1))
end
end Go.Proofs.YtohaalphocaebaaGreat
namespace Go.Proofs
section
open Go.Shelf
def Tryz.lays191_ren:Go.Shelf.Ren:=⟨fun|191=>242|189=>272|125=>209|257=>283|128=>258|129=>259|294=>286|295=>287|296=>288|297=>289|298=>290|299=>291|216=>292|300=>293|301=>294|328=>296|329=>297|330=>298|331=>299|332=>300|215=>301|343=>302|n=>n,fun|28=>112|0=>0|3=>3|46=>163|51=>254|53=>256|4=>4|183=>277|182=>276|131=>246|5=>5|9=>9|218=>282|222=>269|228=>285|229=>273|n=>n,fun|n=>n⟩
theorem Tryz.lays191:Go.Proofs.Lays.n191 ak Tryz.lays191_ren:={
 mixed:=by kernel_rfl
 f125:=Tryz.func209.trans (e2 some (by kernel_rfl))
 f128:=Tryz.func258.trans (e2 some (by kernel_rfl))
 f129:=Tryz.func259.trans (e2 some (by kernel_rfl))
 f189:=Tryz.func272.trans (e2 some (by kernel_rfl))
 f191:=Tryz.func242.trans (e2 some (by kernel_rfl))
 f215:=Tryz.func301.trans (e2 some (by kernel_rfl))
 f216:=Tryz.func292.trans (e2 some (by kernel_rfl))
 f257:=Tryz.func283.trans (e2 some (by kernel_rfl))
 f294:=Tryz.func286.trans (e2 some (by kernel_rfl))
 f295:=Tryz.func287.trans (e2 some (by kernel_rfl))
 f296:=Tryz.func288.trans (e2 some (by kernel_rfl))
 f297:=Tryz.func289.trans (e2 some (by kernel_rfl))
 f298:=Tryz.func290.trans (e2 some (by kernel_rfl))
 f299:=Tryz.func291.trans (e2 some (by kernel_rfl))
 f300:=Tryz.func293.trans (e2 some (by kernel_rfl))
 f301:=Tryz.func294.trans (e2 some (by kernel_rfl))
 f328:=Tryz.func296.trans (e2 some (by kernel_rfl))
 f329:=Tryz.func297.trans (e2 some (by kernel_rfl))
 f330:=Tryz.func298.trans (e2 some (by kernel_rfl))
 f331:=Tryz.func299.trans (e2 some (by kernel_rfl))
 f332:=Tryz.func300.trans (e2 some (by kernel_rfl))
 f343:=Tryz.func302.trans (e2 some (by kernel_rfl))
 t0:=Tryz.underlying0
 a0:=Tryz.isAgg0
 z0:=Tryz.sizeOf0
 v0:=Tryz.zeroValue0
 t3:=Tryz.underlying3
 a3:=Tryz.isAgg3
 z3:=Tryz.sizeOf3
 v3:=Tryz.zeroValue3
 t4:=Tryz.underlying4
 a4:=Tryz.isAgg4
 z4:=Tryz.sizeOf4
 v4:=Tryz.zeroValue4
 t5:=Tryz.underlying5
 a5:=Tryz.isAgg5
 z5:=Tryz.sizeOf5
 v5:=Tryz.zeroValue5
 t9:=Tryz.underlying9
 a9:=Tryz.isAgg9
 z9:=Tryz.sizeOf9
 v9:=Tryz.zeroValue9
 t28:=Tryz.underlying112
 a28:=Tryz.isAgg112
 z28:=Tryz.sizeOf112
 v28:=Tryz.zeroValue112
 t46:=Tryz.underlying163
 a46:=Tryz.isAgg163
 z46:=Tryz.sizeOf163
 v46:=Tryz.zeroValue163
 t51:=Tryz.underlying254
 a51:=Tryz.isAgg254
 z51:=Tryz.sizeOf254
 v51:=Tryz.zeroValue254
 t53:=Tryz.underlying256
 a53:=Tryz.isAgg256
 z53:=Tryz.sizeOf256
 v53:=Tryz.zeroValue256
 t131:=Tryz.underlying246
 a131:=Tryz.isAgg246
 z131:=Tryz.sizeOf246
 v131:=Tryz.zeroValue246
 t182:=Tryz.underlying276
 a182:=Tryz.isAgg276
 z182:=Tryz.sizeOf276
 v182:=Tryz.zeroValue276
 t183:=Tryz.underlying277
 a183:=Tryz.isAgg277
 z183:=Tryz.sizeOf277
 v183:=Tryz.zeroValue277
 t218:=Tryz.underlying282
 a218:=Tryz.isAgg282
 z218:=Tryz.sizeOf282
 v218:=Tryz.zeroValue282
 t222:=Tryz.underlying269
 a222:=Tryz.isAgg269
 z222:=Tryz.sizeOf269
 v222:=Tryz.zeroValue269
 t228:=Tryz.underlying285
 a228:=Tryz.isAgg285
 z228:=Tryz.sizeOf285
 v228:=Tryz.zeroValue285
 t229:=Tryz.underlying273
 a229:=Tryz.isAgg273
 z229:=Tryz.sizeOf273
 v229:=Tryz.zeroValue273}
end
end Go.Proofs

namespace Go.Proofs.YtohaalphocaebaaGreat
section
open Go Go.Pv
def dF(xs:List Int):List ai:=xs.map (ai.int .i64)
theorem YC{w:World}{ν:bg}:∀{xs:List Int} {us:List Value},dK w ν 1 (dF xs) us->us=xs.map (Value.int .i64)
 |[],us,h=>by simpa[dF,dK]using h
 |x::xs,us,h=>by simp only[dF,gS,dK]at h;obtain⟨u,ct,rfl,⟨J,_,_⟩,U⟩:=h;simp only[bd]at J;subst J;rw[YC U];rfl
theorem Vr(w:World)(ν:bg):∀xs:List Int,dK w ν 1 (dF xs) (xs.map (Value.int .i64))
 |[]=>by simp[dF,dK]
 |x::xs=>by simp only[dF,gS,dK];exact⟨.int .i64 x,_,rfl,⟨by simp[bd],rfl,by intro c aw;simp[pB]at aw;subst aw;rfl⟩,Vr w ν xs⟩
def nn(K:Nat)(xs:List Int):cH:=⟨[],[(.obj K,⟨xs.length,3,1,some (dF xs)⟩)]⟩
theorem tW(S:aI->Prop)(xs:List Int):aH S (dF xs):=by
 induction xs with
 |nil=>simp[dF,aH]
 |cons x r bR=>simp only[dF,gS,aH,aD];exact⟨trivial,bR⟩
theorem Jd(K:Nat)(xs:List Int):dN (nn K xs):=by unfold nn;refine dN.of ⟨by intro m;simp[Pv.look],by intro m;simp[Pv.look]⟩ Ψ ?_;intro x af ys aO;simp at af;subst af;simp at aO;subst aO;exact tW _ xs
def rE(xs:List Int):List Int:=xs.mergeSort fun x y=>decide (x<=y)
theorem Y2(xs:List Int):(rE xs).length=xs.length:=List.length_mergeSort xs
theorem agK(K:Nat)(xs:List Int)(ar:xs.length<=1000000):bH ak 242 [.row 1 (.obj K) xs.length] (nn K xs) fun r ah=>r= .tuple []/\ah=nn K (rE xs):=by
 refine bH.sem (Jd K xs).obj fun w ν bf k5 aM=>?_;refine .inl ⟨⟨Tryz.f242,Tryz.func242,by kernel_rfl,by kernel_rfl⟩,?_⟩;have ss:=aM.slot 0;simp only[kA,Pv.get,if_true]at ss;have k3:Pv.look (.obj K) (nn K xs).e=some ⟨xs.length,3,1,some (dF xs)⟩:=by simp[nn,Pv.look]
 obtain⟨v,us,bc,bE,b1,c5⟩:=aM.good.own (.obj K) _ k3;obtain⟨df,oy,vH⟩:=c5 _ rfl;have rj:=YC oy;subst rj;simp only[bd]at ss;obtain⟨⟨arA,abG,wC⟩,_,n',u,al,aE,bn⟩:=ss;rw[bc]at al;simp only[dQ,jB]at al;obtain⟨rfl,rfl⟩:=al;have aB:=bn rfl;have aiC:bf= #[v]:=by
  have J:bf.size=1:=by simpa using k5
  apply Array.ext (by simpa using J);intro i U au;simp at au;subst au;rw[<-aB];simp[Array.getD,J]
 have cM:v≠ .slice none 0 0:=by rw[<-aB,wC];simp
 obtain⟨g,cap,rfl,_,ra,si,ahC,Da,C0⟩:=Lib.holds_of_ownsRow bE cM;have aw:=Any.sort_Ints Tryz.lays191 g 0 cap xs w C0 ra Ω;subst aiC;refine aw.mono ?_;rintro e w' ⟨rfl,n,os,rfl⟩;have p2:=Y2 xs;have lT:=Lib.ownsRow_putRow (q:=n) (k:=xs.length) (ys:=rE xs) bE p2 (e7 _);rw[hQ Ω]at lT;obtain⟨cV,dC,_⟩:=aM.setRowM (w':=Sort.putRow (Value.int .i64) (Sort.ahead w n) g 0 (rE xs).toArray) k3 rfl bc (bl:=g) rfl (v':= .slice (some ⟨g,0,none⟩) xs.length cap) rfl (xs':=dF (rE xs)) (us:=(rE xs).map (Value.int .i64)) (.inl ⟨by simp[dF,p2],rfl⟩) rfl rfl rfl
  (fun j ae=>by simp[Sort.putRow,Sort.mapBlock,Sort.ahead,Array.getElem?_modify,ld ae]) (by simp[Sort.putRow,Sort.mapBlock,Sort.ahead]) (by simpa[dF,p2]using lT) (Vr _ _ _)
 have jg:=cV.grown (w':=Sort.grow (Sort.putRow (Value.int .i64) (Sort.ahead w n) g 0 (rE xs).toArray) os) ⟨rfl,rfl,rfl,Ψ,fun k ad _=>Sort.heap_grow_old _ _ ad⟩;refine⟨_,_,_,_,.tuple [],nn K (rE xs),rfl,jg,by simp[bd,cW],by simp[nn,l0],?_,?_,?_,(Jd K _).obj,by simp[aD,aH],rfl,rfl⟩
 ·simp[nn,l0,inObs,Pv.look]
 ·intro k cs ad;simp[nn,Pv.look]at ad
 ·intro k o ad;have hm:=tY ad;simp[nn]at hm;obtain⟨rfl,rfl⟩:=hm;refine⟨by simp[nn,Pv.look,cA,dF,p2],.inr (by simp[ad]),fun ys aO=>?_⟩;simp at aO;subst aO;exact tW _ _
def oU(l:List Int):List ai:=jZ (l.map fun x=>(x,.bool true))
theorem mU(S:aI->Prop)(l:List Int):aH S (oU l):=by
 have:∀l:List Int,aH S (jO (l.map fun x=>(x,.bool true))):=by
  intro l;induction l with
  |nil=>simp[jO,aH]
  |cons x r bR=>simp[jO,aH,bR,aD]
 simp[oU,jZ,aH,this,aD]
def pJ(v:Int)(l:List Int):List Int:=if v∈l then l else l++[v]
theorem PW(k:Int):∀l:List Int,n3 k (.bool true) (l.map fun x=>(x,ai.bool true))=if k∈l then some (l.map fun x=>(x,ai.bool true))else none
 |[]=>rfl
 |i::r=>by
  by_cases h:k=i
  ·simp[n3,h]
  ·by_cases U:k∈r<;>simp[n3,h,U,PW k r]
@[simp]theorem auj(k:Int)(l:List Int):ox .i (.int .i64 k) (.bool true) (oU l)=some (oU (pJ k l)):=by
 simp only[oU,WQ,Cs,PW,pJ];split<;>rename_i h
 ·split at h
  ·simp at h;subst h;simp[*]
  ·cases h
 ·split at h
  ·cases h
  ·simp[*]
@[simp]theorem arB:oU []=jZ []:=rfl
@[simp]theorem auu(l:List Int):gG (oU l)=false:=rfl
@[simp]theorem auE(m:aI)(l:List Int):xt m (oU l)=some (b7 l.length [] m):=by simp[oU]
theorem ajX(f:aI->ba (List ai))(eR mk:aI)(n:Nat)(seen:List Nat)(b:Nat)(l:List Int)(x:Int)(hi:f eR=some (b7 n (seen++[b]) mk))(hm:f mk=some (oU l))(ax:n=l.length)(af:l[b]? =some x):ov f (.ptr eR 0)=some (True,.tuple [.int .i64 x,.bool true]):=by rw[MG f eR mk n seen b _ hi hm (by simpa using ax)];simp[af]
theorem acI{st:br}{d:Nat}{K:br->Prop}{eR mk:aI}{n:Nat}{seen:List Nat}{l:List Int}(hi:Pv.look eR st.b=some (b7 n seen mk))(hm:Pv.look mk st.b=some (oU l))(ax:n=l.length)
  (J:(∀b,b<l.length->b∈seen)->K {st with t:=Pv.put d (.tuple [.bool false]) st.t}) (U:∀b x,l[b]? =some x->b∉seen->K {st with t:=Pv.put d (.tuple [.bool true,.int .i64 x,.bool true]) st.t,b:=cA eR (b7 n (seen++[b]) mk) st.b}):
  r3 st d (.ptr eR 0) K:=by
 refine Kl hi hm (by simpa using ax) (fun h=>J fun b ab=>h b Ω) (fun b k v ab ag=>?_);simp only[qP,ha]at ab;obtain⟨x,al,aE⟩:=ab;simp only[jB]at aE;obtain⟨rfl,rfl⟩:=aE;exact U b x al ag
def _root_.Go.Pv.T.fold{α:Type}(f:Int->α->α):T->α->α
 | .var n,a=>f n a
 | .pair x y,a=>y.fold f (x.fold f a)
 |_,a=>a
theorem KP{α:Type}(S:α->cH)(dr:∀a,dN (S a))(dG:∀a b,Same (S a) (S b))(g:Nat)(dg:List ai)(aw:∀a,aH (inObs (S a)) dg)(cR:c2 dg=dg)(f:Int->α->α)(aJ:∀v a,bH ak g (.int .i64 v::dg) (S a) fun r ah=>r= .tuple []/\ah=S (f v a))(t:T):
  ∀a,bH ak 129 [t.e,.func g dg] (S a) fun r ah=>r= .tuple []/\ah=S (t.fold f a):=by
 have ax:∀a m,Pv.look (.loc m) (S a).b=none:=fun a=>(dr a).obj.1;have hu:∀a m cs,cA (.loc m) cs (S a).b=(S a).b++[(.loc m,cs)]:=fun a m cs=>j4 (ax a m);have ay:∀a m,aI.loc m∉c1 (S a):=fun a=>jY (dr a).obj;induction t with
 |pair x y lx mO=>intro a;have ag:=dr a;refine bH.mk mixed fy u1 vC Ψ ag.obj fun aK cB=>?_;unfold tp;simp[hu,ay,cK,ax,cR];(with_reducible repeat' first|refine aj ?_|simp[hu,ay,cK,ax]);refine cT.ob (lx a) ag aL aL (by simp[aw]) ?_;rintro r ah ⟨rfl,rfl⟩;refine⟨dG _ _,?_⟩;simp[gR,ia,cl,ax];(with_reducible repeat' first|refine aj ?_|simp[hu,ay,cK,ax]);rw[cR];refine cT.ob (mO (x.fold f a)) (dr (x.fold f a)) aL aL (by simp[aw]) ?_;rintro r ah ⟨rfl,rfl⟩;refine⟨dG _ _,?_⟩;simp[gR,ia,cl,ax];refine cF.at (S (y.fold f (x.fold f a))) (.inr rfl) (dr _) (dG _ _) aL aL ?_;simp[cL,ug,aX,aY,aW];simp[T.fold]
 |var n=>intro a;have ag:=dr a;refine bH.mk mixed fy u1 vC Ψ ag.obj fun aK cB=>?_;unfold tp;simp[hu,ay,cK,ax,cR];(with_reducible repeat' first|refine aj ?_|simp[hu,ay,cK,ax]);refine cT.ob (aJ n a) ag aL aL (by simp[aw]) ?_;rintro r ah ⟨rfl,rfl⟩;refine⟨dG _ _,?_⟩;simp[gR,ia,cl,ax,cK];refine cF.at (S (f n a)) (.inr rfl) (dr _) (dG _ _) aL aL ?_;simp[cL,ug,aX,aY,aW];simp[T.fold]
 |_=>intro a;have ag:=dr a;refine bH.mk mixed fy u1 vC Ψ ag.obj fun aK cB=>?_;unfold tp;simp[hu,ay,cK,ax,cR];(with_reducible repeat' first|refine aj ?_|simp[hu,ay,cK,ax]);refine cF.at (S a) (.inr rfl) ag (Same.refl _) aL aL ?_;simp[cL,ug,aX,aY,aW];simp[T.fold]
def uI(l:List Int):cH:=⟨[(.obj 304,oU l)],[]⟩
theorem PC(l:List Int):dN (uI l):=by unfold uI;exact dN.of ⟨by intro m;simp[Pv.look],by intro m;simp[Pv.look]⟩ (by simp[mU,aH,aD,inObs,Pv.look]) Ψ
def JE:C:=(aa [cO 1 0,a8 2 false] (.seq (.seq (.fz false 1 (.region [av 6 1 1,cE 7 100 6,cn 8 7])) (aS 8 (aa [a8 2 false] .ret) .skip)) (.seq (aa [av 9 1 1,b2 10 9,bP 11 0] (eH 12 11 10 (.seq (.block 1 (aa [b9 13 5 9 11,a1 14 5 13,c9 4 iA,bM 5 4 14] (aa [cN (.alloc 5 (some 731) (.bool false)),cN (.store 1 (.t 5) (.c (.bool true)))] (aa [fi 15 1 4 4,a1 16 4 15,b5 17 (.mkf 133 [.t 1,.t 5]),bY 18 129 16 17] (aa [av 19 1 5,cn 20 19,I 21 20,ao 21 false (fi 22 1 4 4),ao 21 false (aC 23 0 1 22),ao 21 false (av 24 1 23),ao 21 false (aT 25 .eql 24 1),b4 21 false 26 25,ao 26 true (fi 27 1 4 4),ao 26 true (aC 28 1 1 27),ao 26 true (av 29 1 28),ao 26 true (aC 30 0 1 4),ao 26 true (av 31 1 30),ao 26 true (bh 32 .geq 29 31),ao 21 false (dx 33 26 32),cZ 34 21 33] (aS 34 (aa [a8 2 false] .ret) .skip)))))) (.region [aT 35 .add 11 1,I 11 35])))) (aa [a8 2 true] .ret))))
@[simp] def ana:List bN:=[.tmp 2]
def QK:C:=(aa [ep 2 5] (aa [fj 6 5 61 [],I 3 6] (.seq (aa [I 7 0,b2 8 7,bP 9 0] (eH 10 9 8 (.seq (.block 1 (aa [b9 11 5 7 9,a1 12 5 11,c9 5 iA,bM 5 5 12] (.drawn true 24 [I 13 3,aC 14 0 1 5,av 15 1 14,fi 16 1 4 5,a1 17 4 16,cE 18 200 17,j5 19 iA [(0,1,(.t 15)),(1,4,(.t 18))],fj 20 5 61 [.t 19],iP 21 5 61 13 20,I 3 21]))) (.region [aT 22 .add 9 1,I 9 22])))) (aa [I 23 3,I 2 23] .ret))))
@[simp] def anf:List bN:=[.tmp 2]
def Qp:C:=(aa [ep 4 5,a8 5 false] (.seq (aa [I 8 0,cE 9 55 8,cn 10 9,I 11 10,b4 11 false 12 1,ao 11 false (cE 13 55 12),ao 11 false (cn 14 13),cZ 15 11 14] (aS 15 (aa [ep 4 5,a8 5 false] .ret) .skip)) (aa [I 17 1,cE 18 201 17,I 16 18,cD 19 0 16,cD 20 1 16,I 6 19,I 7 20] (aa [I 21 0,I 22 6,I 23 7,dL 24 118 [.t 21,.t 22,.t 23],cD 25 0 24,cD 26 1 24,I 4 25,I 5 26] .ret))))
@[simp] def XG:List bN:=[.tmp 4,.tmp 5]
def Qu:C:=(aa [ep 4 5] (.seq (aa [I 8 0,cE 9 55 8,cn 10 9,I 11 10,b4 11 false 12 1,ao 11 false (cE 13 55 12),ao 11 false (cn 14 13),cZ 15 11 14] (aS 15 (aa [ep 4 5] .ret) .skip)) (aa [fj 16 5 61 [],I 5 16] (.seq (aa [I 17 1,b2 18 17,bP 19 0] (eH 20 19 18 (.seq (.block 1 (aa [b9 21 5 17 19,a1 22 5 21,c9 7 iA,bM 5 7 22] (aa [I 23 0,aC 24 0 1 7,av 25 1 24,bY 26 134 23 25,aT 27 .lss 26 0] (aS 27 (.drawn true 39 [I 28 5,aC 29 0 1 7,av 30 1 29,fi 31 1 4 7,a1 32 4 31,cE 33 200 32,j5 34 iA [(0,1,(.t 30)),(1,4,(.t 33))],fj 35 5 61 [.t 34],iP 36 5 61 28 35,I 5 36]) .skip)))) (.region [aT 37 .add 19 1,I 19 37])))) (aa [I 38 5,I 4 38] .ret)))))
@[simp] def am8:List bN:=[.tmp 4]
def JF:C:=(aa [av 4 1 1,I 5 0,bY 6 134 4 5,aT 7 .geq 6 0] (aS 7 (.region [cN (.store 1 (.t 2) (.c (.bool false)))]) .skip))
@[simp] def NA:List bN:=[]
def JJ:C:=(aa [a8 4 false] (.seq (aa [I 6 0,b2 7 6,I 8 1,b2 9 8,bh 10 .neq 7 9] (aS 10 (aa [a8 4 false] .ret) .skip)) (.seq (aa [I 11 0,b2 12 11,bP 13 0] (eH 14 13 12 (.seq (.block 1 (aa [I 15 13,I 5 15] (.seq (.drawn true 42 [I 16 0,I 17 5,b9 18 5 16 17,aC 19 0 1 18,av 20 1 19,I 21 1,I 22 5,b9 23 5 21 22,aC 24 0 1 23,av 25 1 24,bh 26 .neq 20 25,I 27 26,b4 27 false 28 0,b4 27 false 29 5,ao 27 false (b9 30 5 28 29),ao 27 false (fi 31 1 4 30),ao 27 false (a1 32 4 31),b4 27 false 33 1,b4 27 false 34 5,ao 27 false (b9 35 5 33 34),ao 27 false (fi 36 1 4 35),ao 27 false (a1 37 4 36),ao 27 false (bY 38 108 32 37),ao 27 false (cn 39 38),cZ 40 27 39]) (aS 40 (aa [a8 4 false] .ret) .skip)))) (.region [aT 41 .add 13 1,I 13 41])))) (aa [a8 4 true] .ret))))
@[simp] def XR:List bN:=[.tmp 4]
def QM:C:=(aa [ep 2 4,ep 3 4] (aa [fj 8 4 32 [],I 4 8] (aa [fj 9 4 32 [],I 5 9] (.seq (aa [I 10 0,b2 11 10,bP 12 0] (eH 13 12 11 (.seq (.block 1 (aa [b9 14 5 10 12,a1 15 5 14,c9 7 iA,bM 5 7 15] (aa [I 16 4,aC 17 0 1 7,av 18 1 17,cE 19 96 18,fj 20 4 32 [.t 19],iP 21 4 32 16 20,I 4 21] (.region [I 22 5,fi 23 1 4 7,a1 24 4 23,fj 25 4 32 [.t 24],iP 26 4 32 22 25,I 5 26])))) (.region [aT 27 .add 12 1,I 12 27])))) (aa [I 28 4,I 29 5,I 2 28,I 3 29] .ret)))))
@[simp] def XT:List bN:=[.tmp 2,.tmp 3]
def QU:C:=(aa [bP 4 0] (.seq (aa [bP 5 0] (.block 0 (.loop (.seq (aa [I 8 5,I 9 0,b2 10 9,bh 11 .lss 8 10,I 12 11,b4 12 true 13 5,b4 12 true 14 1,ao 12 true (b2 15 14),ao 12 true (bh 16 .lss 13 15),dx 17 12 16] (aS 17 .skip (.exit 0))) (.seq (.block 1 (.seq (.seq (.drawn true 53 [I 20 0,I 21 5,b9 22 5 20 21,aC 23 0 1 22,av 24 1 23,I 25 1,I 26 5,b9 27 5 25 26,aC 28 0 1 27,av 29 1 28,bY 30 232 24 29,I 6 30]) (aa [I 31 6,aT 32 .neq 31 0] (aS 32 (aa [I 33 6,I 4 33] .ret) .skip))) (.seq (.drawn true 53 [I 34 0,I 35 5,b9 36 5 34 35,fi 37 1 4 36,a1 38 4 37,I 39 1,I 40 5,b9 41 5 39 40,fi 42 1 4 41,a1 43 4 42,bY 44 170 38 43,I 7 44]) (aa [I 45 7,aT 46 .neq 45 0] (aS 46 (aa [I 47 7,I 4 47] .ret) .skip))))) (.region [I 18 5,aT 19 .add 18 1,I 5 19])))))) (aa [I 48 0,b2 49 48,I 50 1,b2 51 50,bY 52 232 49 51,I 4 52] .ret)))
@[simp] def Es:List bN:=[.tmp 4]
def QR:C:=(aa [a8 4 false] (.seq (aa [I 11 0,b2 12 11,bP 13 0] (eH 14 13 12 (.seq (.block 1 (aa [b9 15 5 11 13,a1 16 5 15,c9 6 iA,bM 5 6 16] (aa [I 18 1,aC 19 0 1 6,av 20 1 19,cE 21 96 20,bY 22 95 18 21,I 17 22,cD 23 0 17,cD 24 1 17,c9 7 dj,bM 4 7 23,I 8 24] (aa [I 26 1,fi 27 1 4 6,a1 28 4 27,bY 29 95 26 28,I 25 29,cD 30 0 25,cD 31 1 25,c9 9 dj,bM 4 9 30,I 10 31] (aa [I 32 8,cn 33 32,I 34 33,b4 34 false 35 10,ao 34 false (cn 36 35),cZ 37 34 36,I 38 37,ao 38 false (a1 39 4 7),ao 38 false (a1 40 4 9),ao 38 false (bY 41 108 39 40),ao 38 false (cn 42 41),cZ 43 38 42] (aS 43 (aa [a8 4 false] .ret) .skip)))))) (.region [aT 44 .add 13 1,I 13 44])))) (aa [a8 4 true] .ret)))
@[simp] def NC:List bN:=[.tmp 4]
def ux:List (Nat×dH):=[
 (3,⟨1,8,.int .i64,.int .i64 0⟩),
 (4,⟨1,1,.bool,.bool false⟩),
 (23,⟨1,24,.slice 61,.slice 5 .nil []⟩),
 (30,⟨1,24,.slice 32,.slice 4 .nil []⟩),
 (32,⟨4,56,.struct [(0,3),(1,3),(2,9),(3,30)],.agg [.int .i64 0,.int .i64 0,.str [],.slice 4 .nil []]⟩),
 (61,⟨5,64,.struct [(0,3),(1,32)],.agg [.int .i64 0,.int .i64 0,.int .i64 0,.str [],.slice 4 .nil []]⟩)]
theorem rK:fS ak ux=true:=by kernel_rfl
theorem W0:bU ux JE ana 1 Tryz.f55=true:=by kernel_rfl
theorem S9:ak.funcs[(55:Nat)]? =some Tryz.f55:=Tryz.func55
theorem ak5:bU ux QK anf 1 Tryz.f119=true:=by kernel_rfl
theorem ad5:ak.funcs[(119:Nat)]? =some Tryz.f119:=Tryz.func119
theorem akK:bU ux Qp XG 2 Tryz.f122=true:=by kernel_rfl
theorem adK:ak.funcs[(122:Nat)]? =some Tryz.f122:=Tryz.func122
theorem akP:bU ux Qu am8 2 Tryz.f123=true:=by kernel_rfl
theorem adP:ak.funcs[(123:Nat)]? =some Tryz.f123:=Tryz.func123
theorem W1:bU ux JF NA 3 Tryz.f133=true:=by kernel_rfl
theorem Ta:ak.funcs[(133:Nat)]? =some Tryz.f133:=Tryz.func133
theorem W5:bU ux JJ XR 2 Tryz.f135=true:=by kernel_rfl
theorem Te:ak.funcs[(135:Nat)]? =some Tryz.f135:=Tryz.func135
theorem ak7:bU ux QM XT 1 Tryz.f201=true:=by kernel_rfl
theorem ad7:ak.funcs[(201:Nat)]? =some Tryz.f201:=Tryz.func201
theorem alf:bU ux QU Es 2 Tryz.f204=true:=by kernel_rfl
theorem aef:ak.funcs[(204:Nat)]? =some Tryz.f204:=Tryz.func204
theorem alc:bU ux QR NC 2 Tryz.f205=true:=by kernel_rfl
theorem aec:ak.funcs[(205:Nat)]? =some Tryz.f205:=Tryz.func205
def Q7:C:=(aa [c9 2 dj] (aa [I 3 0,j5 4 dj [(0,1,(gI 1)),(1,1,(.t 3))],bM 4 2 4] .ret))
@[simp] def ank:List bN:=[.cell 2 true 4]
def QS:C:=(aa [b5 0 (.mov (.c (.nilp)))] (aa [cN (.mkmap 1 (some 702)),cN (.mkmap 2 (some 703)),cN (.mkmap 3 (some 704)),cN (.mkmap 4 (some 705)),cN (.mkmap 5 (some 706)),cN (.mkmap 6 (some 707)),b5 7 (.build [.junk,.junk,.junk,.junk,.junk,.junk] [(0,1,(.t 1)),(1,1,(.t 2)),(2,1,(.t 3)),(3,1,(.t 4)),(4,1,(.t 5)),(5,1,(.t 6))]),cO 8 7,I 0 8] (.fz true 0 .ret)))
@[simp] def XZ:List bN:=[.tmp 0]
def QG:C:=(aa [bP 4 0] (.seq (aa [I 8 0,fI 9 8,aC 10 0 1 9,av 11 1 10,I 12 1,b5 13 (.mget .i (.int .i64 0) true (.t 11) (.t 12)),I 7 13,cD 14 0 7,cD 15 1 7,I 5 14,I 6 15] (aa [I 16 6,cn 17 16] (aS 17 (.region [I 18 0,fI 19 18,aC 20 0 1 19,av 21 1 20,I 22 1,I 23 1,cN (.mput .i (.t 21) (.t 22) (.t 23))]) .skip))) (.seq (.block 0 (.loop (.seq (aa [I 24 0,fI 25 24,aC 26 0 1 25,av 27 1 26,I 28 1,b5 29 (.mget .i (.int .i64 0) false (.t 27) (.t 28)),I 30 1,bh 31 .neq 29 30] (aS 31 .skip (.exit 0))) (.block 1 (.seq (.drawn true 55 [I 32 0,fI 33 32,aC 34 0 1 33,av 35 1 34,I 36 1,I 37 0,fI 38 37,aC 39 0 1 38,av 40 1 39,I 41 0,fI 42 41,aC 43 0 1 42,av 44 1 43,I 45 1,b5 46 (.mget .i (.int .i64 0) false (.t 44) (.t 45)),b5 47 (.mget .i (.int .i64 0) false (.t 40) (.t 46)),cN (.mput .i (.t 35) (.t 36) (.t 47))]) (.region [I 48 0,fI 49 48,aC 50 0 1 49,av 51 1 50,I 52 1,b5 53 (.mget .i (.int .i64 0) false (.t 51) (.t 52)),I 1 53])))))) (aa [I 54 1,I 4 54] .ret))))
@[simp] def XO:List bN:=[.tmp 4]
def QC:C:=(aa [cO 2 0,cO 3 1] (.fz false 2 (.region [a1 4 4 3,b5 5 (.mkf 243 [.t 2]),bY 6 129 4 5])))
@[simp] def XL:List bN:=[]
def wj:C:=(aa [cO 4 1,cO 5 2,a8 6 false] (.seq (.block 0 (aa [aC 12 0 1 4,av 13 1 12,aT 14 .eql 13 1,I 15 14,ao 15 true (aC 16 0 1 5),ao 15 true (av 17 1 16),ao 15 true (aT 18 .eql 17 1),dx 19 15 18,I 11 19] (aS 11 (aa [I 20 0,aC 21 1 1 4,av 22 1 21,bY 23 196 20 22,I 7 23] (aa [I 24 0,aC 25 1 1 5,av 26 1 25,bY 27 196 24 26,I 8 27] (.seq (aa [I 28 7,I 29 8,bh 30 .eql 28 29] (aS 30 (aa [a8 6 true] .ret) .skip)) (.seq (aa [I 31 8,I 32 7,bh 33 .lss 31 32] (aS 33 (.region [I 34 8,I 35 7,I 7 34,I 8 35]) .skip)) (aa [I 36 0,fI 37 36,aC 38 0 1 37,av 39 1 38,I 40 8,I 41 7,cN (.mput .i (.t 39) (.t 40) (.t 41))] (.seq (aa [I 42 0,fI 43 42,aC 44 2 1 43,av 45 1 44,I 46 8,b5 47 (.mget .i (.bool false) false (.t 45) (.t 46)),cn 48 47] (aS 48 (aa [I 49 0,fI 50 49,aC 51 2 1 50,av 52 1 51,I 53 7,b5 54 (.mget .i (.bool false) false (.t 52) (.t 53)),cn 55 54,I 56 55,b4 56 false 57 0,b4 56 false 58 0,ao 56 false (fI 59 58),ao 56 false (aC 60 1 1 59),ao 56 false (av 61 1 60),b4 56 false 62 7,xN 56 false 63 (.mget .i (.agg dj) false (.t 61) (.t 62)),b4 56 false 64 7,ys 56 false (.mkmap 65 (some 715)),ao 56 false (dL 66 244 [.t 57,.t 63,.t 64,.t 65]),ao 56 false (cn 67 66),cZ 68 56 67,I 6 68] .ret) .skip)) (aa [I 69 0,fI 70 69,aC 71 1 1 70,av 72 1 71,I 73 8,b5 74 (.mget .i (.agg dj) false (.t 72) (.t 73)),c9 9 dj,bM 4 9 74] (.seq (aa [I 75 0,fI 76 75,aC 77 2 1 76,av 78 1 77,I 79 7,b5 80 (.mget .i (.bool false) false (.t 78) (.t 79)),cn 81 80] (aS 81 (aa [I 82 0,I 83 7,a1 84 4 9,dL 85 245 [.t 82,.t 83,.t 84],I 6 85] .ret) .skip)) (.seq (.drawnW [715,716] 198 [I 86 0,a1 87 4 9,I 88 7,cN (.mkmap 89 (some 715)),dL 90 244 [.t 86,.t 87,.t 88,.t 89],cn 91 90,I 92 91,b4 92 true 93 0,b4 92 true 94 0,ao 92 true (fI 95 94),ao 92 true (aC 96 1 1 95),ao 92 true (av 97 1 96),b4 92 true 98 7,xN 92 true 99 (.mgetB .i (.agg dj) false (.t 97) (.t 98)),b4 92 true 100 7,ys 92 true (.mkmap 101 (some 716)),ao 92 true (dL 102 244 [.t 93,.t 99,.t 100,.t 101]),ao 92 true (cn 103 102),dx 104 92 103,I 105 104,b4 105 true 106 0,b4 105 true 107 0,ao 105 true (fI 108 107),ao 105 true (aC 109 1 1 108),ao 105 true (av 110 1 109),b4 105 true 111 7,xN 105 true 112 (.mgetB .i (.agg dj) false (.t 110) (.t 111)),ao 105 true (a1 113 4 9),ao 105 true (dL 114 198 [.t 106,.t 112,.t 113]),dx 115 105 114,I 6 115]) .ret))))))))) (aa [aC 117 0 1 4,av 118 1 117,aT 119 .eql 118 1,I 116 119] (aS 116 (aa [I 120 0,aC 121 1 1 4,av 122 1 121,bY 123 196 120 122,I 10 123] (.seq (aa [I 124 0,fI 125 124,aC 126 2 1 125,av 127 1 126,I 128 10,b5 129 (.mget .i (.bool false) false (.t 127) (.t 128)),cn 130 129] (aS 130 (aa [I 131 0,I 132 10,a1 133 4 5,dL 134 245 [.t 131,.t 132,.t 133],I 6 134] .ret) .skip)) (.seq (.drawn false 198 [I 135 0,I 136 0,fI 137 136,aC 138 1 1 137,av 139 1 138,I 140 10,b5 141 (.mgetB .i (.agg dj) false (.t 139) (.t 140)),a1 142 4 5,dL 143 198 [.t 135,.t 141,.t 142],I 6 143]) .ret))) (aa [aC 145 0 1 5,av 146 1 145,aT 147 .eql 146 1,I 144 147] (aS 144 (aa [I 148 0,a1 149 4 5,a1 150 4 4,dL 151 198 [.t 148,.t 149,.t 150],I 6 151] .ret) (aa [aC 153 0 1 4,av 154 1 153,aC 155 0 1 5,av 156 1 155,bh 157 .neq 154 156,I 158 157,ao 158 false (aC 159 1 1 4),ao 158 false (av 160 1 159),ao 158 false (aC 161 1 1 5),ao 158 false (av 162 1 161),ao 158 false (bh 163 .neq 160 162),cZ 164 158 163,I 165 164,ao 165 false (aC 166 2 1 4),ao 165 false (av 167 1 166),ao 165 false (aC 168 2 1 5),ao 165 false (av 169 1 168),ao 165 false (bh 170 .neq 167 169),cZ 171 165 170,I 152 171] (aS 152 (aa [a8 6 false] .ret) (aa [aC 173 0 1 4,av 174 1 173,aT 175 .eql 174 4,I 172 175] (aS 172 (.seq (.drawn false 198 [I 176 0,aC 177 3 1 4,av 178 1 177,iO 179 4 178 0,a1 180 4 179,aC 181 3 1 5,av 182 1 181,iO 183 4 182 0,a1 184 4 183,dL 185 198 [.t 176,.t 180,.t 184],I 186 185,b4 186 true 187 0,ao 186 true (aC 188 3 1 4),ao 186 true (av 189 1 188),ao 186 true (iO 190 4 189 1),ao 186 true (a1 191 4 190),ao 186 true (aC 192 3 1 5),ao 186 true (av 193 1 192),ao 186 true (iO 194 4 193 1),ao 186 true (a1 195 4 194),ao 186 true (dL 196 198 [.t 187,.t 191,.t 195]),dx 197 186 196,I 6 197]) .ret) .skip))))))))))) (aa [a8 6 true] .ret)))
@[simp] def oz:List bN:=[.tmp 6]
def QD:C:=(.region [av 3 1 1,I 4 0,bY 5 196 3 4])
@[simp] def XM:List bN:=[]
def QE:C:=(aa [cO 4 0,cO 5 1,cO 6 2,cO 7 3,a8 8 false] (aa [cN (.alloc 9 (some 712) (.bool false)),cN (.store 1 (.t 9) (.c (.bool false)))] (.seq (.fz false 7 (.fz false 6 (.fz false 4 (.region [a1 10 4 5,b5 11 (.mkf 273 [.t 4,.t 9,.t 6,.t 7]),bY 12 129 10 11])))) (aa [av 13 1 9,I 8 13] .ret))))
@[simp] def XN:List bN:=[.tmp 8]
def QB:C:=(aa [cO 5 2,a8 6 false] (.seq (.drawn true 24 [I 7 0,fI 8 7,aC 9 1 1 8,av 10 1 9,I 11 1,a1 12 4 5,cN (.mput .i (.t 10) (.t 11) (.t 12))]) (aa [I 13 0,fI 14 13,aC 15 2 1 14,av 16 1 15,I 17 1,cN (.mput .i (.t 16) (.t 17) (.c (.bool true)))] (aa [I 18 0,a1 19 4 5,I 20 1,cN (.mkmap 21 (some 715)),dL 22 244 [.t 18,.t 19,.t 20,.t 21],cn 23 22,I 6 23] .ret))))
@[simp] def XK:List bN:=[.tmp 6]
def zY:C:=(aa [cO 2 0,a8 4 false] (.seq (.seq (.fz false 2 (.region [av 6 1 2,fI 7 6,aC 8 3 1 7,av 9 1 8,I 10 1,b5 11 (.mget .i (.int .i64 0) false (.t 9) (.t 10)),aT 12 .eql 11 2])) (aS 12 (aa [a8 4 true] .ret) .skip)) (.seq (aa [av 13 1 2,fI 14 13,aC 15 3 1 14,av 16 1 15,I 17 1,b5 18 (.mget .i (.int .i64 0) false (.t 16) (.t 17)),aT 19 .eql 18 1] (aS 19 (aa [a8 4 false] .ret) .skip)) (aa [av 20 1 2,fI 21 20,aC 22 3 1 21,av 23 1 22,I 24 1,cN (.mput .i (.t 23) (.t 24) (gI 1))] (aa [av 25 1 2,fI 26 25,aC 27 4 1 26,av 28 1 27,I 29 1,cN (.mput .i (.t 28) (.t 29) (gI 1))] (.seq (aa [av 30 1 2,fI 31 30,aC 32 2 1 31,av 33 1 32,I 34 1,b5 35 (.mget .i (.bool false) false (.t 33) (.t 34))] (aS 35 (aa [cN (.alloc 5 (some 712) (.bool false)),cN (.store 1 (.t 5) (.c (.bool true)))] (aa [av 36 1 2,fI 37 36,aC 38 1 1 37,av 39 1 38,I 40 1,b5 41 (.mget .i (.agg dj) false (.t 39) (.t 40)),b5 42 (.mkf 274 [.t 5,.t 2]),bY 43 129 41 42] (.seq (aa [av 44 1 5,cn 45 44] (aS 45 (aa [a8 4 false] .ret) .skip)) (.drawn false 64 [av 46 1 2,fI 47 46,aC 48 4 1 47,av 49 1 48,I 50 1,av 51 1 2,fI 52 51,aC 53 1 1 52,av 54 1 53,I 55 1,b5 56 (.mgetB .i (.agg dj) false (.t 54) (.t 55)),b5 57 (.mkf 275 [.t 2]),bY 58 239 56 57,cN (.mput .i (.t 49) (.t 50) (.t 58))])))) .skip)) (aa [av 59 1 2,fI 60 59,aC 61 3 1 60,av 62 1 61,I 63 1,cN (.mput .i (.t 62) (.t 63) (gI 2))] (aa [a8 4 true] .ret))))))))
@[simp] def BH:List bN:=[.tmp 4]
def Fz:C:=(aa [cO 2 0,c9 4 dj] (.seq (.seq (.fz false 2 (.region [av 9 1 2,fI 10 9,aC 11 5 1 10,av 12 1 11,I 13 1,b5 14 (.mget .i (.agg dj) true (.t 12) (.t 13)),I 8 14,cD 15 0 8,cD 16 1 8,c9 5 dj,bM 4 5 15,I 6 16])) (aa [I 17 6] (aS 17 (aa [a1 18 4 5,bM 4 4 18] .ret) .skip))) (aa [I 19 1,cE 20 96 19,c9 7 dj,bM 4 7 20] (.seq (aa [av 21 1 2,fI 22 21,aC 23 2 1 22,av 24 1 23,I 25 1,b5 26 (.mget .i (.bool false) false (.t 24) (.t 25))] (aS 26 (.region [av 27 1 2,fI 28 27,aC 29 1 1 28,av 30 1 29,I 31 1,b5 32 (.mget .i (.agg dj) false (.t 30) (.t 31)),b5 33 (.mkf 276 [.t 2]),bY 34 153 32 33,bM 4 7 34]) .skip)) (.seq (.drawn true 42 [av 35 1 2,fI 36 35,aC 37 5 1 36,av 38 1 37,I 39 1,a1 40 4 7,cN (.mput .i (.t 38) (.t 39) (.t 40))]) (aa [a1 41 4 7,bM 4 4 41] .ret))))))
@[simp] def HX:List bN:=[.cell 4 true 4]
def QF:C:=(aa [av 7 1 1,I 8 0,bY 9 196 7 8,I 6 9] (.seq (aa [av 10 1 2,I 11 10,b4 11 false 12 6,ao 11 false (av 13 1 3),ao 11 false (bh 14 .eql 12 13),cZ 15 11 14] (aS 15 (aa [cN (.store 1 (.t 2) (.c (.bool true)))] .ret) .skip)) (aa [av 16 1 4,I 17 6,b5 18 (.mget .i (.bool false) false (.t 16) (.t 17)),cn 19 18,I 20 19,ao 20 true (av 21 1 1),ao 20 true (fI 22 21),ao 20 true (aC 23 2 1 22),ao 20 true (av 24 1 23),b4 20 true 25 6,ao 20 true (b5 26 (.mget .i (.bool false) false (.t 24) (.t 25))),dx 27 20 26] (aS 27 (aa [av 28 1 4,I 29 6,cN (.mput .i (.t 28) (.t 29) (.c (.bool true)))] (.drawn false 40 [av 30 1 1,av 31 1 1,fI 32 31,aC 33 1 1 32,av 34 1 33,I 35 6,b5 36 (.mgetB .i (.agg dj) false (.t 34) (.t 35)),av 37 1 3,av 38 1 4,dL 39 244 [.t 30,.t 36,.t 37,.t 38],bM 1 2 39])) .skip))))
@[simp] def BG:List bN:=[]
def JH:C:=(.seq (.drawn false 13 [b5 4 (.loadB false 1 (.t 1)),I 5 4,ao 5 true (av 6 1 2),ao 5 true (av 7 1 2),b4 5 true 8 0,ao 5 true (bY 9 196 7 8),ao 5 true (bY 10 246 6 9),ao 5 true (cn 11 10),dx 12 5 11]) (aS 12 (.region [cN (.store 1 (.t 1) (.c (.bool false)))]) .skip))
@[simp] def HY:List bN:=[]
def QJ:C:=(aa [bP 3 0] (.seq (.drawn false 12 [av 4 1 1,fI 5 4,aC 6 4 1 5,av 7 1 6,av 8 1 1,I 9 0,bY 10 196 8 9,b5 11 (.mgetB .i (.int .i64 0) false (.t 7) (.t 10)),I 3 11]) .ret))
@[simp] def XQ:List bN:=[.tmp 3]
def QI:C:=(aa [c9 3 dj,a8 4 false] (.seq (.drawn false 10 [av 5 1 1,av 6 1 1,I 7 0,bY 8 196 6 7,bY 9 247 5 8,bM 4 3 9,a8 4 true]) .ret))
@[simp] def XP:List bN:=[.cell 3 true 4,.tmp 4]
def po:List (Nat×dH):=[
 (3,⟨1,8,.int .i64,.int .i64 0⟩),
 (4,⟨1,1,.bool,.bool false⟩),
 (9,⟨1,16,.str,.str []⟩),
 (30,⟨1,24,.slice 32,.slice 4 .nil []⟩),
 (32,⟨4,56,.struct [(0,3),(1,3),(2,9),(3,30)],.agg [.int .i64 0,.int .i64 0,.str [],.slice 4 .nil []]⟩),
 (127,⟨1,8,.map 3 32,.junk⟩),
 (154,⟨1,8,.map 3 4,.junk⟩),
 (182,⟨1,8,.map 3 3,.junk⟩),
 (204,⟨1,8,.other,.nilp⟩),
 (245,⟨6,48,.struct [(0,182),(1,127),(2,154),(3,182),(4,182),(5,127)],.agg [.junk,.junk,.junk,.junk,.junk,.junk]⟩)]
theorem jH:fS ak po=true:=by kernel_rfl
theorem alu:bU po Q7 ank 1 Tryz.f96=true:=by kernel_rfl
theorem aes:ak.funcs[(96:Nat)]? =some Tryz.f96:=Tryz.func96
theorem ald:bU po QS XZ 0 Tryz.f195=true:=by kernel_rfl
theorem aed:ak.funcs[(195:Nat)]? =some Tryz.f195:=Tryz.func195
theorem ak1:bU po QG XO 2 Tryz.f196=true:=by kernel_rfl
theorem ad1:ak.funcs[(196:Nat)]? =some Tryz.f196:=Tryz.func196
theorem akX:bU po QC XL 2 Tryz.f197=true:=by kernel_rfl
theorem adX:ak.funcs[(197:Nat)]? =some Tryz.f197:=Tryz.func197
theorem zb:bU po wj oz 3 Tryz.f198=true:=by kernel_rfl
theorem x9:ak.funcs[(198:Nat)]? =some Tryz.f198:=Tryz.func198
theorem akY:bU po QD XM 2 Tryz.f243=true:=by kernel_rfl
theorem adY:ak.funcs[(243:Nat)]? =some Tryz.f243:=Tryz.func243
theorem akZ:bU po QE XN 4 Tryz.f244=true:=by kernel_rfl
theorem adZ:ak.funcs[(244:Nat)]? =some Tryz.f244:=Tryz.func244
theorem akW:bU po QB XK 3 Tryz.f245=true:=by kernel_rfl
theorem adW:ak.funcs[(245:Nat)]? =some Tryz.f245:=Tryz.func245
theorem Ea:bU po zY BH 2 Tryz.f246=true:=by kernel_rfl
theorem CI:ak.funcs[(246:Nat)]? =some Tryz.f246:=Tryz.func246
theorem M2:bU po Fz HX 2 Tryz.f247=true:=by kernel_rfl
theorem Kr:ak.funcs[(247:Nat)]? =some Tryz.f247:=Tryz.func247
theorem ak0:bU po QF BG 5 Tryz.f273=true:=by kernel_rfl
theorem ad0:ak.funcs[(273:Nat)]? =some Tryz.f273:=Tryz.func273
theorem W3:bU po JH HY 3 Tryz.f274=true:=by kernel_rfl
theorem Tc:ak.funcs[(274:Nat)]? =some Tryz.f274:=Tryz.func274
theorem ak4:bU po QJ XQ 2 Tryz.f275=true:=by kernel_rfl
theorem ad4:ak.funcs[(275:Nat)]? =some Tryz.f275:=Tryz.func275
theorem ak3:bU po QI XP 2 Tryz.f276=true:=by kernel_rfl
theorem ad3:ak.funcs[(276:Nat)]? =some Tryz.f276:=Tryz.func276
end
section
open Go Go.Pv
section
variable {α:Type} (S:α->cH) (dr:∀a,dN (S a)) (dG:∀a b,Same (S a) (S b)) (g:Nat) (dg:List ai) (aw:∀a,aH (inObs (S a)) dg) (cR:c2 dg=dg)
include dr dG aw cR in
theorem TL(hp:α->Prop)(f:Int->α->ba α)(aJ:∀v a bq,hp a->f v a=some bq->hp bq/\bH ak g (.int .i64 v::dg) (S a) fun r ah=>r= .tuple []/\ah=S bq)(t:T):
  ∀a bq,hp a->t.foldO f a=some bq->hp bq/\bH ak 129 [t.e,.func g dg] (S a) fun r ah=>r= .tuple []/\ah=S bq:=by
 have ax:∀a m,Pv.look (.loc m) (S a).b=none:=fun a=>(dr a).obj.1;have hu:∀a m cs,cA (.loc m) cs (S a).b=(S a).b++[(.loc m,cs)]:=fun a m cs=>j4 (ax a m);have ay:∀a m,aI.loc m∉c1 (S a):=fun a=>jY (dr a).obj;induction t with
 |pair x y lx mO=>intro a bq hi he;have ag:=dr a;simp only[T.foldO,nj]at he;obtain⟨bC,J,U⟩:=he;obtain⟨i1,g1⟩:=lx a bC hi J;obtain⟨i2,g2⟩:=mO bC bq i1 U;refine⟨i2,?_⟩;refine bH.mk mixed fy u1 vC Ψ ag.obj fun aK cB=>?_;unfold tp;simp[hu,ay,cK,ax,cR];(with_reducible repeat' first|refine aj ?_|simp[hu,ay,cK,ax]);refine cT.ob g1 ag aL aL (by simp[aw]) ?_;rintro r ah ⟨rfl,rfl⟩;refine⟨dG _ _,?_⟩;simp[gR,ia,cl,ax];(with_reducible repeat' first|refine aj ?_|simp[hu,ay,cK,ax]);rw[cR];refine cT.ob g2 (dr bC) aL aL (by simp[aw]) ?_;rintro r ah ⟨rfl,rfl⟩;refine⟨dG _ _,?_⟩;simp[gR,ia,cl,ax];refine cF.at (S bq) (.inr rfl) (dr _) (dG _ _) aL aL ?_;simp[cL,ug,aX,aY,aW]
 |var n=>intro a bq hi he;have ag:=dr a;simp only[T.foldO]at he;obtain⟨i1,g1⟩:=aJ n a bq hi he;refine⟨i1,?_⟩;refine bH.mk mixed fy u1 vC Ψ ag.obj fun aK cB=>?_;unfold tp;simp[hu,ay,cK,ax,cR];(with_reducible repeat' first|refine aj ?_|simp[hu,ay,cK,ax]);refine cT.ob g1 ag aL aL (by simp[aw]) ?_;rintro r ah ⟨rfl,rfl⟩;refine⟨dG _ _,?_⟩;simp[gR,ia,cl,ax,cK];refine cF.at (S bq) (.inr rfl) (dr _) (dG _ _) aL aL ?_;simp[cL,ug,aX,aY,aW]
 |_=>intro a bq hi he;have ag:=dr a;simp only[T.foldO,dQ]at he;subst he;refine⟨hi,?_⟩;refine bH.mk mixed fy u1 vC Ψ ag.obj fun aK cB=>?_;unfold tp;simp[hu,ay,cK,ax,cR];(with_reducible repeat' first|refine aj ?_|simp[hu,ay,cK,ax]);refine cF.at (S a) (.inr rfl) ag (Same.refl _) aL aL ?_;simp[cL,ug,aX,aY,aW]
include dr dG aw cR in
theorem KQ(f:Int->α->ba α)(aJ:∀v a bq,f v a=some bq->bH ak g (.int .i64 v::dg) (S a) fun r ah=>r= .tuple []/\ah=S bq)(t:T)(a bq:α)(h:t.foldO f a=some bq):bH ak 129 [t.e,.func g dg] (S a) fun r ah=>r= .tuple []/\ah=S bq:=(TL S dr dG g dg aw cR (fun _=>True) f (fun v a bq _ h=>⟨trivial,aJ v a bq h⟩) t a bq trivial h).2
include dr dG aw cR in
theorem agm(f:Int->α->ba (T×α))(aJ:∀v a p,f v a=some p->bH ak g (.int .i64 v::dg) (S a) fun r ah=>r= .tuple [p.1.e,.bool true]/\ah=S p.2)(t:T):
  ∀a p,t.mapO f a=some p->bH ak 153 [t.e,.func g dg] (S a) fun r ah=>r=p.1.e/\ah=S p.2:=by
 have ax:∀a m,Pv.look (.loc m) (S a).b=none:=fun a=>(dr a).obj.1;have cM:∀a m,Pv.look (.loc m) (S a).e=none:=fun a=>(dr a).obj.2;have hu:∀a m cs,cA (.loc m) cs (S a).b=(S a).b++[(.loc m,cs)]:=fun a m cs=>j4 (ax a m);have ay:∀a m,aI.loc m∉c1 (S a):=fun a=>jY (dr a).obj;have jW:∀a m p r,cA (.loc m) p ((S a).b++r)=(S a).b++cA (.loc m) p r:=fun a m p r=>B6 (ax a m);induction t with
 |pair x y lx mO=>intro a p he;have ag:=dr a;simp only[T.mapO,nj,ha]at he;obtain⟨cV,J,dC,U,rfl⟩:=he;refine bH.mk mixed fy Ai Bw Ψ ag.obj fun aK cB=>?_;unfold x3;simp[hu,ay,cK,ax,cM,cR,jW];(with_reducible repeat' first|refine aj ?_|simp[hu,ay,cK,ax,cM,jW]);refine hn.ob (lx a cV J) ag (dr cV.2) (dG _ _) aL aL (by simp[aw]) ?_;simp[gR,ia,cl,ax,cR];(with_reducible repeat' first|refine aj ?_|simp[hu,ay,cK,ax,cM,jW]);refine hn.ob (mO cV.2 dC U) (dr cV.2) (dr dC.2) (dG _ _) aL aL (by simp[aw,cR]) ?_;simp[gR,ia,cl,ax,cR];(with_reducible repeat' first|refine aj ?_|refine aF (IZ _ _) ?_|refine aG (IZ _ _) ?_|simp[cK,ax,jW]);refine cF.at (S dC.2) (.inl rfl) (dr _) (dG _ _) aL aL ?_;simp[cL,zi,aX,aY,aW,cK,ax]
 |var n=>
  intro a p he;have ag:=dr a;simp only[T.mapO]at he;refine bH.mk mixed fy Ai Bw Ψ ag.obj fun aK cB=>?_;unfold x3;simp[hu,ay,cK,ax,cR,jW];(with_reducible repeat' first|refine aj ?_|simp[hu,ay,cK,ax,jW]);refine cT.ob (aJ n a p he) ag aL aL (by simp[aw]) ?_;rintro r ah ⟨rfl,rfl⟩;refine⟨dG _ _,?_⟩;simp[gR,ia,cl,ax,hu,ay,cK];(with_reducible repeat' first|refine aj ?_|refine aF (uA _) ?_|refine aG (uA _) ?_|simp[hu,ay,cK,ax,jW]);all_goals refine cF.at (S p.2) (.inl rfl) (dr _) (dG _ _) aL aL ?_
  all_goals simp[cL,zi,aX,aY,aW,cK,ax]
 |_=>intro a p he;have ag:=dr a;simp only[T.mapO,dQ]at he;subst he;refine bH.mk mixed fy Ai Bw Ψ ag.obj fun aK cB=>?_;unfold x3;simp[hu,ay,cK,ax,cR,jW];(with_reducible repeat' first|refine aj ?_|simp[hu,ay,cK,ax,jW]);refine cF.at (S a) (.inl rfl) ag (Same.refl _) aL aL ?_;simp[cL,zi,aX,aY,aW,cK,ax]
include dr dG aw cR in
theorem agD(hp:α->Prop)(f:Int->α->ba (Int×α))(C8:∀v a p,hp a->f v a=some p->hp p.2/\0<=p.1/\p.1<=1000000)(aJ:∀v a p,hp a->f v a=some p->bH ak g (.int .i64 v::dg) (S a) fun r ah=>r= .int .i64 p.1/\ah=S p.2)(t:T):
  ∀a p,hp a->t.sizeO f a=some p->hp p.2/\(0<=p.1/\p.1<=5001)/\bH ak 239 [t.e,.func g dg] (S a) fun r ah=>r= .int .i64 p.1/\ah=S p.2:=by
 have ax:∀a m,Pv.look (.loc m) (S a).b=none:=fun a=>(dr a).obj.1;have hu:∀a m cs,cA (.loc m) cs (S a).b=(S a).b++[(.loc m,cs)]:=fun a m cs=>j4 (ax a m);have ay:∀a m,aI.loc m∉c1 (S a):=fun a=>jY (dr a).obj;induction t with
 |pair x y lx mO=>
  intro a p hi he;have ag:=dr a;simp only[T.sizeO,nj]at he;obtain⟨cV,J,U⟩:=he;obtain⟨i1,ch,g1⟩:=lx a cV hi J;by_cases Gr:5000<cV.1
  ·rw[if_pos Gr]at U;cases U;refine⟨i1,ch,?_⟩;refine bH.mk mixed fy ya zc Ψ ag.obj fun aK cB=>?_;unfold wk;simp[hu,ay,cK,ax,cR];(with_reducible repeat' first|refine aj ?_|simp[hu,ay,cK,ax]);refine cT.ob g1 ag aL aL (by simp[aw]) ?_;rintro r ah ⟨rfl,rfl⟩;refine⟨dG _ _,?_⟩;simp[gR,ia,cl,ax];((with_reducible repeat' first|((first|apply bS|apply bW|apply bV)<;>intro h<;>try simp at h)|refine aj ?_|simp[hu,ay,cK,ax])<;>(try contradiction));all_goals first|omega|(refine cF.at (S p.2) (.inl rfl) (dr _) (dG _ _) aL aL ?_;simp[cL,vJ,aX,aY,aW])
  ·rw[if_neg Gr,ha]at U;obtain⟨dC,U,rfl⟩:=U;obtain⟨i2,ca,g2⟩:=mO cV.2 dC i1 U;refine⟨i2,by simp only;split<;>omega,?_⟩;refine bH.mk mixed fy ya zc Ψ ag.obj fun aK cB=>?_;unfold wk;simp[hu,ay,cK,ax,cR];(with_reducible repeat' first|((first|apply bS|apply bW|apply bV)<;>intro h<;>try simp at h)|refine aj ?_|simp[hu,ay,cK,ax]);refine cT.ob g1 ag aL aL (by simp[aw]) ?_;rintro r ah ⟨rfl,rfl⟩;refine⟨dG _ _,?_⟩;simp[gR,ia,cl,ax];((with_reducible repeat' first|refine aj ?_|simp[hu,ay,cK,ax]|((first|apply bS|apply bW|apply bV)<;>intro h<;>try simp at h))<;>(try exact cy));all_goals first|omega|skip
   rw[cR];refine cT.ob g2 (dr cV.2) aL aL (by simp[aw]) ?_;rintro r s2 ⟨rfl,rfl⟩;refine⟨dG _ _,?_⟩;simp[gR,ia,cl,ax];(with_reducible repeat' first|refine aj ?_|simp[hu,ay,cK,ax]);refine cF.at (S dC.2) (.inl rfl) (dr _) (dG _ _) aL aL ?_;simp[cL,vJ,aX,aY,aW]
 |var n=>intro a p hi he;have ag:=dr a;simp only[T.sizeO,ha]at he;obtain⟨cV,J,rfl⟩:=he;have ab:=C8 n a cV hi J;refine⟨ab.1,by simp only;split<;>omega,?_⟩;refine bH.mk mixed fy ya zc Ψ ag.obj fun aK cB=>?_;unfold wk;simp[hu,ay,cK,ax,cR];(with_reducible repeat' first|refine aj ?_|simp[hu,ay,cK,ax]);refine cT.ob (aJ n a cV hi J) ag aL aL (by simp[aw]) ?_;rintro r ah ⟨rfl,rfl⟩;refine⟨dG _ _,?_⟩;simp[gR,ia,cl,ax];refine cF.at (S cV.2) (.inl rfl) (dr _) (dG _ _) aL aL ?_;simp[cL,vJ,aX,aY,aW]
 |_=>intro a p hi he;have ag:=dr a;simp only[T.sizeO,dQ]at he;subst he;refine⟨hi,Ψ,?_⟩;refine bH.mk mixed fy ya zc Ψ ag.obj fun aK cB=>?_;unfold wk;simp[hu,ay,cK,ax,cR];(with_reducible repeat' first|refine aj ?_|simp[hu,ay,cK,ax]);refine cF.at (S a) (.inl rfl) ag (Same.refl _) aL aL ?_;simp[cL,vJ,aX,aY,aW]
end
end
end Go.Proofs.YtohaalphocaebaaGreat
namespace Go.Pv
section
open Go Go.RowKit
section
variable {P:cG} {ob:List aI} {st:br} {Q:Exit->br->Prop} {c:C} {α:Type}
theorem du(ck:List Nat)(cs:Nat->α->List (Nat×ai))(n:Nat)(fk:Nat->α->Prop)(a0:α)(hw:iU ob st (p7 st ck (cs 0 a0)))(bs:fk 0 a0)(lp:∀a,fk n a->(∀i,ec (get i (p7 st ck (cs n a)).t))->c4 P ob c (bO ob (zL (fun i a=>p7 st ck (cs i a)) n fk) 0 Q) (p7 st ck (cs n a)))
  (jV:∀i a,i<n->fk i a->(∀j,ec (get j (p7 st ck (cs i a)).t))->c4 P ob c (bO ob (zL (fun i a=>p7 st ck (cs i a)) n fk) (n-i) Q) (p7 st ck (cs i a))):c4 P ob (.loop c) Q st:=
 gT (fun i a=>p7 st ck (cs i a)) n fk a0 hw bs lp jV
theorem uY(ck:List Nat)(cs:α->List (Nat×ai))(nf:α->Nat)(fk:α->Prop)(a0:α)(hw:iU ob st (p7 st ck (cs a0)))(bs:fk a0)
  (jV:∀a,fk a->(∀j,ec (get j (p7 st ck (cs a)).t))->c4 P ob c (bO ob (Cg (fun a=>p7 st ck (cs a)) nf fk) (nf a) Q) (p7 st ck (cs a))):c4 P ob (.loop c) Q st:=
 oY (fun a=>p7 st ck (cs a)) nf fk a0 hw bs jV
end
attribute [simp] aki
end
end Go.Pv
namespace Go.Proofs.YtohaalphocaebaaGreat
section
open Go Go.Pv
theorem Ms{α β:Type}(k:aI):∀{l:List (aI×α)} {aZ:List (aI×β)},l.map (·.1)=aZ.map (·.1)->(Pv.look k l).isSome=(Pv.look k aZ).isSome
 |[],[],_=>rfl
 |[],_::_,h=>by simp at h
 |_::_,[],h=>by simp at h
 |(i,x)::r,(j,y)::eT,h=>by
  simp only[gS,oJ]at h;simp only[Pv.look];obtain⟨rfl,h⟩:=h;split
  ·rfl
  ·exact Ms k h
theorem _root_.Go.Pv.Same.keys{s ah:cH}(ab:s.b.map (·.1)=ah.b.map (·.1))(he:s.e.map (·.1)=ah.e.map (·.1)):Same s ah:=⟨fun k=>Ms k ab,fun k=>Ms k he⟩
section
variable {α:Type} (e:α->ai)
def sE(l:List (Int×α)):List ai:=jZ (l.map fun x=>(x.1,e x.2))
theorem PS(k:Int):∀l:List (Int×α),uO k (l.map fun x=>(x.1,e x.2))=(c3 k l).map e
 |[]=>rfl
 |(i,v)::r=>by
  simp only[gS,uO,c3];split
  ·rfl
  ·exact PS k r
theorem PZ(k:Int)(v:α):∀l:List (Int×α),n3 k (e v) (l.map fun x=>(x.1,e x.2))=if(c3 k l).isSome then some ((eK k v l).map fun x=>(x.1,e x.2))else none
 |[]=>rfl
 |(i,w)::r=>by
  simp only[gS,n3,c3,eK];by_cases h:k=i
  ·subst h;simp
  ·simp only[h,if_false,PZ k v r];cases (c3 k r).isSome<;>simp
theorem IK{k:Int}{v:α}:∀{l:List (Int×α)},c3 k l=none->eK k v l=l++[(k,v)]
 |[],_=>rfl
 |(i,w)::r,h=>by
  simp only[c3]at h;split at h
  ·cases h
  ·rename_i cM;simp[eK,cM,IK h]
theorem MN(k:Int)(v:α)(l:List (Int×α)):ox .i (.int .i64 k) (e v) (sE e l)=some (sE e (eK k v l)):=by
 simp only[sE,WQ,Cs,PZ];cases h:c3 k l with
 |some w=>simp
 |none=>simp[IK h]
theorem MI(f:aI->ba (List ai))(m:aI)(l:List (Int×α))(z:ai)(ok:Bool)(k:Int)(hm:f m=some (sE e l)):nM f .i z ok (.gmap m) (.int .i64 k)=some (True,if ok then .tuple [((c3 k l).map e).getD z,.bool (c3 k l).isSome]else((c3 k l).map e).getD z):=by rw[WE f m _ z ok k hm,PS];cases c3 k l<;>rfl
@[simp]theorem auB(l:List (Int×α)):gG (sE e l)=false:=rfl
theorem Mh(S:aI->Prop)(he:∀x,aD S (e x))(l:List (Int×α)):aH S (sE e l):=by
 have:∀l:List (Int×α),aH S (jO (l.map fun x=>(x.1,e x.2))):=by
  intro l;induction l with
  |nil=>simp[jO,aH]
  |cons x r bR=>simp[jO,aH,bR,he]
 simp[sE,jZ,aH,this,aD]
end
def lC:List (Int×Int)->List ai:=sE (ai.int .i64)
def p6:List (Int×Bool)->List ai:=sE ai.bool
def ua:List (Int×T)->List ai:=sE T.e
@[simp]theorem auy(l):gG (lC l)=false:=rfl
@[simp]theorem auv(l):gG (p6 l)=false:=rfl
@[simp]theorem auA(l):gG (ua l)=false:=rfl
@[simp]theorem atl(S:aI->Prop)(l):aH S (lC l)=True:=eq_true (Mh _ S (fun _=>by simp) l)
@[simp]theorem atk(S:aI->Prop)(l):aH S (p6 l)=True:=eq_true (Mh _ S (fun _=>by simp) l)
@[simp]theorem atm(S:aI->Prop)(l):aH S (ua l)=True:=eq_true (Mh _ S (fun _=>by simp) l)
@[simp]theorem aul(k v:Int)(l):ox .i (.int .i64 k) (.int .i64 v) (lC l)=some (lC (eK k v l)):=MN _ k v l
@[simp]theorem auk(k:Int)(v:Bool)(l):ox .i (.int .i64 k) (.bool v) (p6 l)=some (p6 (eK k v l)):=MN _ k v l
@[simp]theorem aun(k:Int)(v:T)(l):ox .i (.int .i64 k) v.e (ua l)=some (ua (eK k v l)):=MN _ k v l
def DZ(ck:jL)(z:ai)(ok:Bool)(o:ba (List ai))(k:ai):ba (Prop×ai):=nM (fun _=>o) ck z ok (.gmap (.loc 0)) k
@[simp]theorem aui(f:aI->ba (List ai))(ck:jL)(z:ai)(ok:Bool)(m:aI)(k:ai):nM f ck z ok (.gmap m) k=DZ ck z ok (f m) k:=by simp only[DZ,WD]
theorem aj5(f:aI->ba (List ai))(m:aI)(l:List (Int×Int))(ok:Bool)(k:Int)(hm:f m=some (lC l)):nM f .i (.int .i64 0) ok (.gmap m) (.int .i64 k)=some (True,if ok then .tuple [.int .i64 (h9 l k),.bool (c3 k l).isSome]else .int .i64 (h9 l k)):=by rw[MI _ f m l _ ok k hm];unfold h9;cases c3 k l<;>rfl
theorem aj4(f:aI->ba (List ai))(m:aI)(l:List (Int×Bool))(ok:Bool)(k:Int)(hm:f m=some (p6 l)):nM f .i (.bool false) ok (.gmap m) (.int .i64 k)=some (True,if ok then .tuple [.bool ((c3 k l).getD false),.bool (c3 k l).isSome]else .bool ((c3 k l).getD false)):=by rw[MI _ f m l _ ok k hm];cases c3 k l<;>rfl
def Zl:ai:= .agg [.int .i64 0,.int .i64 0,.str [],.slice 4 .nil []]
def xC(o:ba T):ai:=(o.map T.e).getD Zl
theorem aj6(f:aI->ba (List ai))(m:aI)(l:List (Int×T))(ok:Bool)(k:Int)(hm:f m=some (ua l)):nM f .i (.agg [.int .i64 0,.int .i64 0,.str [],.slice 4 .nil []]) ok (.gmap m) (.int .i64 k)=some (True,if ok then .tuple [xC (c3 k l),.bool (c3 k l).isSome]else xC (c3 k l)):=by rw[MI _ f m l _ ok k hm];rfl
@[simp]theorem aug(l:List (Int×Int))(ok:Bool)(k:Int):DZ .i (.int .i64 0) ok (some (lC l)) (.int .i64 k)=some (True,if ok then .tuple [.int .i64 (h9 l k),.bool (c3 k l).isSome]else .int .i64 (h9 l k)):=aj5 _ _ l ok k rfl
@[simp]theorem auf(l:List (Int×Bool))(ok:Bool)(k:Int):DZ .i (.bool false) ok (some (p6 l)) (.int .i64 k)=some (True,if ok then .tuple [.bool ((c3 k l).getD false),.bool (c3 k l).isSome]else .bool ((c3 k l).getD false)):=aj4 _ _ l ok k rfl
@[simp]theorem auh(l:List (Int×T))(ok:Bool)(k:Int):DZ .i (.agg [.int .i64 0,.int .i64 0,.str [],.slice 4 .nil []]) ok (some (ua l)) (.int .i64 k)=some (True,if ok then .tuple [xC (c3 k l),.bool (c3 k l).isSome]else xC (c3 k l)):=aj6 _ _ l ok k rfl
@[simp]theorem avA(o:ba T):dt (xC o)=(o.getD .nil).e:=by cases o<;>simp[xC,Zl,dt,c2]
@[simp]theorem at4:[ai.hdm 0 []]=jZ []:=rfl
def aA:ai:= .eptr (.agg [.gmap (.obj 702),.gmap (.obj 703),.gmap (.obj 704),.gmap (.obj 705),.gmap (.obj 706),.gmap (.obj 707)])
def az(c:bA):List (aI×List ai):=[(.obj 702,lC c.up),(.obj 703,ua c.shape),(.obj 704,p6 c.shaped),(.obj 705,lC c.color),(.obj 706,lC c.size),(.obj 707,ua c.full)]
def aP(c:bA):cH:=⟨az c,[]⟩
theorem cm(c:bA):dN (aP c):=by unfold aP az;exact dN.of ⟨by intro m;simp[Pv.look],by intro m;simp[Pv.look]⟩ Ψ Ψ
theorem Fg(c cw:bA):Same (aP c) (aP cw):=by
 refine⟨fun k=>?_,fun k=>rfl⟩;simp only[aP,az,Pv.look];repeat' split
 all_goals rfl
theorem r7(c:bA)(v r:Int)(cw:bA)(he:rt c v=some (r,cw)):bH ak 196 [aA,.int .i64 v] (aP c) fun eT ah=>eT= .int .i64 r/\ah=aP cw:=by
 have ag:=cm c;have ei:=cm cw;have dG:=Fg c cw;simp only[rt,ha,jB]at he;obtain⟨⟨dy,m1⟩,he,rfl,rfl⟩:=he;unfold aP az at ag ei dG⊢;simp only at ei dG⊢;unfold aA;refine bH.mk mixed jH ad1 ak1 Ψ ag.obj fun aK cB=>?_;unfold QG;simp;(with_reducible repeat' first|((first|apply bS|apply bW|apply bV)<;>intro h<;>try simp at h)|refine aj ?_|simp);all_goals
  refine oY (α:=Nat×Int×List (Int×Int)) (fun a=>⟨[(0,aA),(1,.int .i64 a.2.1)],[(.obj 702,lC a.2.2),(.obj 703,ua c.shape),(.obj 704,p6 c.shaped),(.obj 705,lC c.color),(.obj 706,lC c.size),(.obj 707,ua c.full)],[],0,[.obj 702,.obj 703,.obj 704,.obj 705,.obj 706,.obj 707]⟩) (fun a=>a.1) (fun a=>xv a.1 a.2.2 a.2.1=some (dy,m1)) (v.toNat+1,v,zP v c.up) (by simp[zP,h,aA];exact⟨by simp[fresh,aH,aD,b7,inObs,Pv.look,aA],ee (by simp[fresh,aH,aD,b7,inObs,Pv.look,aA]),ef (by simp[fresh,aH,aD,dW,inObs,Pv.look,aA]),Ψ⟩) he ?_
  rintro⟨n,u,m⟩ ae ab
  simp only at ae ab⊢
  cases n with
  |zero=>simp[xv]at ae
  |succ n=>
   simp only[xv]at ae
   simp[aA]
   (with_reducible repeat' first|((first|apply bS|apply bW|apply bV)<;>intro h<;>try simp at h)|refine aj ?_|simp)
   ·rw[if_neg h]at ae
    refine bO.whl (n,h9 (eK u (h9 m (h9 m u)) m) u,eK u (h9 m (h9 m u)) m) (Nat.lt_succ_self n) ae ?_
    simp[aA]
    exact⟨by simp[fresh,aH,aD,b7,inObs,Pv.look,aA],ee (by simp[fresh,aH,aD,b7,inObs,Pv.look,aA]),ef (by simp[fresh,aH,aD,dW,inObs,Pv.look,aA]),Ψ⟩
   ·rw[if_pos h]at ae
    cases ae
    refine cF.at _ (.inl rfl) ei dG aL aL ?_
    simp[cL,XO,aX,aY,aW]
end
section
open Go Go.Pv
theorem agq(c:bA)(v r:Int)(cw:bA)(he:rt c v=some (r,cw)):bH ak 243 [.int .i64 v,.eptr aA] (aP c) fun eT ah=>eT= .tuple []/\ah=aP cw:=by have ag:=cm c;simp only[aP,az]at ag⊢;refine bH.mk mixed jH adY akY Ψ ag.obj fun aK cB=>?_;unfold QD;simp[aA];(refine cT.ob (r7 c v r cw he) (by first|exact cm _|exact cm ‹_› _) (by simp only[aP,az,aA,bZ,b6];exact aL) (by simp only[aP,az,aA,bZ,b6];exact aL) (by simp[inObs,Pv.look,aP,az,aA]) ?_;rintro r ah ⟨rfl,rfl⟩;refine⟨(Same.keys (by simp[aP,az,aA]) (by simp[aP,az,aA])),?_⟩;simp[cl,aP,az,aA]);(refine cF.at (aP cw) Ψ (by first|exact cm _|exact cm ‹_› _) (Same.keys (by simp[aP,az,aA]) (by simp[aP,az,aA])) (by simp only[aP,az,aA,bZ,b6];exact aL) (by simp only[aP,az,aA,bZ,b6];exact aL) ?_;simp[cL,XM,aX,aY,aW,inObs,Pv.look,aP,az,aA])
theorem KT(c:bA)(t:T)(cw:bA)(he:Bj t c=some cw):bH ak 197 [aA,t.e] (aP c) fun eT ah=>eT= .tuple []/\ah=aP cw:=by
 have ag:=cm c;have key:=KQ aP cm Fg 243 [.eptr aA] (fun a=>by simp[aP,az,aA,inObs,Pv.look]) rfl (fun(v:Int) (c:bA)=>(rt c v).map Prod.snd) (fun v a bq h=>by rw[ha]at h;obtain⟨⟨r,bK⟩,J,rfl⟩:=h;exact agq a v r bK J) t c cw he
 simp only[aP,az]at ag⊢;refine bH.mk mixed jH adX akX Ψ ag.obj fun aK cB=>?_;unfold QC;simp[aA];(refine cT.ob (key) (by first|exact cm _|exact cm ‹_› _) (by simp only[aP,az,aA,bZ,b6];exact aL) (by simp only[aP,az,aA,bZ,b6];exact aL) (by simp[inObs,Pv.look,aP,az,aA]) ?_;rintro r ah ⟨rfl,rfl⟩;refine⟨(Same.keys (by simp[aP,az,aA]) (by simp[aP,az,aA])),?_⟩;simp[cl,aP,az,aA]);(refine cF.at (aP cw) Ψ (by first|exact cm _|exact cm ‹_› _) (Same.keys (by simp[aP,az,aA]) (by simp[aP,az,aA])) (by simp only[aP,az,aA,bZ,b6];exact aL) (by simp only[aP,az,aA,bZ,b6];exact aL) ?_;simp[cL,XL,aX,aY,aW,inObs,Pv.look,aP,az,aA])
def eI(K:Nat)(a:bA×List (Int×Bool)):cH:=⟨az a.1++[(.obj K,p6 a.2)],[]⟩
def gl(K:Nat)(a:uH):cH:=⟨az a.c++[(.obj K,p6 a.seen),(.obj 712,[.bool a.found])],[]⟩
def y9(K:Nat):Prop:=K=715\/K=716
theorem iu{K:Nat}(c8:y9 K)(a):dN (eI K a):=by unfold eI az;rcases c8 with rfl|rfl;all_goals exact dN.of ⟨by intro m;simp[Pv.look],by intro m;simp[Pv.look]⟩ Ψ Ψ
theorem qi{K:Nat}(c8:y9 K)(a):dN (gl K a):=by unfold gl az;rcases c8 with rfl|rfl;all_goals exact dN.of ⟨by intro m;simp[Pv.look],by intro m;simp[Pv.look]⟩ Ψ Ψ
theorem Jb{K:Nat}(a b):Same (gl K a) (gl K b):=by
 refine⟨fun k=>?_,fun k=>rfl⟩;simp only[gl,az,bZ,b6,Pv.look];repeat' split
 all_goals rfl
theorem agx{K:Nat}(c8:y9 K)(n:Nat)(x:Int)(wO:∀t c seen a,qa n x t c seen=some a->bH ak 244 [aA,t.e,.int .i64 x,.gmap (.obj K)] (eI K (c,seen)) fun r ah=>r= .bool a.found/\ah=eI K (a.c,a.seen))
  (v:Int) (a bq:uH) (he:xu (qa n x) x v a=some bq):bH ak 273 [.int .i64 v,.eptr aA,.ptr (.obj 712) 0,.eptr (.int .i64 x),.eptr (.gmap (.obj K))] (gl K a) fun r ah=>r= .tuple []/\ah=gl K bq:=by
 have ag:=qi c8 a;simp only[xu,nj]at he;obtain⟨⟨r,bK⟩,J,U⟩:=he;simp only at U;have ad:=c8;rcases ad with rfl|rfl;all_goals
  simp only[gl,az,bZ,b6]at ag⊢
  refine bH.mk mixed jH ad0 ak0 Ψ ag.obj fun aK cB=>?_;unfold QF
  simp[aA]
  (refine cT.ob (r7 a.c v r bK J) (by first|exact cm _|exact cm ‹_› _) (by simp only[aP,az,aA,bZ,b6];exact aL) (by simp only[aP,az,aA,bZ,b6];exact aL) (by simp[inObs,Pv.look,aP,az,aA]) ?_;rintro r ah ⟨rfl,rfl⟩;refine⟨(Same.keys (by simp[aP,az,aA]) (by simp[aP,az,aA])),?_⟩;simp[cl,aP,az,aA])
  obtain⟨ac,um,Jr⟩:=a
  cases Jr with
  |true=>
   simp at U;subst U
   (with_reducible repeat' first|refine aj ?_|simp)
   (refine cF.at (gl _ ⟨bK,um,true⟩) Ψ (by first|exact qi _|exact qi ‹_› _) (Same.keys (by simp[gl,az,aA]) (by simp[gl,az,aA])) (by simp only[gl,az,aA,bZ,b6];exact aL) (by simp only[gl,az,aA,bZ,b6];exact aL) ?_;simp[cL,BG,aX,aY,aW,inObs,Pv.look,gl,az,aA])
  |false=>
   by_cases af:r=x
   ·simp[af]at U;subst U
    (with_reducible repeat' first|refine aj ?_|simp[af])
    (refine cF.at (gl _ ⟨bK,um,true⟩) Ψ (by first|exact qi _|exact qi ‹_› _) (Same.keys (by simp[gl,az,aA]) (by simp[gl,az,aA])) (by simp only[gl,az,aA,bZ,b6];exact aL) (by simp only[gl,az,aA,bZ,b6];exact aL) ?_;simp[cL,BG,aX,aY,aW,inObs,Pv.look,gl,az,aA])
   ·have iy:(r==x)=false:=by simp[af]
    simp only[af,hl,or_self,if_false]at U
    cases AX:(c3 r um).getD false with
    |true=>
     simp[AX]at U;subst U
     (with_reducible repeat' first|refine aj ?_|simp[iy,AX])
     (refine cF.at (gl _ ⟨bK,um,false⟩) Ψ (by first|exact qi _|exact qi ‹_› _) (Same.keys (by simp[gl,az,aA]) (by simp[gl,az,aA])) (by simp only[gl,az,aA,bZ,b6];exact aL) (by simp only[gl,az,aA,bZ,b6];exact aL) ?_;simp[cL,BG,aX,aY,aW,inObs,Pv.look,gl,az,aA])
    |false=>
     cases gU:bK.shd r with
     |false=>
      have LJ:(c3 r bK.shaped).getD false=false:=gU
      simp[AX,gU]at U;subst U
      (with_reducible repeat' first|refine aj ?_|simp[iy,AX,LJ])
      (refine cF.at (gl _ ⟨bK,um,false⟩) Ψ (by first|exact qi _|exact qi ‹_› _) (Same.keys (by simp[gl,az,aA]) (by simp[gl,az,aA])) (by simp only[gl,az,aA,bZ,b6];exact aL) (by simp only[gl,az,aA,bZ,b6];exact aL) ?_;simp[cL,BG,aX,aY,aW,inObs,Pv.look,gl,az,aA])
     |true=>
      have LJ:(c3 r bK.shaped).getD false=true:=gU
      simp[AX,gU]at U
      have aM:=wO _ _ _ _ U
      (with_reducible repeat' first|refine aj ?_|simp[iy,AX,LJ])
      (refine hn.ob (aM) (by first|exact iu _|exact iu ‹_› _) (by first|exact iu _|exact iu ‹_› _) (Same.keys (by simp[eI,az,aA]) (by simp[eI,az,aA])) (by simp only[eI,az,aA,bZ,b6];exact aL) (by simp only[eI,az,aA,bZ,b6];exact aL) (by simp[inObs,Pv.look,eI,az,aA]) ?_;simp[cl,eI,az,aA])
      (with_reducible repeat' first|refine aj ?_|simp)
      (refine cF.at (gl _ bq) Ψ (by first|exact qi _|exact qi ‹_› _) (Same.keys (by simp[gl,az,aA]) (by simp[gl,az,aA])) (by simp only[gl,az,aA,bZ,b6];exact aL) (by simp only[gl,az,aA,bZ,b6];exact aL) ?_;simp[cL,BG,aX,aY,aW,inObs,Pv.look,gl,az,aA])
theorem Gg{K:Nat}(c8:y9 K)(x:Int)(n:Nat):∀(t:T) (c:bA) (seen:List (Int×Bool)) (a:uH),qa n x t c seen=some a->bH ak 244 [aA,t.e,.int .i64 x,.gmap (.obj K)] (eI K (c,seen)) fun r ah=>r= .bool a.found/\ah=eI K (a.c,a.seen):=by
 induction n with
 |zero=>intro t c seen a h;simp[qa]at h
 |succ n bR=>
  intro t c seen a h;simp only[qa]at h;have ag:=iu c8 (c,seen);have key:=KQ (gl K) (qi c8) Jb 273 [.eptr aA,.ptr (.obj 712) 0,.eptr (.int .i64 x),.eptr (.gmap (.obj K))] (fun a=>by rcases c8 with rfl|rfl<;>simp[gl,az,aA,inObs,Pv.look]) rfl (xu (qa n x) x) (fun v a bq h=>agx c8 n x bR v a bq h) t ⟨c,seen,false⟩ a h;have ad:=c8;rcases ad with rfl|rfl;all_goals
   simp only[eI,az,bZ,b6]at ag⊢
   refine bH.mk mixed jH adZ akZ Ψ ag.obj fun aK cB=>?_;unfold QE
   simp[aA]
   refine cT.new key (qi c8 _) (by simp only[gl,az,aA,bZ,b6];exact aL) (by simp only[gl,az,aA,bZ,b6];exact aL) (by simp[inObs,Pv.look,gl,az,aA]) ?_
   rintro r ah ⟨rfl,rfl⟩
   refine⟨fun m hm=>.inl ⟨?_,Jb _ _⟩,?_⟩
   ·exact((Jb _ _).inObs _).2 hm
   simp[cl,gl,az]
   (with_reducible repeat' first|refine aj ?_|simp)
   (refine cF.at (eI _ (a.c,a.seen)) Ψ (by first|exact iu _|exact iu ‹_› _) (Same.keys (by simp[eI,az,aA]) (by simp[eI,az,aA])) (by simp only[eI,az,aA,bZ,b6];exact aL) (by simp only[eI,az,aA,bZ,b6];exact aL) ?_;simp[cL,XN,aX,aY,aW,inObs,Pv.look,eI,az,aA])
@[simp]theorem Mu:p6 []=jZ []:=rfl
@[simp]theorem avE(t:T):xC (some t)=t.e:=rfl
@[simp]theorem avD:xC none= .agg [.int .i64 0,.int .i64 0,.str [],.slice 4 .nil []]:=rfl
theorem TO(n:Nat)(x:Int)(t:T)(c:bA)(p:Bool×bA)(he:vt n x t c=some p):bH ak 245 [aA,.int .i64 x,t.e] (aP c) fun r ah=>r= .bool p.1/\ah=aP p.2:=by have ag:=cm c;simp only[vt,ha]at he;obtain⟨a,J,rfl⟩:=he;have c8:y9 715:= .inl rfl;have key:=Gg c8 x n t (c.know x t) [] a J;simp only[aP,az]at ag⊢;refine bH.mk mixed jH adW akW Ψ ag.obj fun aK cB=>?_;unfold QB;simp[aA];(refine cT.ob (key) (by first|exact iu _|exact iu ‹_› _) (by simp only[eI,az,aA,bA.know,bZ,b6];exact aL) (by simp only[eI,az,aA,bA.know,bZ,b6];exact aL) (by simp[inObs,Pv.look,eI,az,aA,bA.know]) ?_;rintro r ah ⟨rfl,rfl⟩;refine⟨(Same.keys (by simp[eI,az,aA,bA.know]) (by simp[eI,az,aA,bA.know])),?_⟩;simp[cl,eI,az,aA,bA.know]);(refine cF.at (aP a.c) Ψ (by first|exact cm _|exact cm ‹_› _) (Same.keys (by simp[aP,az,aA]) (by simp[aP,az,aA])) (by simp only[aP,az,aA,bZ,b6];exact aL) (by simp only[aP,az,aA,bZ,b6];exact aL) ?_;simp[cL,XK,aX,aY,aW,inObs,Pv.look,aP,az,aA])
theorem TM(n:Nat):∀(a b:T) (c:bA) (p:Bool×bA),gL n a b c=some p->bH ak 198 [aA,a.e,b.e] (aP c) fun r ah=>r= .bool p.1/\ah=aP p.2:=by
 induction n with
 |zero=>intro a b c p h;simp[gL]at h
 |succ n bR=>
  intro a b c p he;have ag:=cm c;have DC:∀i j,a= .var i->b= .var j->bH ak 198 [aA,a.e,b.e] (aP c) fun r ah=>r= .bool p.1/\ah=aP p.2:=by
   rintro i j rfl rfl;simp only[gL,nj]at he;obtain⟨⟨x,bK⟩,J,⟨y,cq⟩,U,au⟩:=he;simp only at U au;simp only[aP,az]at ag⊢;refine bH.mk mixed jH x9 zb Ψ ag.obj fun aK cB=>?_;unfold wj;simp[aA];(refine cT.ob (r7 c i x bK J) (by first|exact cm _|exact cm ‹_› _) (by simp only[aP,az,aA,bZ,b6];exact aL) (by simp only[aP,az,aA,bZ,b6];exact aL) (by simp[inObs,Pv.look,aP,az,aA]) ?_;rintro r ah ⟨rfl,rfl⟩;refine⟨(Same.keys (by simp[aP,az,aA]) (by simp[aP,az,aA])),?_⟩;simp[cl,aP,az,aA]);(with_reducible repeat' first|refine aj ?_|simp);(refine cT.ob (r7 bK j y cq U) (by first|exact cm _|exact cm ‹_› _) (by simp only[aP,az,aA,bZ,b6];exact aL) (by simp only[aP,az,aA,bZ,b6];exact aL) (by simp[inObs,Pv.look,aP,az,aA]) ?_;rintro r ah ⟨rfl,rfl⟩;refine⟨(Same.keys (by simp[aP,az,aA]) (by simp[aP,az,aA])),?_⟩;simp[cl,aP,az,aA]);by_cases h3:x=y
   ·rw[if_pos h3]at au;cases au;(with_reducible repeat' first|refine aj ?_|simp[h3]);(refine cF.at (aP cq) Ψ (by first|exact cm _|exact cm ‹_› _) (Same.keys (by simp[aP,az,aA]) (by simp[aP,az,aA])) (by simp only[aP,az,aA,bZ,b6];exact aL) (by simp only[aP,az,aA,bZ,b6];exact aL) ?_;simp[cL,oz,aX,aY,aW,inObs,Pv.look,aP,az,aA])
   ·rw[if_neg h3]at au;have A3:(x==y)=false:=by simp[h3]
    have T6:y9 715:= .inl rfl;have aha:y9 716:= .inr rfl;obtain⟨u,v,A0,a6⟩:∃u v,((u=y/\v=x/\y<x)\/(u=x/\v=y/\¬y<x))/\r2 (gL n) n u v (cq.join u v)=some p:=by
     by_cases bD:y<x
     ·rw[if_pos bD]at au;exact⟨y,x,.inl ⟨rfl,rfl,bD⟩,au⟩
     ·rw[if_neg bD]at au;exact⟨x,y,.inr ⟨rfl,rfl,bD⟩,au⟩
    clear au;obtain⟨d,aR⟩:∃d,d=cq.join u v:=⟨_,rfl⟩;have fC:d.up=eK v u cq.up:=by rw[aR];rfl
    have eW:d.shape=cq.shape:=by rw[aR];rfl
    have gM:d.shaped=cq.shaped:=by rw[aR];rfl
    have hK:d.color=cq.color:=by rw[aR];rfl
    have hL:d.size=cq.size:=by rw[aR];rfl
    have hM:d.full=cq.full:=by rw[aR];rfl
    rw[<-aR]at a6;simp only[r2]at a6;cases aB:d.shd v with
    |false=>
     have mo:(c3 v cq.shaped).getD false=false:=by rw[<-gM];exact aB
     rw[if_pos aB]at a6;cases hu:d.shd u with
     |false=>
      have su:(c3 u cq.shaped).getD false=false:=by rw[<-gM];exact hu
      rw[if_pos hu]at a6;cases a6;rcases A0 with⟨rfl,rfl,bD⟩|⟨rfl,rfl,bD⟩;all_goals
       (with_reducible repeat' first|refine aj ?_|simp[A3,bD,mo,su])
       (refine cF.at (aP d) Ψ (by first|exact cm _|exact cm ‹_› _) (Same.keys (by simp[aP,az,aA,fC,eW,gM,hK,hL,hM]) (by simp[aP,az,aA,fC,eW,gM,hK,hL,hM])) (by simp only[aP,az,aA,fC,eW,gM,hK,hL,hM,bZ,b6];exact aL) (by simp only[aP,az,aA,fC,eW,gM,hK,hL,hM,bZ,b6];exact aL) ?_;simp[cL,oz,aX,aY,aW,inObs,Pv.look,aP,az,aA,fC,eW,gM,hK,hL,hM])
     |true=>
      have su:(c3 u cq.shaped).getD false=true:=by rw[<-gM];exact hu
      rw[if_neg (by simp[hu]),ha]at a6;obtain⟨a,b3,rfl⟩:=a6;have key:=Gg T6 u n _ _ _ _ b3;rw[show d.shp u=(c3 u cq.shape).getD .nil from by rw[<-eW];rfl]at key;rcases A0 with⟨rfl,rfl,bD⟩|⟨rfl,rfl,bD⟩;all_goals
       (with_reducible repeat' first|refine aj ?_|simp[A3,bD,mo,su])
       (refine cT.ob (key) (by first|exact iu _|exact iu ‹_› _) (by simp only[eI,az,aA,fC,eW,gM,hK,hL,hM,bZ,b6];exact aL) (by simp only[eI,az,aA,fC,eW,gM,hK,hL,hM,bZ,b6];exact aL) (by simp[inObs,Pv.look,eI,az,aA,fC,eW,gM,hK,hL,hM]) ?_;rintro r ah ⟨rfl,rfl⟩;refine⟨(Same.keys (by simp[eI,az,aA,fC,eW,gM,hK,hL,hM]) (by simp[eI,az,aA,fC,eW,gM,hK,hL,hM])),?_⟩;simp[cl,eI,az,aA,fC,eW,gM,hK,hL,hM])
       (with_reducible repeat' first|refine aj ?_|simp)
       (refine cF.at (aP a.c) Ψ (by first|exact cm _|exact cm ‹_› _) (Same.keys (by simp[aP,az,aA]) (by simp[aP,az,aA])) (by simp only[aP,az,aA,bZ,b6];exact aL) (by simp only[aP,az,aA,bZ,b6];exact aL) ?_;simp[cL,oz,aX,aY,aW,inObs,Pv.look,aP,az,aA])
    |true=>
     have mo:(c3 v cq.shaped).getD false=true:=by rw[<-gM];exact aB
     rw[if_neg (by simp[aB])]at a6;rw[show d.shp v=(c3 v cq.shape).getD .nil from by rw[<-eW];rfl]at a6;cases hu:d.shd u with
     |false=>
      have su:(c3 u cq.shaped).getD false=false:=by rw[<-gM];exact hu
      rw[if_pos hu]at a6;have key:=TO n u _ d p a6;cases aN:c3 v cq.shape;all_goals
       rw[aN]at key
       simp only[jA,nk]at key
       rcases A0 with⟨rfl,rfl,bD⟩|⟨rfl,rfl,bD⟩
       all_goals
        (with_reducible repeat' first|refine aj ?_|simp[A3,bD,mo,su,aN])
        (refine cT.ob (key) (by first|exact cm _|exact cm ‹_› _) (by simp only[aP,az,aA,fC,eW,gM,hK,hL,hM,bZ,b6];exact aL) (by simp only[aP,az,aA,fC,eW,gM,hK,hL,hM,bZ,b6];exact aL) (by simp[inObs,Pv.look,aP,az,aA,fC,eW,gM,hK,hL,hM]) ?_;rintro r ah ⟨rfl,rfl⟩;refine⟨(Same.keys (by simp[aP,az,aA,fC,eW,gM,hK,hL,hM]) (by simp[aP,az,aA,fC,eW,gM,hK,hL,hM])),?_⟩;simp[cl,aP,az,aA,fC,eW,gM,hK,hL,hM])
        (with_reducible repeat' first|refine aj ?_|simp)
        (refine cF.at (aP p.2) Ψ (by first|exact cm _|exact cm ‹_› _) (Same.keys (by simp[aP,az,aA]) (by simp[aP,az,aA])) (by simp only[aP,az,aA,bZ,b6];exact aL) (by simp only[aP,az,aA,bZ,b6];exact aL) ?_;simp[cL,oz,aX,aY,aW,inObs,Pv.look,aP,az,aA])
     |true=>
      have su:(c3 u cq.shaped).getD false=true:=by rw[<-gM];exact hu
      rw[if_neg (by simp[hu]),nj]at a6;obtain⟨a,b3,c7⟩:=a6;have key:=Gg T6 u n _ _ _ _ b3;obtain⟨o,aN⟩:∃o,c3 v cq.shape=o:=⟨_,rfl⟩;rw[aN]at key c7;obtain⟨ac,um,Jr⟩:=a;cases Jr with
      |true=>
       simp at c7;subst c7;cases o;all_goals
        simp only[jA,nk]at key
        rcases A0 with⟨rfl,rfl,bD⟩|⟨rfl,rfl,bD⟩
        all_goals
         (with_reducible repeat' first|refine aj ?_|simp[A3,bD,mo,su,aN])
         (refine hn.ob (key) (by first|exact iu _|exact iu ‹_› _) (by first|exact iu _|exact iu ‹_› _) (Same.keys (by simp[eI,az,aA,fC,eW,gM,hK,hL,hM]) (by simp[eI,az,aA,fC,eW,gM,hK,hL,hM])) (by simp only[eI,az,aA,fC,eW,gM,hK,hL,hM,bZ,b6];exact aL) (by simp only[eI,az,aA,fC,eW,gM,hK,hL,hM,bZ,b6];exact aL) (by simp[inObs,Pv.look,eI,az,aA,fC,eW,gM,hK,hL,hM]) ?_;simp[cl,eI,az,aA,fC,eW,gM,hK,hL,hM])
         (with_reducible repeat' first|refine aj ?_|simp)
         (refine cF.at (aP ac) Ψ (by first|exact cm _|exact cm ‹_› _) (Same.keys (by simp[aP,az,aA]) (by simp[aP,az,aA])) (by simp only[aP,az,aA,bZ,b6];exact aL) (by simp only[aP,az,aA,bZ,b6];exact aL) ?_;simp[cL,oz,aX,aY,aW,inObs,Pv.look,aP,az,aA])
      |false=>
       simp only[hl,if_false,nj]at c7;obtain⟨b,et,od⟩:=c7;have w3:=Gg aha u n _ _ _ _ et;rw[show ac.shp u=(c3 u ac.shape).getD .nil from rfl]at w3;obtain⟨Jx,arF,abp⟩:=b;cases abp with
       |true=>
        simp at od;subst od;cases o;all_goals
         simp only[jA,nk]at key
         rcases A0 with⟨rfl,rfl,bD⟩|⟨rfl,rfl,bD⟩
         all_goals
          (with_reducible repeat' first|refine aj ?_|simp[A3,bD,mo,su,aN])
          (refine hn.ob (key) (by first|exact iu _|exact iu ‹_› _) (by first|exact iu _|exact iu ‹_› _) (Same.keys (by simp[eI,az,aA,fC,eW,gM,hK,hL,hM]) (by simp[eI,az,aA,fC,eW,gM,hK,hL,hM])) (by simp only[eI,az,aA,fC,eW,gM,hK,hL,hM,bZ,b6];exact aL) (by simp only[eI,az,aA,fC,eW,gM,hK,hL,hM,bZ,b6];exact aL) (by simp[inObs,Pv.look,eI,az,aA,fC,eW,gM,hK,hL,hM]) ?_;simp[cl,eI,az,aA,fC,eW,gM,hK,hL,hM])
          (with_reducible repeat' first|refine aj ?_|simp)
          (refine hn.ob (w3) (by first|exact iu _|exact iu ‹_› _) (by first|exact iu _|exact iu ‹_› _) (Same.keys (by simp[eI,az,aA]) (by simp[eI,az,aA])) (by simp only[eI,az,aA,bZ,b6];exact aL) (by simp only[eI,az,aA,bZ,b6];exact aL) (by simp[inObs,Pv.look,eI,az,aA]) ?_;simp[cl,eI,az,aA])
          (with_reducible repeat' first|refine aj ?_|simp)
          (refine cF.at (aP Jx) Ψ (by first|exact cm _|exact cm ‹_› _) (Same.keys (by simp[aP,az,aA]) (by simp[aP,az,aA])) (by simp only[aP,az,aA,bZ,b6];exact aL) (by simp only[aP,az,aA,bZ,b6];exact aL) ?_;simp[cL,oz,aX,aY,aW,inObs,Pv.look,aP,az,aA])
       |false=>
        simp only[hl,if_false]at od;have Md:=bR _ _ _ _ od;rw[show Jx.shp u=(c3 u Jx.shape).getD .nil from rfl]at Md;cases o;all_goals
         simp only[jA,nk]at key Md
         rcases A0 with⟨rfl,rfl,bD⟩|⟨rfl,rfl,bD⟩
         all_goals
          (with_reducible repeat' first|refine aj ?_|simp[A3,bD,mo,su,aN])
          (refine hn.ob (key) (by first|exact iu _|exact iu ‹_› _) (by first|exact iu _|exact iu ‹_› _) (Same.keys (by simp[eI,az,aA,fC,eW,gM,hK,hL,hM]) (by simp[eI,az,aA,fC,eW,gM,hK,hL,hM])) (by simp only[eI,az,aA,fC,eW,gM,hK,hL,hM,bZ,b6];exact aL) (by simp only[eI,az,aA,fC,eW,gM,hK,hL,hM,bZ,b6];exact aL) (by simp[inObs,Pv.look,eI,az,aA,fC,eW,gM,hK,hL,hM]) ?_;simp[cl,eI,az,aA,fC,eW,gM,hK,hL,hM])
          (with_reducible repeat' first|refine aj ?_|simp)
          (refine hn.ob (w3) (by first|exact iu _|exact iu ‹_› _) (by first|exact iu _|exact iu ‹_› _) (Same.keys (by simp[eI,az,aA]) (by simp[eI,az,aA])) (by simp only[eI,az,aA,bZ,b6];exact aL) (by simp only[eI,az,aA,bZ,b6];exact aL) (by simp[inObs,Pv.look,eI,az,aA]) ?_;simp[cl,eI,az,aA])
          (with_reducible repeat' first|refine aj ?_|simp)
          (refine hn.ob (Md) (by first|exact cm _|exact cm ‹_› _) (by first|exact cm _|exact cm ‹_› _) (Same.keys (by simp[aP,az,aA]) (by simp[aP,az,aA])) (by simp only[aP,az,aA,bZ,b6];exact aL) (by simp only[aP,az,aA,bZ,b6];exact aL) (by simp[inObs,Pv.look,aP,az,aA]) ?_;simp[cl,aP,az,aA])
          (with_reducible repeat' first|refine aj ?_|simp)
          (refine cF.at (aP p.2) Ψ (by first|exact cm _|exact cm ‹_› _) (Same.keys (by simp[aP,az,aA]) (by simp[aP,az,aA])) (by simp only[aP,az,aA,bZ,b6];exact aL) (by simp only[aP,az,aA,bZ,b6];exact aL) ?_;simp[cL,oz,aX,aY,aW,inObs,Pv.look,aP,az,aA])
  have aB:∀i,a= .var i->b.kind≠1->bH ak 198 [aA,a.e,b.e] (aP c) fun r ah=>r= .bool p.1/\ah=aP p.2:=by
   rintro i rfl ab;have wE:((rt c i).bind fun p=>if p.2.shd p.1=false then vt n p.1 b p.2 else gL n (p.2.shp p.1) b p.2)=some p:=by cases b<;>first|exact he|simp at ab
   simp only[nj]at wE;obtain⟨⟨x,bK⟩,J,U⟩:=wE;simp only at U;have fW:(b.kind==1)=false:=by simp[ab]
   simp only[aP,az]at ag⊢;refine bH.mk mixed jH x9 zb Ψ ag.obj fun aK cB=>?_;unfold wj;simp[aA];(with_reducible repeat' first|refine aj ?_|simp[fW,ab]);(refine cT.ob (r7 c i x bK J) (by first|exact cm _|exact cm ‹_› _) (by simp only[aP,az,aA,bZ,b6];exact aL) (by simp only[aP,az,aA,bZ,b6];exact aL) (by simp[inObs,Pv.look,aP,az,aA]) ?_;rintro r ah ⟨rfl,rfl⟩;refine⟨(Same.keys (by simp[aP,az,aA]) (by simp[aP,az,aA])),?_⟩;simp[cl,aP,az,aA]);cases af:bK.shd x with
   |false=>have iy:(c3 x bK.shaped).getD false=false:=af;rw[if_pos af]at U;(with_reducible repeat' first|refine aj ?_|simp[iy]);(refine cT.ob (TO n x b bK p U) (by first|exact cm _|exact cm ‹_› _) (by simp only[aP,az,aA,bZ,b6];exact aL) (by simp only[aP,az,aA,bZ,b6];exact aL) (by simp[inObs,Pv.look,aP,az,aA]) ?_;rintro r ah ⟨rfl,rfl⟩;refine⟨(Same.keys (by simp[aP,az,aA]) (by simp[aP,az,aA])),?_⟩;simp[cl,aP,az,aA]);(refine cF.at (aP p.2) Ψ (by first|exact cm _|exact cm ‹_› _) (Same.keys (by simp[aP,az,aA]) (by simp[aP,az,aA])) (by simp only[aP,az,aA,bZ,b6];exact aL) (by simp only[aP,az,aA,bZ,b6];exact aL) ?_;simp[cL,oz,aX,aY,aW,inObs,Pv.look,aP,az,aA])
   |true=>have iy:(c3 x bK.shaped).getD false=true:=af;rw[if_neg (by simp[af])]at U;have key:=bR _ _ _ _ U;(with_reducible repeat' first|refine aj ?_|simp[iy]);(refine hn.ob (key) (by first|exact cm _|exact cm ‹_› _) (by first|exact cm _|exact cm ‹_› _) (Same.keys (by simp[aP,az,aA]) (by simp[aP,az,aA])) (by simp only[aP,az,aA,bZ,b6];exact aL) (by simp only[aP,az,aA,bZ,b6];exact aL) (by simp[inObs,Pv.look,aP,az,aA]) ?_;simp[cl,aP,az,aA]);(with_reducible repeat' first|refine aj ?_|simp);(refine cF.at (aP p.2) Ψ (by first|exact cm _|exact cm ‹_› _) (Same.keys (by simp[aP,az,aA]) (by simp[aP,az,aA])) (by simp only[aP,az,aA,bZ,b6];exact aL) (by simp only[aP,az,aA,bZ,b6];exact aL) ?_;simp[cL,oz,aX,aY,aW,inObs,Pv.look,aP,az,aA])
  cases a with
  |var i=>
   cases b with
   |var j=>exact DC i j rfl rfl
   |_=>exact aB i rfl Ψ
  |pair bC a2=>
   cases b with
   |var j=>simp only[gL]at he;have key:=bR _ _ _ _ he;simp only[aP,az]at ag⊢;refine bH.mk mixed jH x9 zb Ψ ag.obj fun aK cB=>?_;unfold wj;simp[aA];(refine cT.ob (key) (by first|exact cm _|exact cm ‹_› _) (by simp only[aP,az,aA,bZ,b6];exact aL) (by simp only[aP,az,aA,bZ,b6];exact aL) (by simp[inObs,Pv.look,aP,az,aA]) ?_;rintro r ah ⟨rfl,rfl⟩;refine⟨(Same.keys (by simp[aP,az,aA]) (by simp[aP,az,aA])),?_⟩;simp[cl,aP,az,aA]);(refine cF.at (aP p.2) Ψ (by first|exact cm _|exact cm ‹_› _) (Same.keys (by simp[aP,az,aA]) (by simp[aP,az,aA])) (by simp only[aP,az,aA,bZ,b6];exact aL) (by simp only[aP,az,aA,bZ,b6];exact aL) ?_;simp[cL,oz,aX,aY,aW,inObs,Pv.look,aP,az,aA])
   |pair ch ca=>
    simp only[gL,nj]at he;obtain⟨⟨f1,bK⟩,J,U⟩:=he;have key:=bR _ _ _ _ J;simp only[aP,az]at ag⊢;refine bH.mk mixed jH x9 zb Ψ ag.obj fun aK cB=>?_;unfold wj;simp[aA];(with_reducible repeat' first|refine aj ?_|simp);(refine hn.ob (key) (by first|exact cm _|exact cm ‹_› _) (by first|exact cm _|exact cm ‹_› _) (Same.keys (by simp[aP,az,aA]) (by simp[aP,az,aA])) (by simp only[aP,az,aA,bZ,b6];exact aL) (by simp only[aP,az,aA,bZ,b6];exact aL) (by simp[inObs,Pv.look,aP,az,aA]) ?_;simp[cl,aP,az,aA]);cases f1 with
    |false=>simp at U;subst U;(with_reducible repeat' first|refine aj ?_|simp);(refine cF.at (aP bK) Ψ (by first|exact cm _|exact cm ‹_› _) (Same.keys (by simp[aP,az,aA]) (by simp[aP,az,aA])) (by simp only[aP,az,aA,bZ,b6];exact aL) (by simp only[aP,az,aA,bZ,b6];exact aL) ?_;simp[cL,oz,aX,aY,aW,inObs,Pv.look,aP,az,aA])
    |true=>simp at U;have w3:=bR _ _ _ _ U;(with_reducible repeat' first|refine aj ?_|simp);(refine hn.ob (w3) (by first|exact cm _|exact cm ‹_› _) (by first|exact cm _|exact cm ‹_› _) (Same.keys (by simp[aP,az,aA]) (by simp[aP,az,aA])) (by simp only[aP,az,aA,bZ,b6];exact aL) (by simp only[aP,az,aA,bZ,b6];exact aL) (by simp[inObs,Pv.look,aP,az,aA]) ?_;simp[cl,aP,az,aA]);(with_reducible repeat' first|refine aj ?_|simp);(refine cF.at (aP p.2) Ψ (by first|exact cm _|exact cm ‹_› _) (Same.keys (by simp[aP,az,aA]) (by simp[aP,az,aA])) (by simp only[aP,az,aA,bZ,b6];exact aL) (by simp only[aP,az,aA,bZ,b6];exact aL) ?_;simp[cL,oz,aX,aY,aW,inObs,Pv.look,aP,az,aA])
   |_=>simp[gL]at he;subst he;simp only[aP,az]at ag⊢;refine bH.mk mixed jH x9 zb Ψ ag.obj fun aK cB=>?_;unfold wj;simp[aA];(refine cF.at (aP c) Ψ (by first|exact cm _|exact cm ‹_› _) (Same.keys (by simp[aP,az,aA]) (by simp[aP,az,aA])) (by simp only[aP,az,aA,bZ,b6];exact aL) (by simp only[aP,az,aA,bZ,b6];exact aL) ?_;simp[cL,oz,aX,aY,aW,inObs,Pv.look,aP,az,aA])
  |_=>
   cases b with
   |var j=>simp only[gL]at he;have key:=bR _ _ _ _ he;simp only[aP,az]at ag⊢;refine bH.mk mixed jH x9 zb Ψ ag.obj fun aK cB=>?_;unfold wj;simp[aA];(refine cT.ob (key) (by first|exact cm _|exact cm ‹_› _) (by simp only[aP,az,aA,bZ,b6];exact aL) (by simp only[aP,az,aA,bZ,b6];exact aL) (by simp[inObs,Pv.look,aP,az,aA]) ?_;rintro r ah ⟨rfl,rfl⟩;refine⟨(Same.keys (by simp[aP,az,aA]) (by simp[aP,az,aA])),?_⟩;simp[cl,aP,az,aA]);(refine cF.at (aP p.2) Ψ (by first|exact cm _|exact cm ‹_› _) (Same.keys (by simp[aP,az,aA]) (by simp[aP,az,aA])) (by simp only[aP,az,aA,bZ,b6];exact aL) (by simp only[aP,az,aA,bZ,b6];exact aL) ?_;simp[cL,oz,aX,aY,aW,inObs,Pv.look,aP,az,aA])
   |_=>
    simp[gL]at he;subst he;simp only[aP,az]at ag⊢;refine bH.mk mixed jH x9 zb Ψ ag.obj fun aK cB=>?_;unfold wj;simp[aA];((with_reducible repeat' first|refine aj ?_|simp|((first|apply bS|apply bW|apply bV)<;>intro h<;>try simp at h))<;>(try exact cy));all_goals(refine cF.at (aP c) Ψ (by first|exact cm _|exact cm ‹_› _) (Same.keys (by simp[aP,az,aA]) (by simp[aP,az,aA])) (by simp only[aP,az,aA,bZ,b6];exact aL) (by simp only[aP,az,aA,bZ,b6];exact aL) ?_;simp[cL,oz,aX,aY,aW,inObs,Pv.look,aP,az,aA])
    all_goals simp_all
def mA(c:bA):Prop:= ∀x,0<=c.sz x/\c.sz x<=5001
theorem mA.rt{c:bA}(h:mA c){v r:Int}{cw:bA}(he:rt c v=some (r,cw)):mA cw:=by simp only[Pv.rt,ha,jB]at he;obtain⟨p,_,_,rfl⟩:=he;exact h
theorem mA.put{c:bA}(h:mA c){x k:Int}(ad:0<=k/\k<=5001)(m:List (Int×Int)):mA {c with size:=eK x k c.size,color:=m}:=fun z=>by
 show 0<=(c3 z (eK x k c.size)).getD 0/\(c3 z (eK x k c.size)).getD 0<=5001;rw[nU];split
 ·exact ad
 ·exact h z
theorem agS(c:bA)(v:Int)(p:Int×bA)(he:zv v c=some p):bH ak 275 [.int .i64 v,.eptr aA] (aP c) fun r ah=>r= .int .i64 p.1/\ah=aP p.2:=by have ag:=cm c;simp only[zv,ha]at he;obtain⟨⟨r,bK⟩,J,rfl⟩:=he;simp only[aP,az]at ag⊢;refine bH.mk mixed jH ad4 ak4 Ψ ag.obj fun aK cB=>?_;unfold QJ;simp[aA];(refine hn.ob (r7 c v r bK J) (by first|exact cm _|exact cm ‹_› _) (by first|exact cm _|exact cm ‹_› _) (Same.keys (by simp[aP,az,aA]) (by simp[aP,az,aA])) (by simp only[aP,az,aA,bZ,b6];exact aL) (by simp only[aP,az,aA,bZ,b6];exact aL) (by simp[inObs,Pv.look,aP,az,aA]) ?_;simp[cl,aP,az,aA]);(with_reducible repeat' first|refine aj ?_|simp);(refine cF.at (aP bK) Ψ (by first|exact cm _|exact cm ‹_› _) (Same.keys (by simp[aP,az,aA]) (by simp[aP,az,aA])) (by simp only[aP,az,aA,bZ,b6];exact aL) (by simp only[aP,az,aA,bZ,b6];exact aL) ?_;simp[cL,XQ,aX,aY,aW,inObs,Pv.look,aP,az,aA]);all_goals rfl
def gA(a:bA×Bool):cH:=⟨az a.1++[(.obj 712,[.bool a.2])],[]⟩
theorem qT(a):dN (gA a):=by unfold gA az;exact dN.of ⟨by intro m;simp[Pv.look],by intro m;simp[Pv.look]⟩ Ψ Ψ
theorem aaR(a b):Same (gA a) (gA b):=Same.keys (by simp[gA,az]) (by simp[gA,az])
theorem agR(n:Nat)(wO:∀x c p,qM n x c=some p->mA c->mA p.2/\bH ak 246 [aA,.int .i64 x] (aP c) fun r ah=>r= .bool p.1/\ah=aP p.2)
  (v:Int) (a bq:bA×Bool) (bp:mA a.1) (he:zF (qM n) v a=some bq):mA bq.1/\bH ak 274 [.int .i64 v,.ptr (.obj 712) 0,.eptr aA] (gA a) fun r ah=>r= .tuple []/\ah=gA bq:=by
 have ag:=qT a;obtain⟨c,f⟩:=a;cases f with
 |false=>simp[zF]at he;subst he;refine⟨bp,?_⟩;simp only[gA,az,bZ,b6]at ag⊢;refine bH.mk mixed jH Tc W3 Ψ ag.obj fun aK cB=>?_;unfold JH;simp[aA];(with_reducible repeat' first|refine aj ?_|simp);(refine cF.at (gA (c,false)) Ψ (by first|exact qT _|exact qT ‹_› _) (Same.keys (by simp[gA,az,aA]) (by simp[gA,az,aA])) (by simp only[gA,az,aA,bZ,b6];exact aL) (by simp only[gA,az,aA,bZ,b6];exact aL) ?_;simp[cL,HY,aX,aY,aW,inObs,Pv.look,gA,az,aA])
 |true=>
  simp only[zF,if_true,nj,ha]at he;obtain⟨⟨r,bK⟩,J,⟨f2,cq⟩,U,rfl⟩:=he;obtain⟨z2,key⟩:=wO _ _ _ U (bp.rt J);refine⟨z2,?_⟩;simp only[gA,az,bZ,b6]at ag⊢;refine bH.mk mixed jH Tc W3 Ψ ag.obj fun aK cB=>?_;unfold JH;simp[aA];(with_reducible repeat' first|refine aj ?_|simp);(refine hn.ob (r7 c v r bK J) (by first|exact cm _|exact cm ‹_› _) (by first|exact cm _|exact cm ‹_› _) (Same.keys (by simp[aP,az,aA]) (by simp[aP,az,aA])) (by simp only[aP,az,aA,bZ,b6];exact aL) (by simp only[aP,az,aA,bZ,b6];exact aL) (by simp[inObs,Pv.look,aP,az,aA]) ?_;simp[cl,aP,az,aA]);(with_reducible repeat' first|refine aj ?_|simp);(refine hn.ob (key) (by first|exact cm _|exact cm ‹_› _) (by first|exact cm _|exact cm ‹_› _) (Same.keys (by simp[aP,az,aA]) (by simp[aP,az,aA])) (by simp only[aP,az,aA,bZ,b6];exact aL) (by simp only[aP,az,aA,bZ,b6];exact aL) (by simp[inObs,Pv.look,aP,az,aA]) ?_;simp[cl,aP,az,aA]);cases f2 with
  |true=>(with_reducible repeat' first|refine aj ?_|simp);(refine cF.at (gA (cq,true)) Ψ (by first|exact qT _|exact qT ‹_› _) (Same.keys (by simp[gA,az,aA]) (by simp[gA,az,aA])) (by simp only[gA,az,aA,bZ,b6];exact aL) (by simp only[gA,az,aA,bZ,b6];exact aL) ?_;simp[cL,HY,aX,aY,aW,inObs,Pv.look,gA,az,aA])
  |false=>(with_reducible repeat' first|refine aj ?_|simp);(refine cF.at (gA (cq,false)) Ψ (by first|exact qT _|exact qT ‹_› _) (Same.keys (by simp[gA,az,aA]) (by simp[gA,az,aA])) (by simp only[gA,az,aA,bZ,b6];exact aL) (by simp only[gA,az,aA,bZ,b6];exact aL) ?_;simp[cL,HY,aX,aY,aW,inObs,Pv.look,gA,az,aA])
theorem agQ(n:Nat):∀(x:Int) (c:bA) (p:Bool×bA),qM n x c=some p->mA c->mA p.2/\bH ak 246 [aA,.int .i64 x] (aP c) fun r ah=>r= .bool p.1/\ah=aP p.2:=by
 induction n with
 |zero=>intro x c p h;simp[qM]at h
 |succ n bR=>
  intro x c p he bp;have ag:=cm c;simp only[qM]at he;by_cases U:c.col x=2
  ·rw[if_pos U]at he;cases he;have CY:h9 c.color x=2:=U;refine⟨bp,?_⟩;simp only[aP,az]at ag⊢;refine bH.mk mixed jH CI Ea Ψ ag.obj fun aK cB=>?_;unfold zY;simp[aA];(with_reducible repeat' first|refine aj ?_|simp[CY]);(refine cF.at (aP c) Ψ (by first|exact cm _|exact cm ‹_› _) (Same.keys (by simp[aP,az,aA]) (by simp[aP,az,aA])) (by simp only[aP,az,aA,bZ,b6];exact aL) (by simp only[aP,az,aA,bZ,b6];exact aL) ?_;simp[cL,BH,aX,aY,aW,inObs,Pv.look,aP,az,aA])
  rw[if_neg U]at he;have CY:(h9 c.color x==2)=false:=by simp;exact U
  by_cases J:c.col x=1
  ·rw[if_pos J]at he;cases he;have oc:h9 c.color x=1:=J;refine⟨bp,?_⟩;simp only[aP,az]at ag⊢;refine bH.mk mixed jH CI Ea Ψ ag.obj fun aK cB=>?_;unfold zY;simp[aA];(with_reducible repeat' first|refine aj ?_|simp[oc]);(refine cF.at (aP c) Ψ (by first|exact cm _|exact cm ‹_› _) (Same.keys (by simp[aP,az,aA]) (by simp[aP,az,aA])) (by simp only[aP,az,aA,bZ,b6];exact aL) (by simp only[aP,az,aA,bZ,b6];exact aL) ?_;simp[cL,BH,aX,aY,aW,inObs,Pv.look,aP,az,aA])
  rw[if_neg J]at he;have oc:(h9 c.color x==1)=false:=by simp;exact J
  have Vb:mA (c.grey x):=bp.put Ω _;cases j9:(c.grey x).shd x with
  |false=>rw[if_pos j9]at he;cases he;have tM:(c3 x c.shaped).getD false=false:=j9;refine⟨Vb,?_⟩;simp only[aP,az]at ag⊢;refine bH.mk mixed jH CI Ea Ψ ag.obj fun aK cB=>?_;unfold zY;simp[aA];(with_reducible repeat' first|refine aj ?_|simp[CY,oc,tM]);(refine cF.at (aP ((c.grey x).black x)) Ψ (by first|exact cm _|exact cm ‹_› _) (Same.keys (by simp[aP,az,aA,bA.grey,bA.black]) (by simp[aP,az,aA,bA.grey,bA.black])) (by simp only[aP,az,aA,bA.grey,bA.black,bZ,b6];exact aL) (by simp only[aP,az,aA,bA.grey,bA.black,bZ,b6];exact aL) ?_;simp[cL,BH,aX,aY,aW,inObs,Pv.look,aP,az,aA,bA.grey,bA.black])
  |true=>
   rw[if_neg (by simp[j9]),nj]at he;have tM:(c3 x c.shaped).getD false=true:=j9;obtain⟨⟨e,f⟩,au,a6⟩:=he;simp only at a6;obtain⟨aat,key⟩:=TL gA qT aaR 274 [.ptr (.obj 712) 0,.eptr aA] (fun a=>by simp[gA,az,aA,inObs,Pv.look]) rfl (fun a=>mA a.1) (zF (qM n)) (fun v a bq bp h=>agR n bR v a bq bp h) _ _ _ Vb au;rw[show(c.grey x).shp x=(c3 x c.shape).getD .nil from rfl]at key;cases f with
   |false=>simp at a6;subst a6;refine⟨aat,?_⟩;simp only[aP,az]at ag⊢;refine bH.mk mixed jH CI Ea Ψ ag.obj fun aK cB=>?_;unfold zY;simp[aA];(with_reducible repeat' first|refine aj ?_|simp[CY,oc,tM]);(refine cT.ob (key) (by first|exact qT _|exact qT ‹_› _) (by simp only[gA,az,aA,bA.grey,bZ,b6];exact aL) (by simp only[gA,az,aA,bA.grey,bZ,b6];exact aL) (by simp[inObs,Pv.look,gA,az,aA,bA.grey]) ?_;rintro r ah ⟨rfl,rfl⟩;refine⟨(Same.keys (by simp[gA,az,aA,bA.grey]) (by simp[gA,az,aA,bA.grey])),?_⟩;simp[cl,gA,az,aA,bA.grey]);(with_reducible repeat' first|refine aj ?_|simp);(refine cF.at (aP e) Ψ (by first|exact cm _|exact cm ‹_› _) (Same.keys (by simp[aP,az,aA]) (by simp[aP,az,aA])) (by simp only[aP,az,aA,bZ,b6];exact aL) (by simp only[aP,az,aA,bZ,b6];exact aL) ?_;simp[cL,BH,aX,aY,aW,inObs,Pv.look,aP,az,aA])
   |true=>
    rw[if_neg Ψ,ha]at a6;obtain⟨⟨k,aE⟩,b3,rfl⟩:=a6;obtain⟨z2,ca,w3⟩:=agD aP cm Fg 275 [.eptr aA] (fun a=>by simp[aP,az,aA,inObs,Pv.look]) rfl mA zv (fun v a p bp h=>by simp only[zv,ha]at h;obtain⟨⟨r,bK⟩,J,rfl⟩:=h;exact⟨bp.rt J,(bp.rt J r).1,Int.le_trans (bp.rt J r).2 Ω⟩) (fun v a p _ h=>agS a v p h) _ _ _ aat b3
    rw[show bA.shp e x=(c3 x e.shape).getD .nil from rfl]at w3;refine⟨z2.put ca _,?_⟩;simp only[aP,az]at ag⊢;refine bH.mk mixed jH CI Ea Ψ ag.obj fun aK cB=>?_;unfold zY;simp[aA];(with_reducible repeat' first|refine aj ?_|simp[CY,oc,tM]);(refine cT.ob (key) (by first|exact qT _|exact qT ‹_› _) (by simp only[gA,az,aA,bA.grey,bZ,b6];exact aL) (by simp only[gA,az,aA,bA.grey,bZ,b6];exact aL) (by simp[inObs,Pv.look,gA,az,aA,bA.grey]) ?_;rintro r ah ⟨rfl,rfl⟩;refine⟨(Same.keys (by simp[gA,az,aA,bA.grey]) (by simp[gA,az,aA,bA.grey])),?_⟩;simp[cl,gA,az,aA,bA.grey]);(with_reducible repeat' first|refine aj ?_|simp);(refine hn.ob (w3) (by first|exact cm _|exact cm ‹_› _) (by first|exact cm _|exact cm ‹_› _) (Same.keys (by simp[aP,az,aA]) (by simp[aP,az,aA])) (by simp only[aP,az,aA,bZ,b6];exact aL) (by simp only[aP,az,aA,bZ,b6];exact aL) (by simp[inObs,Pv.look,aP,az,aA]) ?_;simp[cl,aP,az,aA]);(with_reducible repeat' first|refine aj ?_|simp);(refine cF.at (aP (({aE with size:=eK x k aE.size}:bA).black x)) Ψ (by first|exact cm _|exact cm ‹_› _) (Same.keys (by simp[aP,az,aA,bA.black]) (by simp[aP,az,aA,bA.black])) (by simp only[aP,az,aA,bA.black,bZ,b6];exact aL) (by simp only[aP,az,aA,bA.black,bZ,b6];exact aL) ?_;simp[cL,BH,aX,aY,aW,inObs,Pv.look,aP,az,aA,bA.black])
theorem agO(n:Nat)(wO:∀x c p,qL n x c=some p->bH ak 247 [aA,.int .i64 x] (aP c) fun r ah=>r=p.1.e/\ah=aP p.2)
  (v:Int) (c:bA) (p:T×bA) (he:Ca (qL n) v c=some p):bH ak 276 [.int .i64 v,.eptr aA] (aP c) fun r ah=>r= .tuple [p.1.e,.bool true]/\ah=aP p.2:=by
 have ag:=cm c;simp only[Ca,nj]at he;obtain⟨⟨r,bK⟩,J,U⟩:=he;have key:=wO _ _ _ U;simp only[aP,az]at ag⊢;refine bH.mk mixed jH ad3 ak3 Ψ ag.obj fun aK cB=>?_;unfold QI;simp[aA];(with_reducible repeat' first|refine aj ?_|simp);(refine hn.ob (r7 c v r bK J) (by first|exact cm _|exact cm ‹_› _) (by first|exact cm _|exact cm ‹_› _) (Same.keys (by simp[aP,az,aA]) (by simp[aP,az,aA])) (by simp only[aP,az,aA,bZ,b6];exact aL) (by simp only[aP,az,aA,bZ,b6];exact aL) (by simp[inObs,Pv.look,aP,az,aA]) ?_;simp[cl,aP,az,aA]);(with_reducible repeat' first|refine aj ?_|simp);(refine hn.ob (key) (by first|exact cm _|exact cm ‹_› _) (by first|exact cm _|exact cm ‹_› _) (Same.keys (by simp[aP,az,aA]) (by simp[aP,az,aA])) (by simp only[aP,az,aA,bZ,b6];exact aL) (by simp only[aP,az,aA,bZ,b6];exact aL) (by simp[inObs,Pv.look,aP,az,aA]) ?_;simp[cl,aP,az,aA]);(with_reducible repeat' first|refine aj ?_|simp);(refine cF.at (aP p.2) Ψ (by first|exact cm _|exact cm ‹_› _) (Same.keys (by simp[aP,az,aA]) (by simp[aP,az,aA])) (by simp only[aP,az,aA,bZ,b6];exact aL) (by simp only[aP,az,aA,bZ,b6];exact aL) ?_;simp[cL,XP,aX,aY,aW,inObs,Pv.look,aP,az,aA])
theorem jj(n:Int):bF ak 96 [.int .i64 n] (T.var n).e:=by refine be jH aes alu fun aK=>?_;unfold Q7;exact bJ
theorem agN(n:Nat):∀(x:Int) (c:bA) (p:T×bA),qL n x c=some p->bH ak 247 [aA,.int .i64 x] (aP c) fun r ah=>r=p.1.e/\ah=aP p.2:=by
 induction n with
 |zero=>intro x c p h;simp[qL]at h
 |succ n bR=>
  intro x c p he;have ag:=cm c;simp only[qL]at he;cases aJ:c3 x c.full with
  |some t=>rw[aJ]at he;cases he;simp only[aP,az]at ag⊢;refine bH.mk mixed jH Kr M2 Ψ ag.obj fun aK cB=>?_;unfold Fz;simp[aA];(with_reducible repeat' first|refine aj ?_|simp[aJ]);(refine cF.at (aP c) Ψ (by first|exact cm _|exact cm ‹_› _) (Same.keys (by simp[aP,az,aA]) (by simp[aP,az,aA])) (by simp only[aP,az,aA,bZ,b6];exact aL) (by simp only[aP,az,aA,bZ,b6];exact aL) ?_;simp[cL,HX,aX,aY,aW,inObs,Pv.look,aP,az,aA])
  |none=>
   rw[aJ]at he;simp only at he;cases j9:c.shd x with
   |false=>have tM:(c3 x c.shaped).getD false=false:=j9;rw[if_pos j9]at he;cases he;simp only[aP,az]at ag⊢;refine bH.mk mixed jH Kr M2 Ψ ag.obj fun aK cB=>?_;unfold Fz;simp[aA];(with_reducible repeat' first|refine aj ?_|refine aF (jj _) ?_|refine aG (jj _) ?_|simp[aJ,tM]);(refine cF.at (aP {c with full:=eK x (.var x) c.full}) Ψ (by first|exact cm _|exact cm ‹_› _) (Same.keys (by simp[aP,az,aA]) (by simp[aP,az,aA])) (by simp only[aP,az,aA,bZ,b6];exact aL) (by simp only[aP,az,aA,bZ,b6];exact aL) ?_;simp[cL,HX,aX,aY,aW,inObs,Pv.look,aP,az,aA])
   |true=>have tM:(c3 x c.shaped).getD false=true:=j9;rw[if_neg (by simp[j9]),ha]at he;obtain⟨⟨t,bK⟩,J,rfl⟩:=he;have key:=agm aP cm Fg 276 [.eptr aA] (fun a=>by simp[aP,az,aA,inObs,Pv.look]) rfl (Ca (qL n)) (fun v a p h=>agO n bR v a p h) _ _ _ J;rw[show c.shp x=(c3 x c.shape).getD .nil from rfl]at key;simp only[aP,az]at ag⊢;refine bH.mk mixed jH Kr M2 Ψ ag.obj fun aK cB=>?_;unfold Fz;simp[aA];(with_reducible repeat' first|refine aj ?_|refine aF (jj _) ?_|refine aG (jj _) ?_|simp[aJ,tM]);(refine cT.ob (key) (by first|exact cm _|exact cm ‹_› _) (by simp only[aP,az,aA,bZ,b6];exact aL) (by simp only[aP,az,aA,bZ,b6];exact aL) (by simp[inObs,Pv.look,aP,az,aA]) ?_;rintro r ah ⟨rfl,rfl⟩;refine⟨(Same.keys (by simp[aP,az,aA]) (by simp[aP,az,aA])),?_⟩;simp[cl,aP,az,aA]);(with_reducible repeat' first|refine aj ?_|simp);(refine cF.at (aP {bK with full:=eK x t bK.full}) Ψ (by first|exact cm _|exact cm ‹_› _) (Same.keys (by simp[aP,az,aA]) (by simp[aP,az,aA])) (by simp only[aP,az,aA,bZ,b6];exact aL) (by simp only[aP,az,aA,bZ,b6];exact aL) ?_;simp[cL,HX,aX,aY,aW,inObs,Pv.look,aP,az,aA])
theorem agr:bH ak 195 [] ⟨[],[]⟩ fun r ah=>r=aA/\ah=aP bA.new:=by have ag:dN ⟨[],[]⟩:=dN.of y7 Ψ Ψ;refine bH.mk mixed jH aed ald Ψ ag.obj fun aK cB=>?_;unfold QS;simp;refine cF.new (aP bA.new) (.inl rfl) (cm _) ⟨trivial,trivial⟩ (by simp only[aP,az,bA.new];exact aL) (by simp only[aP,az,bA.new];exact aL) ?_;simp[cL,XZ,aX,aY,aW,inObs,Pv.look,aP,az,aA]
theorem Y3{a b:List Int}(h:a.Perm b):rE a=rE b:=by
 have aN:∀a b c:Int,(decide (a<=b))=true->(decide (b<=c))=true->(decide (a<=c))=true:=by intro a b c;simp;omega
 have wS:∀a b:Int,(decide (a<=b)||decide (b<=a))=true:=by intro a b;simp;omega
 have J:=List.pairwise_mergeSort aN wS a;have U:=List.pairwise_mergeSort aN wS b;refine I3 (le:=fun x y:Int=>(decide (x<=y))=true) (fun x y _ _ J U=>by simp at J U;omega) J U ?_;exact(List.mergeSort_perm a _).trans (h.trans (List.mergeSort_perm b _).symm)
def ai4(l:List Int)(k:Nat)(st:br):Prop:=∃(seen:List Nat) (xs:List Int),seen.Nodup/\(∀b∈seen,b<l.length)/\k=l.length-seen.length/\xs=seen.filterMap (fun b=>l[b]?)/\xs.length=seen.length/\st=⟨[(3,.row 1 (.obj 306) xs.length),(7,.ptr (.loc 0) 0)],[(.obj 304,oU l),(.loc 0,b7 l.length seen (.obj 304))],[(.obj 306,⟨xs.length,3,1,some (dF xs)⟩)],1,[.obj 306,.obj 304]⟩
@[simp]theorem as4(xs:List Int):(dF xs).length=xs.length:=by simp[dF]
@[simp]theorem avu(xs:List Int):c2 (dF xs)=dF xs:=by
 induction xs with
 |nil=>rfl
 |cons x r bR=>simp only[dF,gS,c2,dt]at bR⊢;rw[bR]
@[simp]theorem as5:dF []=[]:=rfl
theorem L4(xs:List Int)(x:Int):dF xs++[ai.int .i64 x]=dF (xs++[x]):=by simp[dF]
theorem agM(l:List Int)(ar:l.length<=1000000):bH ak 189 [.gmap (.obj 304)] (uI l) fun r ah=>r= .slice 1 .no (dF (rE l))/\ah=uI l:=by
 have ag:=PC l;unfold uI at ag⊢;refine bH.mk mixed fy aeq alr Ψ ag.obj fun aK cB=>?_;unfold Q5;simp;refine oX (ai4 l) l.length _ ⟨by simp[fresh,aH,aD,b7,inObs,Pv.look,mU,tW],ee (by simp[fresh,aH,aD,b7,inObs,Pv.look,mU,tW]),ef (by simp[fresh,aH,aD,dW,inObs,Pv.look,mU,tW]),Ψ⟩ ⟨[],[],Ψ,Ψ,Ψ,Ψ,Ψ,rfl⟩ ?_;rintro k st ⟨seen,xs,aR,bD,ad,gV,jq,rfl⟩ ku cB;clear ku cB;have hle:=EH aR bD;simp;refine acI (mk:= .obj 304) (seen:=seen) (l:=l) Ψ Ψ rfl (fun jR=>?_) (fun b x af ab=>?_)
 ·simp;have sq:=It aR bD jR;rw[<-gV]at sq;refine cT.ob (agK 306 xs Ω) (Jd 306 xs) (by unfold nn;exact aL) (by unfold nn;exact aL) (by simp[nn,inObs,Pv.look]) ?_;rintro r ah ⟨rfl,rfl⟩;refine⟨⟨fun _=>rfl,fun k=>by simp only[nn,Pv.look];split<;>rfl⟩,?_⟩;unfold nn;simp[cl,Y2];refine cF.at _ (.inl rfl) ag (Same.refl _) aL aL ?_;simp[cL,X6,aX,aY,aW];rw[Y3 sq];simp[aD,tW]
 ·have wL:∀f:aI->ba (List ai),f (.loc 0)=some (b7 l.length (seen++[b]) (.obj 304))->f (.obj 304)=some (oU l)->ov f (.ptr (.loc 0) 0)=some (True,.tuple [.int .i64 x,.bool true]):=fun f J U=>ajX f (.loc 0) (.obj 304) l.length seen b l x J U rfl af;have e4:b<l.length:=(eP.1 af).1;have p2:=Iu aR bD e4 ab;simp[wL,L4];refine⟨by unfold lim;omega,?_⟩;refine bO.next (l.length-(seen.length+1)) Ω ⟨seen++[b],xs++[x],HC aR ab,(by simp;intro c aw;rcases aw with aw|rfl;exact bD c aw;exact e4),Ψ,by rw[List.filterMap_append,<-gV];simp[af],by simp[jq],rfl⟩ ⟨by simp[fresh,aH,aD,b7,inObs,Pv.look,mU,tW],ee (by simp[fresh,aH,aD,b7,inObs,Pv.look,mU,tW]),ef (by simp[fresh,aH,aD,dW,inObs,Pv.look,mU,tW]),Ψ⟩
@[simp]theorem atj(S:aI->Prop)(xs:List Int):aH S (dF xs)=True:=eq_true (tW S xs)
@[simp]theorem arX:cells .junk=[.junk]:=rfl
def Q2:C:=(aa [ep 6 5,a8 7 false] (aa [dL 12 195 [],I 8 12] (.seq (aa [I 13 0,b2 14 13,bP 15 0] (eH 16 15 14 (.seq (.block 1 (aa [b9 17 5 13 15,a1 18 5 17,c9 10 iA,bM 5 10 18] (aa [I 19 8,aC 20 0 1 10,av 21 1 20,bY 22 196 19 21] (aa [I 23 8,fi 24 1 4 10,a1 25 4 24,bY 26 197 23 25] (.seq (.drawn false 69 [I 27 8,aC 28 0 1 10,av 29 1 28,cE 30 96 29,fi 31 1 4 10,a1 32 4 31,dL 33 198 [.t 27,.t 30,.t 32],cn 34 33]) (aS 34 (aa [ep 6 5,a8 7 false] .ret) .skip)))))) (.region [aT 35 .add 15 1,I 15 35])))) (.seq (aa [I 36 1,b2 37 36,bP 38 0] (.block 2 (.loop (aa [bh 39 .lss 38 37] (.seq (aS 39 .skip (.exit 2)) (.seq (.block 3 (aa [I 40 38,I 11 40] (aa [I 41 8,I 42 1,I 43 11,b9 44 4 42 43,a1 45 4 44,bY 46 197 41 45] (aa [I 47 8,I 48 2,I 49 11,b9 50 4 48 49,a1 51 4 50,bY 52 197 47 51] (.seq (.drawn false 69 [I 53 8,I 54 1,I 55 11,b9 56 4 54 55,a1 57 4 56,I 58 2,I 59 11,b9 60 4 58 59,a1 61 4 60,dL 62 198 [.t 53,.t 57,.t 61],cn 63 62]) (aS 63 (aa [ep 6 5,a8 7 false] .ret) .skip)))))) (.region [aT 64 .add 38 1,I 38 64]))))))) (aa [I 65 8,cE 66 199 65,cD 67 0 66,cD 68 1 66,I 6 67,I 7 68] .ret)))))
@[simp] def NH:List bN:=[.tmp 6,.tmp 7]
def QH:C:=(aa [ep 2 5,a8 3 false] (aa [cN (.mkmap 12 (some 304)),I 4 12] (.seq (aa [I 13 0,fI 14 13,aC 15 0 1 14,av 16 1 15,cN (.range 17 none (.t 16))] (.block 0 (.loop (aa [⟨none,.next 18 (.t 17)⟩,cD 19 0 18] (.seq (aS 19 .skip (.exit 0)) (.block 1 (aa [b5 20 (.ment (.t 17)),cD 21 0 20,I 5 21] (.region [I 22 4,I 23 5,cN (.mput .i (.t 22) (.t 23) (.c (.bool true)))])))))))) (aa [I 24 4,cE 25 189 24,I 6 25] (aa [cN (.bslm 26 none 5 61 []),I 7 26] (.seq (aa [I 27 6,b2 28 27,bP 29 0] (.block 2 (.loop (aa [bh 30 .lss 29 28] (.seq (aS 30 .skip (.exit 2)) (.seq (.block 3 (aa [b9 31 1 27 29,av 32 1 31,I 9 32] (aa [I 33 0,I 34 9,bY 35 196 33 34,I 10 35] (.seq (aa [I 36 0,I 37 10,bY 38 246 36 37,cn 39 38] (aS 39 (aa [ep 2 5,a8 3 false] .ret) .skip)) (.seq (aa [I 40 10,I 41 9,bh 42 .eql 40 41,I 43 42,b4 43 true 44 0,ao 43 true (fI 45 44),ao 43 true (aC 46 2 1 45),ao 43 true (av 47 1 46),b4 43 true 48 10,ao 43 true (b5 49 (.mget .i (.bool false) false (.t 47) (.t 48))),ao 43 true (cn 50 49),dx 51 43 50] (aS 51 (.exit 3) .skip)) (aa [I 52 7,I 53 9,j5 54 iA [(0,1,(.t 53))],fj 55 5 61 [.t 54],cN (.appm 56 none 5 61 (.t 52) (.t 55)),I 7 56] (aa [I 57 0,fI 58 57,aC 59 4 1 58,av 60 1 59,I 61 10,b5 62 (.mget .i (.int .i64 0) false (.t 60) (.t 61)),aT 63 .gtr 62 5000,I 64 63,b4 64 false 65 7,ao 64 false (b2 66 65),ao 64 false (aT 67 .gtr 66 400),cZ 68 64 67] (aS 68 (aa [ep 2 5,a8 3 false] .ret) .skip)))))))) (.region [aT 69 .add 29 1,I 29 69]))))))) (.seq (aa [I 70 7,b2 71 70,bP 72 0] (.block 4 (.loop (aa [bh 73 .lss 72 71] (.seq (aS 73 .skip (.exit 4)) (.seq (.block 5 (aa [I 74 72,I 11 74] (.region [I 75 7,I 76 11,I 77 0,I 78 0,I 79 7,I 80 11,b9 81 5 79 80,aC 82 0 1 81,av 83 1 82,bY 84 196 78 83,bY 85 247 77 84,cE 86 200 85,b9 87 5 75 76,fi 88 1 4 87,bM 4 88 86]))) (.region [aT 89 .add 72 1,I 72 89]))))))) (.seq (.pub 7 (.region [I 90 7,I 2 90,a8 3 true])) .ret))))))))
@[simp] def HW:List bN:=[.tmp 2,.tmp 3]
def OV:List (Nat×dH):=[
 (3,⟨1,8,.int .i64,.int .i64 0⟩),
 (4,⟨1,1,.bool,.bool false⟩),
 (23,⟨1,24,.slice 61,.slice 5 .nil []⟩),
 (30,⟨1,24,.slice 32,.slice 4 .nil []⟩),
 (32,⟨4,56,.struct [(0,3),(1,3),(2,9),(3,30)],.agg [.int .i64 0,.int .i64 0,.str [],.slice 4 .nil []]⟩),
 (61,⟨5,64,.struct [(0,3),(1,32)],.agg [.int .i64 0,.int .i64 0,.int .i64 0,.str [],.slice 4 .nil []]⟩),
 (112,⟨1,24,.slice 3,.slice 1 .nil []⟩),
 (154,⟨1,8,.map 3 4,.junk⟩),
 (182,⟨1,8,.map 3 3,.junk⟩),
 (245,⟨6,48,.struct [(0,182),(1,127),(2,154),(3,182),(4,182),(5,127)],.agg [.junk,.junk,.junk,.junk,.junk,.junk]⟩)]
theorem Zy:fS ak OV=true:=by kernel_rfl
theorem alo:bU OV Q2 NH 3 Tryz.f118=true:=by kernel_rfl
theorem aen:ak.funcs[(118:Nat)]? =some Tryz.f118:=Tryz.func118
theorem ak2:bU OV QH HW 1 Tryz.f199=true:=by kernel_rfl
theorem ad2:ak.funcs[(199:Nat)]? =some Tryz.f199:=Tryz.func199
def gx(o:ba (List aq)):ai:= .tuple [.slice 5 .no ((o.getD []).map aq.e),.bool o.isSome]
theorem aj0(f:aI->ba (List ai))(eR mk:aI)(n:Nat)(seen:List Nat)(b:Nat)(l:List (Int×Int))(x:Int×Int)(hi:f eR=some (b7 n (seen++[b]) mk))(hm:f mk=some (lC l))(ax:n=l.length)(af:l[b]? =some x):ov f (.ptr eR 0)=some (True,.tuple [.int .i64 x.1,.int .i64 x.2]):=by rw[MG f eR mk n seen b _ hi hm (by simpa using ax)];simp[af]
theorem acK{st:br}{d:Nat}{K:br->Prop}{eR mk:aI}{n:Nat}{seen:List Nat}{l:List (Int×Int)}(hi:Pv.look eR st.b=some (b7 n seen mk))(hm:Pv.look mk st.b=some (lC l))(ax:n=l.length)
  (J:(∀b,b<l.length->b∈seen)->K {st with t:=Pv.put d (.tuple [.bool false]) st.t}) (U:∀b x,l[b]? =some x->b∉seen->K {st with t:=Pv.put d (.tuple [.bool true,.int .i64 x.1,.int .i64 x.2]) st.t,b:=cA eR (b7 n (seen++[b]) mk) st.b}):
  r3 st d (.ptr eR 0) K:=by
 refine Kl hi hm (by simpa using ax) (fun h=>J fun b ab=>h b Ω) (fun b k v ab ag=>?_);simp only[qP,ha]at ab;obtain⟨x,al,aE⟩:=ab;simp only[jB]at aE;obtain⟨rfl,rfl⟩:=aE;exact U b x al ag
@[simp]theorem auG(m:aI)(l:List (Int×Int)):xt m (lC l)=some (b7 l.length [] m):=by simp[lC,sE]
def n5(v:Int):ai:= .agg [.int .i64 v,.int .i64 0,.int .i64 0,.str [],.slice 4 .nil []]
@[simp]theorem ajp(S:aI->Prop)(l:List Int):aH S (l.map n5)=True:=by
 apply eq_true;induction l with
 |nil=>simp[aH]
 |cons x r bR=>simp only[gS,aH];exact⟨by simp[n5,aD,aH],bR⟩
@[simp]theorem atx(S:aI->Prop)(v:Int):aD S (n5 v)=True:=by simp[n5,aD,aH]
@[simp]theorem auS(v:Int):eF (n5 v)=true:=rfl
@[simp]theorem arI(v:Int):cells (n5 v)=[.int .i64 v,.int .i64 0,.int .i64 0,.str [],.slice 4 .nil []]:=rfl
theorem aol(v:Int)(f:Nat)(cs:List ai):mZ (n5 v) f cs= .agg (oA [.int .i64 v,.int .i64 0,.int .i64 0,.str [],.slice 4 .nil []] f cs):=rfl
theorem kc{S:aI->Prop}:∀{a b:List ai},aH S (a++b)↔(aH S a/\aH S b)
 |[],b=>by simp[aH]
 |x::a,b=>by simp[aH,kc (a:=a),and_assoc]
@[simp]theorem ati(S:aI->Prop)(k:Nat)(l:List Int):aH S (ng k (l.map n5))=True:=by rw[<-List.map_drop];exact ajp S _
@[simp]theorem atN(S:aI->Prop)(o:ba (List aq)):aD S (gx o)=True:=by simp[gx]
theorem Jw(l:List Int)(v:Int):l.map n5++[.agg [.int .i64 v,.int .i64 0,.int .i64 0,.str [],.slice 4 .nil []]]=(l++[v]).map n5:=by simp[n5]
def ai0(c:bA)(k:Nat)(st:br):Prop:=∃(seen:List Nat) (xs:List Int),seen.Nodup/\(∀b∈seen,b<c.up.length)/\k=c.up.length-seen.length/\xs=seen.filterMap (fun b=>(c.up[b]?).map (·.1))/\xs.length=seen.length/\st=⟨[(0,aA),(4,.gmap (.obj 304)),(17,.ptr (.loc 0) 0)],az c++[(.obj 304,oU xs),(.loc 0,b7 c.up.length seen (.obj 702))],[],1,[.obj 304,.obj 702,.obj 703,.obj 704,.obj 705,.obj 706,.obj 707]⟩
theorem aow{c:bA}{seen:List Nat}(aR:seen.Nodup)(bD:∀b∈seen,b<c.up.length)(jR:∀b,b<c.up.length->b∈seen):(seen.filterMap fun b=>(c.up[b]?).map (·.1)).Perm (cx c.up):=by have:=It (l:=cx c.up) aR (by simpa[cx]using bD) (by simpa[cx]using jR);simpa[cx]using this
theorem aox{c:bA}(ax:(cx c.up).Nodup){seen:List Nat}{b:Nat}(ab:b∉seen){x:Int×Int}(af:c.up[b]? =some x):x.1∉seen.filterMap fun b=>(c.up[b]?).map (·.1):=by
 intro hm;rw[List.mem_filterMap]at hm;obtain⟨cb,J,U⟩:=hm;obtain⟨y,au,a6⟩:=ha.1 U;have al:(cx c.up)[b]? =some x.1:=by simp[cx,af]
 have aE:(cx c.up)[cb]? =some x.1:=by simp[cx,au,a6]
 have bD:=(eP.1 al).1;have wK:=(eP.1 aE).1;have f1:=(eP.1 al).2;have f2:=(eP.1 aE).2;rcases Nat.lt_trichotomy b cb with h|h|h
 ·exact qg.1 ax b cb bD wK h (f1.trans f2.symm)
 ·subst h;exact ab J
 ·exact qg.1 ax cb b wK bD h (f2.trans f1.symm)
theorem agF(n:Nat)(c:bA)(o:ba (List aq))(he:EL n (rF (cx c.up)) c=some o)(o4:(cx c.up).Nodup)(hlen:c.up.length<=1000000)(bp:mA c):bH ak 199 [aA] (aP c) fun r ah=>r=gx o/\∃cw,ah=aP cw:=by
 have ag:=cm c;simp only[aP,az]at ag⊢;refine bH.mk mixed Zy ad2 ak2 Ψ ag.obj fun aK cB=>?_;unfold QH;simp[aA];have Df:∀S:aI->Prop,aH S (jZ []):=fun S=>mU S [];refine oX (ai0 c) c.up.length _ ⟨by simp[fresh,aH,aD,b7,inObs,Pv.look,mU,aA,az,Df],ee (by simp[fresh,aH,aD,b7,inObs,Pv.look,mU,aA,az,Df]),ef (by simp[fresh,aH,aD,dW,inObs,Pv.look,mU,aA,az,Df]),Ψ⟩ ⟨[],[],Ψ,Ψ,Ψ,Ψ,Ψ,rfl⟩ ?_;rintro k st ⟨seen,xs,aR,bD,ad,gV,jq,rfl⟩ ku cB;clear ku cB;have hle:=EH aR bD;simp[az,aA];refine acK (mk:= .obj 702) (seen:=seen) (l:=c.up) Ψ Ψ rfl (fun jR=>?_) (fun b x af ab=>?_);rotate_left
 ·have wL:∀f:aI->ba (List ai),f (.loc 0)=some (b7 c.up.length (seen++[b]) (.obj 702))->f (.obj 702)=some (lC c.up)->ov f (.ptr (.loc 0) 0)=some (True,.tuple [.int .i64 x.1,.int .i64 x.2]):=fun f J U=>aj0 f (.loc 0) (.obj 702) c.up.length seen b c.up x J U rfl af;have e4:b<c.up.length:=(eP.1 af).1;have p2:=Iu aR bD e4 ab;have kK:=aox o4 ab af;rw[<-gV]at kK;simp[wL,pJ,kK];refine bO.next (c.up.length-(seen.length+1)) Ω ⟨seen++[b],xs++[x.1],HC aR ab,(by simp;intro c aw;rcases aw with aw|rfl;exact bD c aw;exact e4),Ψ,by rw[List.filterMap_append,<-gV];simp[af],by simp[jq],rfl⟩ ⟨by simp[fresh,aH,aD,b7,inObs,Pv.look,mU,aA,az],ee (by simp[fresh,aH,aD,b7,inObs,Pv.look,mU,aA,az]),ef (by simp[fresh,aH,aD,dW,inObs,Pv.look,mU,aA,az]),Ψ⟩
 ·simp;have sq:=aow aR bD jR;rw[<-gV]at sq;have aiL:xs.length<=1000000:=Ω
  refine cT.ob (agM xs aiL) (PC _) (by simp only[uI];exact aL) (by simp only[uI];exact aL) (by simp[inObs,uI,Pv.look]) ?_;rintro r ah ⟨rfl,rfl⟩;refine⟨Same.refl _,?_⟩;have AY:rE xs=rF (cx c.up):=Y3 sq;rw[AY];obtain⟨bf,k5⟩:∃bf,bf=rF (cx c.up):=⟨_,rfl⟩;rw[<-k5]at he⊢;simp[uI,cl];simp only[EL,nj]at he;obtain⟨res,AK,o3⟩:=he;have jG:bf.length<=1000000:=by rw[k5,(EO _).length_eq];simpa[cx]using hlen
  refine gT (α:=bA×List Int) (fun i a=>⟨[(0,aA),(27,.slice 1 .no (dF bf)),(28,.int .i64 bf.length),(7,.row 5 (.loc 1) a.2.length),(29,.int .i64 i)],az a.1,[(.loc 1,⟨a.2.length,61,5,some (a.2.map n5)⟩)],2,[.obj 702,.obj 703,.obj 704,.obj 705,.obj 706,.obj 707]⟩) bf.length (fun i a=>sS n (bf.drop i) a.1 a.2=some res/\mA a.1/\a.2.length<=400) (c,[]) (by simp[aA,az];exact⟨by simp[fresh,aH,aD,b7,inObs,Pv.look,mU,aA,az],ee (by simp[fresh,aH,aD,b7,inObs,Pv.look,mU,aA,az]),ef (by simp[fresh,aH,aD,dW,inObs,Pv.look,mU,aA,az]),Ψ⟩) ⟨by simpa using AK,bp,Ψ⟩ ?_ ?_
  ·rintro⟨bK,out⟩ ⟨J,U,au⟩ ab;simp only at J U au ab⊢;simp[sS]at J;subst J;simp only[ha]at o3;obtain⟨⟨L,abJ⟩,aht,rfl⟩:=o3;simp[aA,az];refine gT (α:=bA×List aq) (fun j a=>⟨[(0,aA),(7,.row 5 (.loc 1) out.length),(71,.int .i64 out.length),(72,.int .i64 j)],az a.1,[(.loc 1,⟨out.length,61,5,some (a.2.map aq.e++(out.drop j).map n5)⟩)],2,[.obj 702,.obj 703,.obj 704,.obj 705,.obj 706,.obj 707]⟩) out.length (fun j a=>a.2.length=j/\∃rest,zw n (out.drop j) a.1=some (rest,abJ)/\a.2++rest=L) (bK,[]) (by simp[aA,az];exact⟨by simp[fresh,aH,aD,b7,inObs,Pv.look,aA,az],ee (by simp[fresh,aH,aD,b7,inObs,Pv.look,aA,az]),ef (by simp[fresh,aH,aD,dW,inObs,Pv.look,aA,az]),Ψ⟩) ⟨rfl,L,by simpa using aht,rfl⟩ ?_ ?_
   ·rintro⟨cq,done⟩ ⟨a6,rest,b3,c7⟩ ab;simp only at a6 b3 c7 ab⊢;simp[zw]at b3;obtain⟨rfl,rfl⟩:=b3;simp at c7;subst c7;simp[aA,az,a6];refine cF.at (aP cq) Ψ (cm _) (Same.keys (by simp[aP,az]) (by simp[aP,az])) (by simp only[aP,az];exact aL) (by simp only[aP,az];exact aL) ?_;simp[cL,HW,aX,aY,aW,aP,az,gx];exact⟨cq,Ψ⟩
   ·rintro j ⟨cq,done⟩ ae ⟨a6,rest,b3,c7⟩ ab;simp only at a6 b3 c7 ab⊢;obtain⟨v,aB⟩:∃v,out[j]? =some v:=⟨_,cc ae⟩;have aR:out.drop j=v::out.drop (j+1):=by rw[lI ae];rw[cc ae]at aB;cases aB;rfl
    rw[aR]at b3;simp only[zw,nj,ha,jB]at b3;obtain⟨⟨x,da⟩,et,⟨t,hT⟩,od,⟨aoi,ar6⟩,tA,rfl,rfl⟩:=b3;simp only at od tA;have key:=agN n x da _ od;rw[aR];have hr:∀R,(done.map aq.e++n5 v::R)[j]? =some (n5 v):=fun R=>by rw[List.getElem?_append_right (by simp;omega)];simp[a6]
    have wQ:∀R x,(done.map aq.e++n5 v::R).set j x=done.map aq.e++x::R:=fun R x=>by rw[List.set_append_right _ _ (by simp;omega)];simp[a6]
    simp[aA,az];(with_reducible repeat' first|refine aj ?_|simp[hr,ae]);(refine cT.ob (r7 cq v x da et) (by first|exact cm _|exact cm ‹_› _) (by simp only[aP,az,aA,bZ,b6];exact aL) (by simp only[aP,az,aA,bZ,b6];exact aL) (by simp[inObs,Pv.look,aP,az,aA]) ?_;rintro r ah ⟨rfl,rfl⟩;refine⟨(Same.keys (by simp[aP,az,aA]) (by simp[aP,az,aA])),?_⟩;simp[cl,aP,az,aA]);(with_reducible repeat' first|refine aj ?_|simp);(refine cT.ob (key) (by first|exact cm _|exact cm ‹_› _) (by simp only[aP,az,aA,bZ,b6];exact aL) (by simp only[aP,az,aA,bZ,b6];exact aL) (by simp[inObs,Pv.look,aP,az,aA]) ?_;rintro r ah ⟨rfl,rfl⟩;refine⟨(Same.keys (by simp[aP,az,aA]) (by simp[aP,az,aA])),?_⟩;simp[cl,aP,az,aA]);(with_reducible repeat' first|refine aj ?_|refine aF (uA _) ?_|refine aG (uA _) ?_|simp[hr,wQ,ae,aol,-mZ]);refine bO.rng (hT,done++[⟨v,t⟩]) ae ⟨by simp[a6],aoi,tA,by simpa using c7⟩ ?_;simp[aA,az];exact⟨by simp[fresh,aH,aD,b7,inObs,Pv.look,aA,az,kc],ee (by simp[fresh,aH,aD,b7,inObs,Pv.look,aA,az,kc]),ef (by simp[fresh,aH,aD,dW,inObs,Pv.look,aA,az,kc]),Ψ⟩
  ·rintro i ⟨bK,out⟩ hi ⟨J,U,au⟩ ab;simp only at J U au ab⊢;obtain⟨v,aB⟩:∃v,bf[i]? =some v:=⟨_,cc hi⟩;have aR:bf.drop i=v::bf.drop (i+1):=by rw[lI hi];rw[cc hi]at aB;cases aB;rfl
   rw[aR]at J;simp only[sS,nj]at J;obtain⟨⟨x,cq⟩,a6,⟨f,da⟩,b3,c7⟩:=J;simp only at b3 c7;obtain⟨z3,key⟩:=agQ n x cq _ b3 (U.rt a6);have ahJ:∀h,(dF bf)[i]'h= .int .i64 v:=fun h=>by rw[cc hi]at aB;simp only[dQ]at aB;simp[dF,aB]
   simp[aA,az];(with_reducible repeat' first|refine aj ?_|simp[ahJ,hi]);(refine cT.ob (r7 bK v x cq a6) (by first|exact cm _|exact cm ‹_› _) (by simp only[aP,az,aA,bZ,b6];exact aL) (by simp only[aP,az,aA,bZ,b6];exact aL) (by simp[inObs,Pv.look,aP,az,aA]) ?_;rintro r ah ⟨rfl,rfl⟩;refine⟨(Same.keys (by simp[aP,az,aA]) (by simp[aP,az,aA])),?_⟩;simp[cl,aP,az,aA]);(with_reducible repeat' first|refine aj ?_|simp);(refine cT.ob (key) (by first|exact cm _|exact cm ‹_› _) (by simp only[aP,az,aA,bZ,b6];exact aL) (by simp only[aP,az,aA,bZ,b6];exact aL) (by simp[inObs,Pv.look,aP,az,aA]) ?_;rintro r ah ⟨rfl,rfl⟩;refine⟨(Same.keys (by simp[aP,az,aA]) (by simp[aP,az,aA])),?_⟩;simp[cl,aP,az,aA]);cases f with
   |false=>simp at c7;subst c7;simp at o3;subst o3;(with_reducible repeat' first|refine aj ?_|simp);refine cF.at (aP da) Ψ (cm _) (Same.keys (by simp[aP,az]) (by simp[aP,az])) (by simp only[aP,az];exact aL) (by simp only[aP,az];exact aL) ?_;simp[cL,HW,aX,aY,aW,aP,az,gx];exact⟨da,Ψ⟩
   |true=>
    simp only[Bool.true_eq_false,if_false]at c7;by_cases aw:x=v/\da.shd x=false
    ·rw[if_pos aw]at c7;obtain⟨aiM,j9⟩:=aw;subst aiM;have tM:(c3 x da.shaped).getD false=false:=j9;(with_reducible repeat' first|refine aj ?_|simp[tM]);refine bO.rng (da,out) hi ⟨c7,z3,au⟩ ?_;exact⟨by simp[fresh,aH,aD,b7,inObs,Pv.look,aA,az],ee (by simp[fresh,aH,aD,b7,inObs,Pv.look,aA,az]),ef (by simp[fresh,aH,aD,dW,inObs,Pv.look,aA,az]),Ψ⟩
    ·rw[if_neg aw]at c7;have UR:(x==v)=false\/((x==v)=true/\(c3 x da.shaped).getD false=true):=by
      by_cases e:x=v
      ·right;refine⟨by simp[e],?_⟩;cases aE:da.shd x with
       |false=>exact absurd ⟨e,aE⟩ aw
       |true=>exact aE
      ·left;simp[e]
     by_cases ar:5000<da.sz x\/400<out.length+1
     ·rw[if_pos ar]at c7;cases c7;simp at o3;subst o3;have oh:(decide (5000<h9 da.size x))=true\/(decide (5000<h9 da.size x)=false/\400<out.length+1):=by
       by_cases e:5000<h9 da.size x
       ·left;simp[e]
       ·right;exact⟨by simp[e],ar.resolve_left e⟩
      have AU:True:=trivial;have jU:True:=trivial;rcases UR with bB|⟨bB,AU⟩;all_goals
       rcases oh with bm|⟨bm,jU⟩
       all_goals
        ((with_reducible repeat' first|refine aj ?_|simp[bB,AU,bm,jU]|((first|apply bS|apply bW|apply bV)<;>intro h<;>try simp at h))<;>(try exact cy))
        refine cF.at (aP da) Ψ (cm _) (Same.keys (by simp[aP,az]) (by simp[aP,az])) (by simp only[aP,az];exact aL) (by simp only[aP,az];exact aL) ?_
        simp[cL,HW,aX,aY,aW,aP,az,gx]
        exact⟨da,Ψ⟩
     ·rw[if_neg ar]at c7;have bm:decide (5000<h9 da.size x)=false:=by simp;exact Int.not_lt.1 fun h=>ar (.inl h)
      have jU:¬400<out.length+1:=fun h=>ar (.inr h);have AU:True:=trivial;rcases UR with bB|⟨bB,AU⟩;all_goals
       ((with_reducible repeat' first|refine aj ?_|simp[bB,AU,bm,jU]|((first|apply bS|apply bW|apply bV)<;>intro h<;>try simp at h))<;>(try exact cy))
       all_goals first|(refine⟨by unfold lim;omega,?_⟩)|skip
       ((with_reducible repeat' first|refine aj ?_|simp[bB,AU,bm,jU]|((first|apply bS|apply bW|apply bV)<;>intro h<;>try simp at h))<;>(try exact cy))
       refine bO.rng (da,out++[v]) hi ⟨c7,z3,by simp;omega⟩ ?_
       exact⟨by simp[fresh,aH,aD,b7,inObs,Pv.look,aA,az,Jw,kc],ee (by simp[fresh,aH,aD,b7,inObs,Pv.look,aA,az,Jw,kc]),ef (by simp[fresh,aH,aD,dW,inObs,Pv.look,aA,az,Jw,kc]),Ψ⟩
theorem IJ:∀{a b:T},a.tm=b.tm->a=b:=by
 intro a;induction a with
 |pair x y lx mO=>intro b h;cases b<;>simp[T.tm]at h;rw[lx h.1,mO h.2]
 |_=>intro b h;cases b<;>simp[T.tm]at h⊢ <;>exact h
def aaY(l:List cX):Prop:= ∃s:List aq,l=s.map aq.b/\kS s/\gk s/\gy s
def Jj(l:List cX):Prop:= ∃s:List aq,l=s.map aq.b/\kS s/\fQ s/\gy s
theorem Qb:∀{l:List cX},(∀b∈l,b.t.fits=true)->∃s:List aq,l=s.map aq.b/\yd s
 |[],_=>⟨[],rfl,fun b ab=>by simp at ab⟩
 |b::l,h=>by
  obtain⟨s,J,U⟩:=Qb (l:=l) fun c aw=>h c (by simp[aw]);obtain⟨x,au,a6⟩:=bI.fits_ex (h b Ψ);refine⟨⟨b.v,x⟩::s,by rw[J];simp[aq.b,au],fun c aw=>?_⟩;rcases fA.1 aw with rfl|aw
  ·exact a6
  ·exact U c aw
theorem xK{l:List cX}:wg l↔aaY l:=by
 constructor
 ·rintro⟨J,U⟩;obtain⟨s,rfl,ahx⟩:=Qb (l:=l) fun b ab=>by obtain⟨i,hi,e⟩:=nY ab;exact(U i hi b (by rw[cc hi,e])).2.2
  have Ur:∀b∈s,b.t.ok=true/\b.t.size<=5000:=fun b ab=>by have:=ahx b ab;simpa[T.fit]using this
  refine⟨s,rfl,fun b ab=>⟨?_,(Ur b ab).1⟩,?_,by simpa using J,fun b ab=>(Ur b ab).2⟩
  ·obtain⟨i,hi,e⟩:=nY ab;have:=(U i (by simpa using hi) b.b (by simp[cc hi,e])).1;exact this
  ·rw[gk,qg];have jV:∀i (h:i+1<s.length),s[i].v<s[i+1].v:=fun i h=>by have:=(U (i+1) (by simpa using h) s[i+1].b (by simp[cc h])).2.1 s[i].b Ω (by simp[cc (show i<s.length by omega)]);exact this
   have:∀(d i:Nat) (h:i+d+1<s.length),s[i].v<s[i+d+1].v:=by
    intro d;induction d with
    |zero=>intro i h;exact jV i h
    |succ d bR=>intro i h;have bC:=bR i Ω;have a2:=jV (i+d+1) Ω;simp only[Nat.add_assoc]at bC a2⊢;omega
   intro i j hi ae ml;have:=this (j-i-1) i Ω;simpa[show i+(j-i-1)+1=j from by omega]using this
 ·rintro⟨s,rfl,ay,bu,aJ⟩;refine⟨by simpa using aJ.1,fun i hi b ab=>?_⟩;simp only[qP,ha]at ab;obtain⟨c,aw,rfl⟩:=ab;have hm:=dE aw;refine⟨(ay c hm).1,fun d bs aR=>?_,?_⟩
  ·simp only[qP,ha]at aR;obtain⟨e,he,rfl⟩:=aR;obtain⟨J,al⟩:=eP.1 he;obtain⟨U,aE⟩:=eP.1 aw;have:=qg.1 bu (i-1) i J U Ω;rw[al,aE]at this;exact this
  ·show c.t.tm.fits=true;rw[bI.fits_T];simp[T.fit,(ay c hm).2,aJ.2 c hm]
def wq(s:List aq)(v:Int)(f:Bool):Bool:=if 0<=nu s v then false else f
def mB(s:List aq)(b:aq):Bool:=b.t.fold (wq s) true&& !(b.t.kind==1&&decide (b.v<=b.t.int))
theorem TC{s:List aq}(bu:gk s)(t:T):∀f:Bool,t.fold (wq s) f=true↔f=true/\∀w,t.occ w=true->cP s w=none:=by
 induction t with
 |var n=>
  intro f;simp only[T.fold,T.occ,dV,wq];have:=TA bu n;by_cases h:0<=nu s n
  ·rw[if_pos h];constructor
   ·intro h;cases h
   ·rintro⟨_,U⟩;have:=this.2 (U n rfl);omega
  ·rw[if_neg h];exact⟨fun aJ=>⟨aJ,fun w hw=>by subst hw;exact this.1 Ω⟩,fun h=>h.1⟩
 |pair a b ds dv=>
  intro f;simp only[T.fold,ds,dv,T.occ,lH];constructor
  ·rintro⟨⟨J,U⟩,au⟩;exact⟨J,fun w hw=>hw.elim (U w) (au w)⟩
  ·rintro⟨J,U⟩;exact⟨⟨J,fun w hw=>U w (.inl hw)⟩,fun w hw=>U w (.inr hw)⟩
 |_=>intro f;simp[T.fold,T.occ]
theorem Jy{s:List aq}(bu:gk s)(b:aq):mB s b=true↔(∀w,b.t.occ w=true->cP s w=none)/\∀w,b.t= .var w->w<b.v:=by
 unfold mB;rw[cC,TC bu];simp only[true_and];refine and_congr_right fun _=>?_;constructor
 ·intro h w hw;have ad:(b.t.kind==1)=true:=by rw[hw];rfl
  have hi:b.t.int=w:=by rw[hw];rfl
  rw[ad,hi]at h;simpa using h
 ·intro h;cases ad:(b.t.kind==1)with
  |false=>rfl
  |true=>
   obtain⟨w,hw⟩:∃w,b.t= .var w:=by
    cases e:b.t with
    |var w=>exact⟨w,rfl⟩
    |_=>rw[e]at ad;simp at ad
   have hi:b.t.int=w:=by rw[hw];rfl
   have:=h w hw;rw[hi];simpa using this
theorem Y0{s:List aq}(bu:gk s):fQ s↔∀b∈s,mB s b=true:=by
 constructor
 ·intro h b ab;exact(Jy bu b).2 ⟨h.free b ab,h.ori b ab⟩
 ·intro h;exact⟨bu,fun b ab=>((Jy bu b).1 (h b ab)).1,fun b ab=>((Jy bu b).1 (h b ab)).2⟩
def ka{α:Type}(p:α->Bool)(s:List α)(i:Nat)(_:Unit):Prop:= ∀k b,k<i->s[k]? =some b->p b=true
theorem ka.step{α:Type}{p:α->Bool}{s:List α}{i:Nat}(h:ka p s i ()){b:α}(ab:s[i]? =some b)(bB:p b=true):ka p s (i+1) ():=fun k c ad aw=>by
 rcases(by omega:k<i\/k=i)with J|rfl
 ·exact h k c J aw
 ·rw[ab]at aw;cases aw;exact bB
open Classical in
noncomputable def gY(l:List cX):Bool:=decide (Jj l)
theorem rH{l:List cX}:gY l=true↔Jj l:=by unfold gY;simp
def iQ(f:Bool):cH:=⟨[(.obj 731,[.bool f])],[]⟩
theorem wa(f:Bool):dN (iQ f):=by unfold iQ;exact dN.of ⟨by intro m;simp[Pv.look],by intro m;simp[Pv.look]⟩ Ψ Ψ
theorem aaO(a b:Bool):Same (iQ a) (iQ b):=Same.keys (by simp[iQ]) (by simp[iQ])
theorem aga(s:List aq)(ar:s.length<=1000000)(v:Int)(f:Bool):bH ak 133 [.int .i64 v,.eptr (.slice 5 .no (s.map aq.e)),.ptr (.obj 731) 0] (iQ f) fun r ah=>r= .tuple []/\ah=iQ (wq s v f):=by
 have ag:=wa f;simp only[iQ]at ag⊢;by_cases h:0<=nu s v
 ·rw[wq,if_pos h];refine bH.mk mixed rK Ta W1 Ψ ag.obj fun aK cB=>?_;unfold JF;simp;(with_reducible repeat' first|refine aj ?_|refine aF (uB s v ar) ?_|refine aG (uB s v ar) ?_|simp[h]);(refine cF.at (iQ false) Ψ (by first|exact wa _|exact wa ‹_› _) (Same.keys (by simp[iQ]) (by simp[iQ])) (by simp only[iQ,bZ,b6];exact aL) (by simp only[iQ,bZ,b6];exact aL) ?_;simp[cL,NA,aX,aY,aW,inObs,Pv.look,iQ])
 ·rw[wq,if_neg h];refine bH.mk mixed rK Ta W1 Ψ ag.obj fun aK cB=>?_;unfold JF;simp;(with_reducible repeat' first|refine aj ?_|refine aF (uB s v ar) ?_|refine aG (uB s v ar) ?_|simp[h]);(refine cF.at (iQ f) Ψ (by first|exact wa _|exact wa ‹_› _) (Same.keys (by simp[iQ]) (by simp[iQ])) (by simp only[iQ,bZ,b6];exact aL) (by simp only[iQ,bZ,b6];exact aL) ?_;simp[cL,NA,aX,aY,aW,inObs,Pv.look,iQ])
theorem OZ(l:List cX):bF ak 55 [.slice 5 .no (l.map cX.e)] (.bool (gY l)):=by
 have aB:=O1 l;by_cases h:wg l;rotate_left
 ·have bs:gY l=false:=by unfold gY;simp only[fJ];rintro⟨s,J,U,au,a6⟩;exact h (xK.2 ⟨s,J,U,au.asc,a6⟩)
  rw[bs];refine be rK S9 W0 fun aK=>?_;unfold JE;exact bJ
 ·obtain⟨s,rfl,ay,bu,aJ⟩:=xK.1 h;have ar:s.length<=1000000:=by have:=aJ.1;omega
  have al:(s.map aq.b).map cX.e=s.map aq.e:=by rw[List.map_map];exact List.map_congr_left fun b _=>aq.b_e b
  have bs:gY (s.map aq.b)=s.all (mB s):=by
   rw[oG,ga,rH,<-Y0 bu];constructor
   ·rintro⟨ah,J,U,au,a6⟩;have:ah=s:=by
     have ahI:∀a b:List aq,a.map aq.b=b.map aq.b->a=b:=by
      intro a;induction a with
      |nil=>intro b ab;cases b<;>simp at ab⊢
      |cons x a bR=>
       intro b ab;cases b with
       |nil=>simp at ab
       |cons y b=>simp only[gS,oJ,aq.b,cX.mk.injEq]at ab;rw[bR b ab.2];have:=IJ ab.1.2;obtain⟨⟨lP,_⟩,_⟩:=ab;cases x;cases y;simp_all
     exact(ahI _ _ J).symm
    rw[<-this];exact au
   ·intro au;exact⟨s,rfl,ay,au,aJ⟩
  rw[bs];rw[al]at aB⊢;refine be rK S9 W0 fun aK=>?_;unfold JE;simp;(with_reducible repeat' first|refine aj ?_|refine aF aB ?_|refine aG aB ?_|simp[h]);refine gT (α:=Unit) (fun i _=>⟨[(1,.eptr (.slice 5 .no (s.map aq.e))),(9,.slice 5 .no (s.map aq.e)),(10,.int .i64 s.length),(11,.int .i64 i)],[],[],1,[]⟩) s.length (ka (mB s) s) () bL (fun k b ad=>Ω) (fun _ ae _=>?_) (fun i _ hi ae _=>?_)
  ·have:s.all (mB s)=true:=by rw[ga];intro b ab;obtain⟨k,ad,e⟩:=nY ab;exact ae k b ad (by rw[cc ad,e])
   rw[this];exact bJ
  ·obtain⟨b,mo⟩:∃b,s[i]? =some b:=⟨_,cc hi⟩;have gN:∀h,(s[i]'h)=b:=fun h=>by rw[cc hi]at mo;exact eQ mo
   have key:=KP iQ wa aaO 133 [.eptr (.slice 5 .no (s.map aq.e)),.ptr (.obj 731) 0] (fun a=>by simp[iQ,inObs,Pv.look]) Ψ (wq s) (fun v a=>aga s ar v a) b.t true;have eM:mB s b=false->s.all (mB s)=false:=fun h=>by rw[Bool.eq_false_iff];intro cf;rw[ga]at cf;rw[cf b (dE mo)]at h;cases h
   simp[hi,gN];(with_reducible repeat' first|refine aj ?_|simp[gN,hi]);(refine cT.ob (key) (by first|exact wa _|exact wa ‹_› _) (by simp only[iQ,bZ,b6];exact aL) (by simp only[iQ,bZ,b6];exact aL) (by simp[inObs,Pv.look,iQ]) ?_;rintro r ah ⟨rfl,rfl⟩;refine⟨(Same.keys (by simp[iQ]) (by simp[iQ])),?_⟩;simp[cl,iQ]);generalize ahz:b.t.fold (wq s) true=tw;have yn:mB s b=(tw&& !(b.t.kind==1&&decide (b.v<=b.t.int))):=by unfold mB;rw[ahz]
   cases tw with
   |false=>rw[eM (by rw[yn];rfl)];exact bJ
   |true=>
    cases ad:(b.t.kind==1)with
    |false=>(with_reducible repeat' first|refine aj ?_|simp[ad]);refine bO.rng () hi (ae.step mo (by rw[yn,ad];rfl)) ?_;exact bL
    |true=>
     by_cases hle:b.v<=b.t.int
     ·rw[eM (by rw[yn,ad];simp[hle])];exact bJ
     ·(with_reducible repeat' first|refine aj ?_|simp[ad,hle]);refine bO.rng () hi (ae.step mo (by rw[yn,ad];simp[hle])) ?_;exact bL
@[simp]theorem atq(S:aI->Prop):aH S (jZ [])=True:=eq_true (mU S [])
theorem agE(n:Nat)(s:List aq)(l r:List T)(ar:l.length=r.length)(kM:s.length<=1000000)(yA:l.length<=1000000)(o:ba (List aq))(he:B0 n (hU s++l.zip r)=some o)
  (hinv:∀c,qn n (hU s++l.zip r) bA.new=some (true,c)->(cx c.up).Nodup/\c.up.length<=1000000/\mA c):bF ak 118 [.slice 5 .no (s.map aq.e),.slice 4 .no (l.map T.e),.slice 4 .no (r.map T.e)] (gx o):=by
 obtain⟨E,dJ⟩:∃E,E=hU s++l.zip r:=⟨_,rfl⟩;rw[<-dJ]at he hinv;simp only[B0,nj]at he;obtain⟨fin,AK,o3⟩:=he;have hlen:E.length=s.length+l.length:=by rw[dJ];simp[hU,ar]
 have ag5:∀i b,s[i]? =some b->E.drop i=(.var b.v,b.t)::E.drop (i+1):=fun i b ab=>by
  have hi:=(eP.1 ab).1;have a7:E[i]? =some (.var b.v,b.t):=by rw[dJ,List.getElem?_append_left (by simp[hU];exact hi)];simp[hU,ab]
  rw[lI Ω];rw[cc Ω]at a7;simp only[dQ]at a7;rw[a7]
 have ag4:∀i a b,l[i]? =some a->r[i]? =some b->E.drop (s.length+i)=(a,b)::E.drop (s.length+(i+1)):=fun i a b bu ab=>by
  have hi:=(eP.1 bu).1;have a7:E[s.length+i]? =some (a,b):=by rw[dJ,List.getElem?_append_right (by simp[hU])];simp[hU,List.getElem?_zip_eq_some,bu,ab]
  rw[lI Ω];rw[cc Ω]at a7;simp only[dQ]at a7;rw[a7];rfl
 refine be Zy aen alo fun aK=>?_;unfold Q2;simp;refine cT.new agr (dN.of y7 Ψ Ψ) (fun k cs h=>by simp[Pv.look]at h) (fun k cs h=>by simp[Pv.look]at h) Ψ ?_;rintro r0 s0 ⟨rfl,rfl⟩;refine⟨fun m hm=>.inr Ψ,?_⟩;simp[aP,az,cl,aA];refine gT (α:=bA) (fun i c=>⟨[(1,.slice 4 .no (l.map T.e)),(2,.slice 4 .no (r.map T.e)),(8,aA),(13,.slice 5 .no (s.map aq.e)),(14,.int .i64 s.length),(15,.int .i64 i)],az c,[],0,[.obj 702,.obj 703,.obj 704,.obj 705,.obj 706,.obj 707]⟩) s.length (fun i c=>qn n (E.drop i) c=some fin) bA.new (by simp[aA,az];exact⟨by simp[fresh,aH,aD,b7,inObs,Pv.look,aA,az,bA.new],ee (by simp[fresh,aH,aD,b7,inObs,Pv.look,aA,az,bA.new]),ef (by simp[fresh,aH,aD,dW,inObs,Pv.look,aA,az,bA.new]),Ψ⟩) (by simpa using AK) ?_ ?_
 ·rintro c J ab;simp[aA,az];refine gT (α:=bA) (fun i c=>⟨[(1,.slice 4 .no (l.map T.e)),(2,.slice 4 .no (r.map T.e)),(8,aA),(37,.int .i64 l.length),(38,.int .i64 i)],az c,[],0,[.obj 702,.obj 703,.obj 704,.obj 705,.obj 706,.obj 707]⟩) l.length (fun i c=>qn n (E.drop (s.length+i)) c=some fin) c (by simp[aA,az];exact⟨by simp[fresh,aH,aD,b7,inObs,Pv.look,aA,az],ee (by simp[fresh,aH,aD,b7,inObs,Pv.look,aA,az]),ef (by simp[fresh,aH,aD,dW,inObs,Pv.look,aA,az]),Ψ⟩) J ?_ ?_
  ·rintro bK J ab;rw[List.drop_eq_nil_of_le Ω]at J;simp[qn]at J;subst J;simp at o3;obtain⟨bc,bE,b1⟩:=hinv bK AK;simp[aA,az];refine cT.ob (agF n bK o o3 bc bE b1) (cm _) (by simp only[aP,az];exact aL) (by simp only[aP,az];exact aL) (by simp[inObs,Pv.look,aP,az,aA]) ?_;rintro r0 s0 ⟨rfl,cw,rfl⟩;refine⟨Same.keys (by simp[aP,az]) (by simp[aP,az]),?_⟩;simp[cl,aP,az,gx];exact bJ
  ·rintro i c hi J ab;simp only at J ab⊢;obtain⟨a,bu⟩:∃a,l[i]? =some a:=⟨_,cc hi⟩;obtain⟨b,fW⟩:∃b,r[i]? =some b:=⟨_,cc Ω⟩;have nB:∀h,(l[i]'h)=a:=fun h=>by rw[cc hi]at bu;exact eQ bu
   have cr:∀h,(r[i]'h)=b:=fun h=>by rw[cc h]at fW;exact eQ fW
   have sk:i<r.length:=Ω
   rw[ag4 i a b bu fW]at J;simp only[qn,nj]at J;obtain⟨bK,U,cq,au,⟨f,da⟩,a6,b3⟩:=J;simp only at a6 b3;have key:=TM n _ _ _ _ a6;simp[aA,az];(with_reducible repeat' first|refine aj ?_|simp[nB,cr,hi,sk]);(refine cT.ob (KT c a bK U) (by first|exact cm _|exact cm ‹_› _) (by simp only[aP,az,aA,bZ,b6];exact aL) (by simp only[aP,az,aA,bZ,b6];exact aL) (by simp[inObs,Pv.look,aP,az,aA]) ?_;rintro r ah ⟨rfl,rfl⟩;refine⟨(Same.keys (by simp[aP,az,aA]) (by simp[aP,az,aA])),?_⟩;simp[cl,aP,az,aA]);(with_reducible repeat' first|refine aj ?_|simp[nB,cr,hi,sk]);(refine cT.ob (KT bK b cq au) (by first|exact cm _|exact cm ‹_› _) (by simp only[aP,az,aA,bZ,b6];exact aL) (by simp only[aP,az,aA,bZ,b6];exact aL) (by simp[inObs,Pv.look,aP,az,aA]) ?_;rintro r ah ⟨rfl,rfl⟩;refine⟨(Same.keys (by simp[aP,az,aA]) (by simp[aP,az,aA])),?_⟩;simp[cl,aP,az,aA]);(with_reducible repeat' first|refine aj ?_|simp[nB,cr,hi,sk]);(refine hn.ob (key) (by first|exact cm _|exact cm ‹_› _) (by first|exact cm _|exact cm ‹_› _) (Same.keys (by simp[aP,az,aA]) (by simp[aP,az,aA])) (by simp only[aP,az,aA,bZ,b6];exact aL) (by simp only[aP,az,aA,bZ,b6];exact aL) (by simp[inObs,Pv.look,aP,az,aA]) ?_;simp[cl,aP,az,aA]);cases f with
   |false=>simp at b3;subst b3;simp at o3;subst o3;(with_reducible repeat' first|refine aj ?_|simp);simp[bz,NH,aX,aY,aW];simp[gx]
   |true=>simp at b3;(with_reducible repeat' first|refine aj ?_|simp);refine bO.rng da hi b3 ?_;simp[aA,az];exact⟨by simp[fresh,aH,aD,b7,inObs,Pv.look,aA,az],ee (by simp[fresh,aH,aD,b7,inObs,Pv.look,aA,az]),ef (by simp[fresh,aH,aD,dW,inObs,Pv.look,aA,az]),Ψ⟩
 ·rintro i c hi J ab;simp only at J ab⊢;obtain⟨b,aB,gN⟩:=dB hi;rw[ag5 i b aB]at J;simp only[qn,nj]at J;obtain⟨bK,U,cq,au,⟨f,da⟩,a6,b3⟩:=J;simp only[Bj,T.foldO,ha]at U;obtain⟨⟨x,Qf⟩,U,rfl⟩:=U;simp only at U au a6 b3;have key:=TM n _ _ _ _ a6;simp[aA,az];(with_reducible repeat' first|refine aj ?_|simp[gN,hi]);(refine cT.ob (r7 c b.v x Qf U) (by first|exact cm _|exact cm ‹_› _) (by simp only[aP,az,aA,bZ,b6];exact aL) (by simp only[aP,az,aA,bZ,b6];exact aL) (by simp[inObs,Pv.look,aP,az,aA]) ?_;rintro r ah ⟨rfl,rfl⟩;refine⟨(Same.keys (by simp[aP,az,aA]) (by simp[aP,az,aA])),?_⟩;simp[cl,aP,az,aA]);(with_reducible repeat' first|refine aj ?_|simp);(refine cT.ob (KT Qf b.t cq au) (by first|exact cm _|exact cm ‹_› _) (by simp only[aP,az,aA,bZ,b6];exact aL) (by simp only[aP,az,aA,bZ,b6];exact aL) (by simp[inObs,Pv.look,aP,az,aA]) ?_;rintro r ah ⟨rfl,rfl⟩;refine⟨(Same.keys (by simp[aP,az,aA]) (by simp[aP,az,aA])),?_⟩;simp[cl,aP,az,aA]);(with_reducible repeat' first|refine aj ?_|refine aF (jj _) ?_|refine aG (jj _) ?_|simp);(refine hn.ob (key) (by first|exact cm _|exact cm ‹_› _) (by first|exact cm _|exact cm ‹_› _) (Same.keys (by simp[aP,az,aA]) (by simp[aP,az,aA])) (by simp only[aP,az,aA,bZ,b6];exact aL) (by simp only[aP,az,aA,bZ,b6];exact aL) (by simp[inObs,Pv.look,aP,az,aA]) ?_;simp[cl,aP,az,aA]);cases f with
  |false=>simp at b3;subst b3;simp at o3;subst o3;(with_reducible repeat' first|refine aj ?_|simp);simp[bz,NH,aX,aY,aW];simp[gx]
  |true=>simp at b3;(with_reducible repeat' first|refine aj ?_|simp);refine bO.rng da hi b3 ?_;simp[aA,az];exact⟨by simp[fresh,aH,aD,b7,inObs,Pv.look,aA,az],ee (by simp[fresh,aH,aD,b7,inObs,Pv.look,aA,az]),ef (by simp[fresh,aH,aD,dW,inObs,Pv.look,aA,az]),Ψ⟩
theorem aqN(s:List aq)(l r:List T)(ar:l.length=r.length)(ag:fQ s)(aJ:gy s)(ay:kS s)(yA:l.length<=1000000)(J:∀t∈l,t.ok=true)(U:∀t∈r,t.ok=true):
  bF ak 118 [.slice 5 .no (s.map aq.e),.slice 4 .no (l.map T.e),.slice 4 .no (r.map T.e)] (gx (mgu s (l.zip r))):=by
 have dJ:∀e∈hU s++l.zip r,e.1.ok=true/\e.2.ok=true:=fun e he=>by
  rcases kn.1 he with he|he
  ·obtain⟨b,ab,rfl⟩:=hB.1 he;have:=ay b ab;exact⟨by simpa[T.ok]using this.1,this.2⟩
  ·exact⟨J _ (List.of_mem_zip he).1,U _ (List.of_mem_zip he).2⟩
 have bs:MZ (hU s++l.zip r):=fun e he v aB=>by
  rcases aB with aB|aB
  ·exact(xL (dJ e he).1 aB).1
  ·exact(xL (dJ e he).2 aB).1
 obtain⟨n,o,bc,bE,b1⟩:=aoU _ bs;rw[sI (aaW.1 bE)];refine agE n s l r ar (by have:=aJ.1;omega) yA o bc fun c aw=>?_;obtain⟨bC,a2,a3⟩:=b1 c aw;have:=Mf bC fun v aB=>by
  obtain⟨e,he,aB⟩:=a2 v aB;rcases aB with aB|aB
  ·exact xL (dJ e he).1 aB
  ·exact xL (dJ e he).2 aB
 refine⟨bC,by simp[cx]at this;omega,fun x=>?_⟩;simp[bA.sz,a3,c3]
structure eU (s:List aq):Prop where
 ok:kS s
 sol:fQ s
 fits:gy s
theorem eU.len{s:List aq}(h:eU s):s.length<=1000000:=by have:=h.fits.1;omega
theorem eU.fit{s:List aq}(h:eU s):yd s:=fun b ab=>by simp[T.fit,(h.ok b ab).2,h.fits.2 b ab]
theorem eU.mgu{s:List aq}(h:eU s){E:List (T×T)}(dJ:∀e∈E,e.1.ok=true/\e.2.ok=true){ah:List aq}(hm:mgu s E=some ah):eU ah:=⟨aj8 h.sol h.fits h.ok dJ hm,(Bk h.sol h.fits hm).1,(Bk h.sol h.fits hm).2⟩
theorem sF(s:List aq):(s.map aq.b).map cX.e=s.map aq.e:=by rw[List.map_map];exact List.map_congr_left fun b _=>aq.b_e b
theorem qf{s:List aq}(h:eU s):bF ak 55 [.slice 5 .no (s.map aq.e)] (.bool true):=by have:=OZ (s.map aq.b);rw[sF,rH.2 ⟨s,rfl,h.ok,h.sol,h.fits⟩]at this;exact this
def ajg(t:List aq)(i:Nat)(p:List T×List T):Prop:=p.1=(t.take i).map (fun b=>T.var b.v)/\p.2=(t.take i).map (·.t)
theorem ap6(t:List aq)(aN:t.length<=1000000):bF ak 201 [.slice 5 .no (t.map aq.e)] (.tuple [.slice 4 .no ((t.map fun b=>T.var b.v).map T.e),.slice 4 .no ((t.map (·.t)).map T.e)]):=by
 generalize aV:((t.map fun b=>T.var b.v).map T.e)=R1;generalize ij:((t.map fun x=>x.t).map T.e)=R2;have gE:∀S:aI->Prop,aH S R1=True:=fun S=>by rw[<-aV];exact VX S _
 have lr:∀S:aI->Prop,aH S R2=True:=fun S=>by rw[<-ij];exact VX S _
 refine bF.mk mixed rK ad7 ak7 Ψ (by simp[aD,gE,lr]) fun aK=>?_;unfold QM;simp;refine gT (α:=List T×List T) (fun i p=>⟨[(10,.slice 5 .no (t.map aq.e)),(11,.int .i64 t.length),(4,.slice 4 (.own (.loc 0)) (p.1.map T.e)),(5,.slice 4 (.own (.loc 1)) (p.2.map T.e)),(12,.int .i64 i)],[],[(.loc 0,⟨p.1.length,32,4,none⟩),(.loc 1,⟨p.2.length,32,4,none⟩)],2,[]⟩) t.length (ajg t) ([],[]) bL ⟨Ψ,Ψ⟩ (fun p ae _=>?_) (fun i p hi ae _=>?_)
 ·obtain⟨A,B⟩:=p;obtain⟨bk,jP⟩:=ae;simp only at bk jP⊢;rw[hQ (e7 _)]at bk jP;rw[<-aV,<-ij,<-bk,<-jP];simp;(with_reducible repeat' first|refine aj ?_|simp);simp[bz,XT,aX,aY,aW]
 ·obtain⟨A,B⟩:=p;obtain⟨bk,jP⟩:=ae;simp only at bk jP⊢;obtain⟨b,aB,gN⟩:=dB hi;have wR:t.take (i+1)=t.take i++[b]:=by rw[ma,aB];rfl
  have ag2:A.length<=1000000:=by rw[bk];simp;omega
  have ag3:B.length<=1000000:=by rw[jP];simp;omega
  simp[hi,gN];((with_reducible repeat' first|refine aj ?_|refine aF (jj _) ?_|refine aG (jj _) ?_|simp[gN,hi]|((first|apply bS|apply bW|apply bV)<;>intro h<;>try simp at h))<;>(try exact cy));all_goals first|(refine⟨by unfold lim;omega,?_⟩)|skip
  (with_reducible repeat' first|refine aj ?_|simp);all_goals first|(refine⟨by unfold lim;omega,?_⟩)|skip
  (with_reducible repeat' first|refine aj ?_|simp);refine bO.rng (A++[.var b.v],B++[b.t]) hi ⟨by rw[wR,bk];simp,by rw[wR,jP];simp⟩ ?_;simp;exact⟨by simp[fresh,aH,aD,b7,inObs,Pv.look,kc],ee (by simp[fresh,aH,aD,b7,inObs,Pv.look,kc]),ef (by simp[fresh,aH,aD,dW,inObs,Pv.look,kc]),Ψ⟩
theorem apL{s t:List aq}(ag:eU s)(aN:eU t):bF ak 122 [.slice 5 .no (s.map aq.e),.slice 5 .no (t.map aq.e)] (gx (mgu s (hU t))):=by
 have bp:(t.map fun b=>T.var b.v).zip (t.map (·.t))=hU t:=by rw[hU,List.zip_map']
 have key:=aqN s (t.map fun b=>T.var b.v) (t.map (·.t)) Ψ ag.sol ag.fits ag.ok (by simpa using aN.len) (fun x af=>by
  obtain⟨b,ab,rfl⟩:=hB.1 af;have:=aN.ok b ab;simpa[T.ok]using this.1) (fun x af=>by
  obtain⟨b,ab,rfl⟩:=hB.1 af;exact(aN.ok b ab).2)
 rw[bp]at key;have heq:=ap6 t aN.len;generalize (t.map fun b=>T.var b.v)=A at key heq;generalize (t.map fun x=>x.t)=B at key heq;refine be rK adK akK fun aK=>?_;unfold Qp;simp;(with_reducible repeat' first|refine aj ?_|refine aF (qf ag) ?_|refine aG (qf ag) ?_|refine aF (qf aN) ?_|refine aG (qf aN) ?_|refine aF heq ?_|refine aG heq ?_|refine aF key ?_|refine aG key ?_|simp);simp[bz,XG,aX,aY,aW];simp[gx]
theorem rJ{α:Type}{t:List α}{i:Nat}{b:α}(aB:t[i]? =some b):t.take (i+1)=t.take i++[b]:=by rw[ma,aB];rfl
def gO(s t:List aq):List aq:=t.filter fun b=>(cP s b.v).isNone
def rl(s t:List aq)(i:Nat)(out:List aq):Prop:=out=gO s (t.take i)
theorem apQ{s t:List aq}(ag:eU s)(aN:eU t):bF ak 123 [.slice 5 .no (s.map aq.e),.slice 5 .no (t.map aq.e)] (.slice 5 .no ((gO s t).map aq.e)):=by
 have aix:=aN.len;generalize aV:gO s t=R;refine be rK adP akP fun aK=>?_;unfold Qu;simp;(with_reducible repeat' first|refine aj ?_|refine aF (qf ag) ?_|refine aG (qf ag) ?_|refine aF (qf aN) ?_|refine aG (qf aN) ?_|simp);refine gT (α:=List aq) (fun i out=>⟨[(0,.slice 5 .no (s.map aq.e)),(17,.slice 5 .no (t.map aq.e)),(18,.int .i64 t.length),(5,.slice 5 (.own (.loc 0)) (out.map aq.e)),(19,.int .i64 i)],[],[(.loc 0,⟨out.length,61,5,none⟩)],1,[]⟩) t.length (rl s t) [] bL (by simp[rl,gO]) (fun out ae _=>?_) (fun i out hi ae _=>?_)
 ·rw[rl,hQ (e7 _),aV]at ae;rw[<-ae];exact bJ
 ·obtain⟨b,aB,gN⟩:=dB hi;have vl:out.length<=1000000:=by
   have:out.length<=(t.take i).length:=by rw[ae];exact List.length_filter_le _ _
   simp at this;omega
  have q9:=TA ag.sol.asc b.v;simp[hi,gN];by_cases ab:nu s b.v<0
  ·(with_reducible repeat' first|refine aj ?_|refine aF (uB s b.v ag.len) ?_|refine aG (uB s b.v ag.len) ?_|refine aF (uA _) ?_|refine aG (uA _) ?_|simp[gN,hi,ab]);all_goals first|(refine⟨by unfold lim;omega,?_⟩)|skip
   (with_reducible repeat' first|refine aj ?_|simp);refine bO.rng (out++[b]) hi (by rw[rl,rJ aB,gO,List.filter_append,ae];simp[gO,q9.1 ab]) ?_;simp;exact⟨by simp[fresh,aH,aD,b7,inObs,Pv.look,kc],ee (by simp[fresh,aH,aD,b7,inObs,Pv.look,kc]),ef (by simp[fresh,aH,aD,dW,inObs,Pv.look,kc]),Ψ⟩
  ·(with_reducible repeat' first|refine aj ?_|refine aF (uB s b.v ag.len) ?_|refine aG (uB s b.v ag.len) ?_|simp[gN,hi,ab]);refine bO.rng out hi (by
    have:cP s b.v≠none:=fun e=>ab (q9.2 e);rw[rl,rJ aB,gO,List.filter_append,ae];cases e:cP s b.v with
    |none=>exact absurd e this
    |some x=>simp[gO,e]) ?_
   exact bL
def G2(t:List aq)(i:Nat)(out:List aq):Prop:=out=t.take i
theorem ZL(t:List aq)(aN:t.length<=1000000):bF ak 119 [.slice 5 .no (t.map aq.e)] (.slice 5 .no (t.map aq.e)):=by
 refine be rK ad5 ak5 fun aK=>?_;unfold QK;simp;refine gT (α:=List aq) (fun i out=>⟨[(7,.slice 5 .no (t.map aq.e)),(8,.int .i64 t.length),(3,.slice 5 (.own (.loc 0)) (out.map aq.e)),(9,.int .i64 i)],[],[(.loc 0,⟨out.length,61,5,none⟩)],1,[]⟩) t.length (G2 t) [] bL (by simp[G2]) (fun out ae _=>?_) (fun i out hi ae _=>?_)
 ·rw[G2,hQ (e7 _)]at ae;subst ae;exact bJ
 ·obtain⟨b,aB,gN⟩:=dB hi;have vl:out.length<=1000000:=by rw[ae];simp;omega
  simp[hi,gN];(with_reducible repeat' first|refine aj ?_|refine aF (uA _) ?_|refine aG (uA _) ?_|simp[gN,hi]);all_goals first|(refine⟨by unfold lim;omega,?_⟩)|skip
  (with_reducible repeat' first|refine aj ?_|simp);refine bO.rng (out++[b]) hi (by rw[G2,rJ aB,ae]) ?_;simp;exact⟨by simp[fresh,aH,aD,b7,inObs,Pv.look,kc],ee (by simp[fresh,aH,aD,b7,inObs,Pv.look,kc]),ef (by simp[fresh,aH,aD,dW,inObs,Pv.look,kc]),Ψ⟩
def sH(t:List aq)(b:aq):Bool:=decide (bX t b.v=b.t.ap (bX t))
def nN(s t:List aq):Bool:=s.all (sH t)
theorem EI{t:List aq}(aN:eU t)(v:Int):(bX t v).size<=5000:=by
 unfold bX;cases e:cP t v with
 |none=>simp[T.size]
 |some x=>exact aN.fits.2 _ (iV e)
theorem Z3(s:List aq){t:List aq}(ag:s.length<=1000000)(aN:eU t):bF ak 205 [.slice 5 .no (s.map aq.e),.slice 5 .no (t.map aq.e)] (.bool (nN s t)):=by
 refine be rK aec alc fun aK=>?_;unfold QR;simp;refine du [1,11,12] (fun i (_:Unit)=>[(13,.int .i64 i)]) s.length (ka (sH t) s) () bL (fun k b ad=>Ω) (fun _ ae _=>?_) (fun i _ hi ae _=>?_)
 ·have:nN s t=true:=by rw[nN,ga];intro b ab;obtain⟨k,ad,e⟩:=nY ab;exact ae k b ad (by rw[cc ad,e])
  rw[this];exact bJ
 ·obtain⟨b,aB,gN⟩:=dB hi;have eM:sH t b=false->nN s t=false:=fun h=>by rw[Bool.eq_false_iff];intro cf;rw[nN,ga]at cf;rw[cf b (dE aB)]at h;cases h
  have aU:=zD t (.var b.v) aN.len aN.sol.asc aN.fit;have bo:=zD t b.t aN.len aN.sol.asc aN.fit;have yN:=EI aN b.v;have GU:((T.var b.v).ap (bX t)).size<=5000:=yN;rw[if_pos GU,gK GU]at aU;rw[show(T.var b.v).ap (bX t)=bX t b.v from rfl]at aU;simp[hi,gN];by_cases bp:(b.t.ap (bX t)).size<=5000
  ·rw[if_pos bp,gK bp]at bo;by_cases he:bX t b.v=b.t.ap (bX t)
   ·rw[he]at aU;(with_reducible repeat' first|refine aj ?_|refine aF (jj _) ?_|refine aG (jj _) ?_|refine aF aU ?_|refine aG aU ?_|refine aF bo ?_|refine aG bo ?_|refine aF (ps _ _) ?_|refine aG (ps _ _) ?_|simp[gN,hi,he]);exact bO.rng () hi (ae.step aB (by simp[sH,he])) bL
   ·rw[eM (by simp[sH,he])];(with_reducible repeat' first|refine aj ?_|refine aF (jj _) ?_|refine aG (jj _) ?_|refine aF aU ?_|refine aG aU ?_|refine aF bo ?_|refine aG bo ?_|refine aF (ps _ _) ?_|refine aG (ps _ _) ?_|simp[gN,hi,he]);simp[bz,NC,aX,aY,aW]
  ·rw[if_neg bp,hG bp]at bo;rw[eM (by simp only[sH,fJ];intro e;rw[<-e]at bp;exact bp yN)];(with_reducible repeat' first|refine aj ?_|refine aF (jj _) ?_|refine aG (jj _) ?_|refine aF aU ?_|refine aG aU ?_|refine aF bo ?_|refine aG bo ?_|refine aF (ps _ _) ?_|refine aG (ps _ _) ?_|simp[gN,hi]);simp[bz,NC,aX,aY,aW]
theorem DR(c:aq->aq->Int):∀a b:List aq,a=[]\/b=[]->kf c a b=eE a.length b.length
 |[],[],_=>by simp[kf,eE]
 |[],_::_,_=>by simp[kf,eE]<;>omega
 |_::_,[],_=>by simp[kf,eE]<;>omega
 |_::_,_::_,h=>by simp at h
theorem Xm(x y:aq)(xs ys:List aq):eD (x::xs) (y::ys)=if eE x.v y.v=0 then(if eC x.t y.t=0 then eD xs ys else eC x.t y.t)else eE x.v y.v:=by
 by_cases bc:eE x.v y.v=0
 ·by_cases bE:eC x.t y.t=0<;>simp[eD,kf,zf,bc,bE]
 ·simp[eD,kf,zf,bc]
theorem Xn(a b k:Int):eE (a-k) (b-k)=eE a b:=by unfold eE;(repeat' split)<;>omega
def L6(d e:List aq)(i:Nat):Prop:=i<=d.length/\i<=e.length/\eD (d.drop i) (e.drop i)=eD d e
theorem IY(d e:List aq):bF ak 204 [.slice 5 .no (d.map aq.e),.slice 5 .no (e.map aq.e)] (.int .i64 (eD d e)):=by
 generalize aV:eD d e=R;refine be rK aef alf fun aK=>?_;unfold QU;have aR:d.length<=68719476736:=by simp[ek,ec,eg,lim]at aK;omega
 have he:e.length<=68719476736:=by simp[ek,ec,eg,lim]at aK;omega
 simp;refine uY [0,1] (fun(i:Nat)=>[(5,.int .i64 i)]) (fun i=>d.length-i) (L6 d e) 0 bL ⟨Ω,Ω,Ψ⟩ (fun i ae _=>?_);obtain⟨J,U,au⟩:=ae;rw[aV]at au;by_cases hi:i<d.length
 ·by_cases fM:i<e.length
  ·obtain⟨x,af⟩:∃x,d[i]? =some x:=⟨_,cc hi⟩;obtain⟨y,aO⟩:∃y,e[i]? =some y:=⟨_,cc fM⟩;have cJ:∀h,(d[i]'h)=x:=fun h=>by rw[cc hi]at af;exact eQ af
   have eX:∀h,(e[i]'h)=y:=fun h=>by rw[cc fM]at aO;exact eQ aO
   have AI:d.drop i=x::d.drop (i+1):=by rw[lI hi,cJ]
   have AJ:e.drop i=y::e.drop (i+1):=by rw[lI fM,eX]
   rw[AI,AJ]at au;rw[Xm]at au;simp[hi,fM,cJ,eX];by_cases bc:eE x.v y.v=0
   ·rw[if_pos bc]at au;by_cases bE:eC x.t y.t=0
    ·rw[if_pos bE]at au;(with_reducible repeat' first|refine aj ?_|refine aF (oF _ _) ?_|refine aG (oF _ _) ?_|refine aF (B9 _ _) ?_|refine aG (B9 _ _) ?_|simp[cJ,eX,hi,fM,bc,bE]);refine bO.whl (i+1) Ω ⟨Ω,Ω,by rw[aV];exact au⟩ ?_;exact bL
    ·rw[if_neg bE]at au;((with_reducible repeat' first|refine aj ?_|refine aF (oF _ _) ?_|refine aG (oF _ _) ?_|refine aF (B9 _ _) ?_|refine aG (B9 _ _) ?_|simp[cJ,eX,hi,fM,bc,bE]|((first|apply bS|apply bW|apply bV)<;>intro h<;>try simp at h))<;>(try exact cy));simp[bz,Es,aX,aY,aW];exact au
   ·rw[if_neg bc]at au;((with_reducible repeat' first|refine aj ?_|refine aF (oF _ _) ?_|refine aG (oF _ _) ?_|simp[cJ,eX,hi,fM,bc]|((first|apply bS|apply bW|apply bV)<;>intro h<;>try simp at h))<;>(try exact cy));simp[bz,Es,aX,aY,aW];exact au
  ·have:eE d.length e.length=R:=by rw[<-au,eD,DR _ _ _ (.inr (List.drop_eq_nil_of_le Ω))];rw[<-Xn d.length e.length i];simp only[tc];congr 1<;>omega
   simp[hi,fM];(with_reducible repeat' first|refine aj ?_|refine aF (oF _ _) ?_|refine aG (oF _ _) ?_|simp[hi,fM]);simp[bz,Es,aX,aY,aW];exact this
 ·have:eE d.length e.length=R:=by rw[<-au,eD,DR _ _ _ (.inl (List.drop_eq_nil_of_le Ω))];rw[<-Xn d.length e.length i];simp only[tc];congr 1<;>omega
  simp[hi];(with_reducible repeat' first|refine aj ?_|refine aF (oF _ _) ?_|refine aG (oF _ _) ?_|simp[hi]);simp[bz,Es,aX,aY,aW];exact this
theorem ZQ(a b:List aq)(bu:a.length<=1000000):bF ak 135 [.slice 5 .no (a.map aq.e),.slice 5 .no (b.map aq.e)] (.bool (decide (a=b))):=by
 by_cases ar:a.length=b.length;rotate_left
 ·have bs:decide (a=b)=false:=by simp only[fJ];rintro rfl;exact ar rfl
  have tI:((a.length:Int) !=(b.length:Int))=true:=by simp;omega
  have oh:¬(a.length:Int)=b.length:=Ω
  rw[bs];refine be rK Te W5 fun aK=>?_;unfold JJ;exact bJ
 ·generalize aV:decide (a=b)=R;refine be rK Te W5 fun aK=>?_;unfold JJ;simp;(with_reducible repeat' first|refine aj ?_|simp[ar]);refine du [0,1,12] (fun i (_:Unit)=>[(13,.int .i64 i)]) b.length (fun i (_:Unit)=> ∀k,k<i->a[k]? =b[k]?) () bL (fun k ad=>Ω) (fun _ ae _=>?_) (fun i _ hi ae _=>?_)
  ·have:R=true:=by
    rw[<-aV,fc];apply List.ext_getElem?;intro k;by_cases ad:k<b.length
    ·exact ae k ad
    ·rw[qO Ω,qO Ω]
   rw[this];exact bJ
  ·obtain⟨x,af⟩:∃x,a[i]? =some x:=⟨_,cc Ω⟩;obtain⟨y,aO⟩:∃y,b[i]? =some y:=⟨_,cc hi⟩;have gv:i<a.length:=Ω
   have cJ:∀h,(a[i]'h)=x:=fun h=>by rw[cc gv]at af;exact eQ af
   have eX:∀h,(b[i]'h)=y:=fun h=>by rw[cc hi]at aO;exact eQ aO
   have eM:x≠y->R=false:=fun h=>by rw[<-aV,fJ];rintro rfl;rw[af]at aO;cases aO;exact h rfl
   simp[hi,gv,cJ,eX];by_cases bc:x.v=y.v
   ·have uf:(x.v !=y.v)=false:=by simp[bc]
    by_cases bE:x.t=y.t
    ·(with_reducible repeat' first|refine aj ?_|refine aF (ps _ _) ?_|refine aG (ps _ _) ?_|simp[cJ,eX,hi,gv,bc,uf,bE]);refine bO.rng () hi (fun k ad=>?_) ?_
     ·rcases(by omega:k<i\/k=i)with h|rfl
      ·exact ae k h
      ·rw[af,aO];cases x;cases y;simp_all
     ·exact bL
    ·rw[eM (fun e=>bE (by rw[e]))];(with_reducible repeat' first|refine aj ?_|refine aF (ps _ _) ?_|refine aG (ps _ _) ?_|simp[cJ,eX,hi,gv,bc,uf,bE]);simp[bz,XR,aX,aY,aW]
   ·have uf:(x.v !=y.v)=true:=by simp[bc]
    rw[eM (fun e=>bc (by rw[e]))];exact bJ
def jd(l:List (List aq))(e:List aq):Bool:=l.all fun d=>decide (d=e)|| !nN d e
theorem ajk{l aZ:List (List aq)}(h:∀x,x∈l↔x∈aZ)(e:List aq):jd l e=jd aZ e:=by rw[oG,jd,jd,ga,ga];exact⟨fun J x af=>J x ((h x).2 af),fun J x af=>J x ((h x).1 af)⟩
def k6(l:List (List aq)):List (List aq):=(asc eD l).filter (jd l)
theorem Bl{l:List (List aq)}{x:List aq}:x∈k6 l↔x∈l/\jd l x=true:=by rw[k6,nZ,Wy]
theorem WH(l:List (List aq)):hZ eD (k6 l):=(Jv l3 l).filter _
theorem WI{l aZ:List (List aq)}(bu:hZ eD aZ)(hm:∀x,x∈aZ↔x∈l/\jd l x=true):k6 l=aZ:=(WH l).ext l3 bu fun x=>by rw[hm,Bl]
structure dA where
 n:Int
 b:List aq
 d:List (List aq)
 k:List bQ
 m:List bj
 deriving DecidableEq,Inhabited
noncomputable def hd(b:List aq)(k:List bQ)(m:List bj):List (List aq)->ba (List (List aq))
 |[]=>some []
 |d::r=>match mgu b (hU d)with
  |none=>hd b k m r
  |some x=>if gq x k []=none\/gr x m []=none then hd b k m r else if gO b x=[]then none else(hd b k m r).map (gO b x:: ·)
def kR(k:List bQ)(x:bj):Bool:=lA k x.v !=some 3
noncomputable def nS(s:dA):ba dA:=match gq s.b s.k []with
 |none=>none
 |some k=>match gr s.b s.m []with
  |none=>none
  |some m=>match hd s.b k (m.filter (kR k)) s.d with
   |none=>none
   |some L=>if(k6 L).length<=30 then some ⟨s.n,s.b,k6 L,k,m.filter (kR k)⟩else none
def x0(t:T)(n:Int):Prop:= ∀v,t.occ v=true->v<n
def qk(l:List aq)(n:Int):Prop:= ∀b∈l,b.v<n/\x0 b.t n
structure vU (s:dA):Prop where
 n:0<=s.n/\s.n<=100000
 b:eU s.b
 d:∀x∈s.d,eU x
 k:ju s.k
 m:h6 s.m
 bb:qk s.b s.n
 db:∀x∈s.d,qk x s.n
 kb:∀x∈s.k,x.v<s.n
 mb:∀x∈s.m,x.v<s.n
def Oz(s:dA):Prop:=vU s/\nS s=some s
theorem BX{s:List aq}(ag:eU s){v:Int}(aB:0<=v/\v<=100000):(bX s v).ok=true:=by have:=Iv ag.ok (t:= .var v) (by simpa[T.ok]using aB);exact this
theorem Ic{s:List aq}(ag:eU s):∀{l acc a:List bQ},(∀x∈l,(0<=x.v/\x.v<=100000)/\(x.k=2\/x.k=3))->ju acc->gq s l acc=some a->ju a
 |[],acc,a,_,h,he=>by simp only[gq,dQ]at he;rw[<-he];exact h
 |x::r,acc,a,ar,h,he=>by
  simp only[gq]at he;split at he
  ·rename_i bC al;have af:=ar x Ψ;exact Ic ag (fun y aO=>ar y (by simp[aO])) (Jn h (BX ag af.1) af.2 al) he
  ·cases he
theorem Ie{s:List aq}(ag:eU s):∀{l acc a:List bj},(∀x∈l,(0<=x.v/\x.v<=100000)/\jX x.s=true)->h6 acc->gr s l acc=some a->h6 a
 |[],acc,a,_,h,he=>by simp only[gr,dQ]at he;rw[<-he];exact h
 |x::r,acc,a,ar,h,he=>by
  simp only[gr]at he;split at he
  ·rename_i bC al;have af:=ar x Ψ;exact Ie ag (fun y aO=>ar y (by simp[aO])) (Jp h (BX ag af.1) af.2 al) he
  ·cases he
def nT(G:List (List dM))(l:List bj):Prop:= ∀x∈l,x.s∈G
theorem Jq{G:List (List dM)}{l aZ:List bj}{t:T}{s:List dM}(h:nT G l)(ag:s∈G)(he:mf l t s=some aZ):nT G aZ:=fun x af=>by
 rcases(DX he x).1 af with J|⟨J,_⟩
 ·exact h x J
 ·rw[J];exact ag
theorem N1{G:List (List dM)}{s:List aq}:∀{l acc a:List bj},nT G l->nT G acc->gr s l acc=some a->nT G a
 |[],acc,a,_,h,he=>by simp only[gr,dQ]at he;rw[<-he];exact h
 |x::r,acc,a,ar,h,he=>by
  simp only[gr]at he;split at he
  ·rename_i bC al;exact N1 (fun y aO=>ar y (by simp[aO])) (Jq h (ar x Ψ) al) he
  ·cases he
theorem amU{α:Type}[DecidableEq α]:∀{G:List α} {l:List (Nat×α)},l.Nodup->(∀x∈l,x.1<100001/\x.2∈G)->l.length<=100001*G.length:=by
 intro G l ax h;have:=Pp ax (l₂:=(List.range 100001).flatMap fun i=>G.map fun g=>(i,g)) (fun x af=>by obtain⟨J,U⟩:=h x af;rw[List.mem_flatMap];exact⟨x.1,List.mem_range.2 J,hB.2 ⟨x.2,U,rfl⟩⟩)
 have e:((List.range 100001).flatMap fun i=>G.map fun g=>(i,g)).length=100001*G.length:=by
  generalize 100001=n;induction n with
  |zero=>simp
  |succ n bR=>rw[List.range_succ,List.flatMap_append,pC,bR];simp[Nat.succ_mul]
 omega
theorem DV{G:List (List dM)}{l:List bj}(h:h6 l)(a7:nT G l):l.length<=100001*G.length:=by
 have J:(l.map fun x=>(x.v.toNat,x.s)).Nodup:=by rw[List.nodup_iff_pairwise_ne,td];refine arl (fun{a b} bu ab cM e=>cM ?_) (h.asc.nodup l4);have:=(h.at' a bu).1;have:=(h.at' b ab).1;simp only[jB]at e;cases a;cases b;simp only[bj.mk.injEq];simp only at*;exact⟨Ω,e.2⟩
 have:=amU (G:=G) J fun x af=>by obtain⟨y,aO,rfl⟩:=hB.1 af;have:=(h.at' y aO).1;exact⟨by simp;omega,a7 y aO⟩
 simpa using this
def ES(m:List bj):Prop:= ∃G:List (List dM),G.length<=687000/\nT G m
theorem ES.len{m:List bj}(h:ES m)(hm:h6 m):m.length<=68719470000:=by obtain⟨G,J,U⟩:=h;have:=DV hm U;omega
theorem aou{s:List aq}(h:eU s)(p:aq->Bool):eU (s.filter p):=by
 have nH:∀b∈s.filter p,b∈s:=fun b ab=>(nZ.1 ab).1;have ax:∀w,cP s w=none->cP (s.filter p) w=none:=fun w hw=>by rw[mD]at hw⊢;exact fun b ab=>hw b (nH b ab)
 exact⟨fun b ab=>h.ok b (nH b ab),⟨aav p h.sol.asc,fun b ab w hw=>ax w (h.sol.free b (nH b ab) w hw),fun b ab=>h.sol.ori b (nH b ab)⟩,
  kB (List.length_filter_le _ _) h.fits.1,fun b ab=>h.fits.2 b (nH b ab)⟩
theorem Hz{b x:List aq}(h:eU x):eU (gO b x):=aou h _
theorem akz{b x:List aq}(ab:fQ b)(af:fQ x)(aJ:gy x)(h:∀aQ,hg x aQ->hg b aQ):iT b (hU (gO b x)) (some x):=by
 refine⟨⟨af,aJ⟩,fun aQ=>⟨fun hE=>⟨h aQ hE,fun e he=>?_⟩,fun⟨J,U⟩ c aw=>?_⟩⟩
 ·obtain⟨c,aw,rfl⟩:=hB.1 he;exact hE c (nZ.1 aw).1
 ·have kK:∀c∈x,cP b c.v=none->aQ c.v=c.t.ap aQ:=fun c aw ax=>by have:=U (.var c.v,c.t) (hB.2 ⟨c,nZ.2 ⟨aw,by simp[ax]⟩,rfl⟩);exact this
  have yv:∀w,cP b w=none->(bX x w).ap aQ=aQ w:=fun w hw=>by
   unfold bX;cases e:cP x w with
   |none=>rfl
   |some t=>have hm:=iV e;exact(kK _ hm hw).symm
  cases e:cP b c.v with
  |none=>exact kK c aw e
  |some t=>
   have al:aQ c.v=t.ap aQ:=J _ (iV e);have aE:=h (bX x) (zx af) _ (iV e);simp only at aE;have bn:bX x c.v=c.t:=by unfold bX;rw[pM af.asc aw];rfl
   rw[bn]at aE;rw[al,aE,Cr];exact uP fun w hw=>(yv w (ab.free _ (iV e) w hw)).symm
theorem aka{s:List aq}(ag:fQ s)(aJ:gy s){E:List (T×T)}{x:List aq}(h:mgu s E=some x):∀aQ,hg x aQ↔hg s aQ/\jN E aQ:=by have:=Hw ag aJ E;rw[h]at this;exact this.2
theorem aj7{s:List aq}(ag:fQ s)(aJ:gy s){E:List (T×T)}{x:List aq}(h:mgu s E=some x):mgu s (hU (gO s x))=some x:=sI (akz ag (Bk ag aJ h).1 (Bk ag aJ h).2 fun aQ hE=>((aka ag aJ h aQ).1 hE).1)
theorem aj9(p:Int->Prop){E:List (T×T)}:∀{s ah:List aq},fQ s->gy s->(∀b∈s,p b.v/\∀w,b.t.occ w=true->p w)->(∀e∈E,(∀w,e.1.occ w=true->p w)/\∀w,e.2.occ w=true->p w)->mgu s E=some ah->∀b∈ah,p b.v/\∀w,b.t.occ w=true->p w:=by
 induction E with
 |nil=>intro s ah ag aJ J _ h;rw[MK ag aJ]at h;cases h;exact J
 |cons e E bR=>
  intro s ah ag aJ J U h;rw[MJ ag aJ]at h;split at h
  ·rename_i s1 al;obtain⟨V,kt⟩:∃V,V=s.flatMap (fun b=>b.v::nX b.t)++nX e.1++nX e.2:=⟨_,rfl⟩;have T9:∀w∈V,p w:=by
    intro w hw;rw[kt]at hw;simp only[kn,List.mem_flatMap,fA]at hw;rcases hw with(⟨b,ab,rfl|hw⟩|hw)|hw
    ·exact(J b ab).1
    ·exact(J b ab).2 w (E1.1 hw)
    ·exact(U e Ψ).1 w (E1.1 hw)
    ·exact(U e Ψ).2 w (E1.1 hw)
   obtain⟨n,o,ji,jI,qJ⟩:=ZA V _ _ s e.1 e.2 ag aJ (fun c aw=>⟨by rw[kt];simp only[kn,List.mem_flatMap];exact .inl (.inl ⟨c,aw,Ψ⟩),fun w hw=>by rw[kt];simp only[kn,List.mem_flatMap];exact .inl (.inl ⟨c,aw,by simp[y4 hw]⟩)⟩)
    (fun w hw=>by rw[kt];simp only[kn];exact .inl (.inr (y4 hw))) (fun w hw=>by rw[kt];simp only[kn];exact .inr (y4 hw)) rfl rfl
   have zC:=sI jI;rw[al]at zC;subst zC;obtain⟨Zz,_⟩:=qJ s1 rfl;have oo:=Bk ag aJ al;exact bR oo.1 oo.2 (fun b ab=>⟨T9 _ (Zz b ab).1,fun w hw=>T9 w ((Zz b ab).2 w hw)⟩) (fun ff he=>U ff (by simp[he])) h
  ·cases h
theorem aoB{s:List aq}(ag:fQ s){v n:Int}(h:bX s v= .var n):cP s n=none:=by have:=Oq ag (t:= .var v) (w:=n) (by show(bX s v).occ n=true;rw[h];simp[T.occ]);exact this
theorem PI{l aZ:List bQ}{t:T}{k:Int}(h:kC l t k=some aZ):∀x∈aZ,x∈l\/t= .var x.v:=by
 unfold kC at h;split at h
 ·rename_i n;split at h
  ·split at h
   ·cases h;exact fun x af=>.inl af
   ·cases h
  ·cases h;intro x af;rcases Hv.1 af with rfl|af
   ·exact .inr rfl
   ·exact .inl af
 ·split at h
  ·cases h;exact fun x af=>.inl af
  ·cases h
theorem Ys{s:List aq}(ag:fQ s):∀{l acc a:List bQ},(∀x∈acc,cP s x.v=none)->gq s l acc=some a->∀x∈a,cP s x.v=none
 |[],acc,a,h,he=>by simp only[gq,dQ]at he;rw[<-he];exact h
 |y::r,acc,a,h,he=>by
  simp only[gq]at he;split at he
  ·rename_i bC al;refine Ys ag (fun x af=>?_) he;rcases PI al x af with J|J
   ·exact h x J
   ·exact aoB ag J
  ·cases he
theorem Vo{x:bQ}:∀{l:List bQ},(∀y∈l,y.v<x.v)->lY x l=l++[x]
 |[],_=>rfl
 |y::l,h=>by simp only[lY,if_pos (h y Ψ),Vo (l:=l) fun z bp=>h z (by simp[bp]),bZ]
theorem Yt{s:List aq}:∀{l acc:List bQ},(acc++l).Pairwise (fun x y=>x.v<y.v)->(∀x∈l,cP s x.v=none)->gq s l acc=some (acc++l)
 |[],acc,_,_=>by simp[gq]
 |x::r,acc,bu,aJ=>by
  have J:∀y∈acc,y.v<x.v:=fun y aO=>(List.pairwise_append.1 bu).2.2 y aO x Ψ;have U:lA acc x.v=none:=yU.2 fun y aO=>by have:=J y aO;omega
  have au:kC acc (bX s x.v) x.k=some (acc++[x]):=by rw[BW (aJ x Ψ)];simp only[kC,U];rw[Vo J]
  simp only[gq,au];rw[Yt (by simpa using bu) fun y aO=>aJ y (by simp[aO])];simp
theorem Yv{s:List aq}(ag:fQ s):∀{l acc a:List bj},(∀x∈acc,cP s x.v=none)->gr s l acc=some a->∀x∈a,cP s x.v=none
 |[],acc,a,h,he=>by simp only[gr,dQ]at he;rw[<-he];exact h
 |y::r,acc,a,h,he=>by
  simp only[gr]at he;split at he
  ·rename_i bC al;refine Yv ag (fun x af=>?_) he;rcases(DX al x).1 af with J|⟨_,J⟩
   ·exact h x J
   ·exact Oq ag (t:= .var y.v) J
  ·cases he
theorem Yw{s:List aq}:∀{l acc:List bj},hZ fq (acc++l)->(∀x∈l,cP s x.v=none)->gr s l acc=some (acc++l)
 |[],acc,_,_=>by simp[gr]
 |x::r,acc,bu,aJ=>by
  have au:mf acc (bX s x.v) x.s=some (acc++[x]):=by
   rw[BW (aJ x Ψ)];refine Jo rfl (avP ?_ bu) fun z=>?_
   ·simp
   ·simp only[kn,List.mem_singleton,T.occ,dV];refine or_congr_right ⟨fun h=>by rw[h];exact⟨rfl,rfl⟩,fun⟨J,U⟩=>?_⟩;cases z;cases x;simp_all
  simp only[gr,au];rw[Yw (by simpa using bu) fun y aO=>aJ y (by simp[aO])];simp
def EP(b:List aq)(k:List bQ)(m:List bj)(d:List aq):Prop:= ∃x,mgu b (hU d)=some x/\¬(gq x k []=none\/gr x m []=none)/\gO b x=d/\d≠[]
theorem Hm{b:List aq}(ab:eU b){k:List bQ}{m:List bj}:∀{l L:List (List aq)},hd b k m l=some L->∀d∈L,EP b k m d
 |[],L,h=>by simp only[hd,dQ]at h;rw[<-h];simp
 |d0::r,L,h=>by
  simp only[hd]at h;split at h
  ·exact Hm ab h
  ·rename_i x af;split at h
   ·exact Hm ab h
   ·rename_i ad;split at h
    ·cases h
    ·rename_i ax;rw[ha]at h;obtain⟨Pw,J,rfl⟩:=h;intro d aR;rcases fA.1 aR with rfl|aR
     ·exact⟨x,aj7 ab.sol ab.fits af,ad,rfl,ax⟩
     ·exact Hm ab J d aR
theorem Wd{b:List aq}{k:List bQ}{m:List bj}:∀{L:List (List aq)},(∀d∈L,EP b k m d)->hd b k m L=some L
 |[],_=>rfl
 |d::L,h=>by obtain⟨x,J,U,au,a6⟩:=h d Ψ;simp only[hd,J,if_neg U,au,if_neg a6,Wd (L:=L) fun e he=>h e (by simp[he]),nl]
theorem Hl{b:List aq}(ab:eU b){k:List bQ}{m:List bj}:∀{l L:List (List aq)},(∀d∈l,eU d)->hd b k m l=some L->∀d∈L,eU d
 |[],L,_,h=>by simp only[hd,dQ]at h;rw[<-h];simp
 |d0::r,L,ar,h=>by
  simp only[hd]at h;split at h
  ·exact Hl ab (fun d aR=>ar d (by simp[aR])) h
  ·rename_i x af;split at h
   ·exact Hl ab (fun d aR=>ar d (by simp[aR])) h
   ·split at h
    ·cases h
    ·rw[ha]at h;obtain⟨Pw,J,rfl⟩:=h;intro d aR;rcases fA.1 aR with rfl|aR
     ·exact Hz (ab.mgu (fun e he=>by obtain⟨c,aw,rfl⟩:=hB.1 he;have:=(ar d0 Ψ).ok c aw;exact⟨by simpa[T.ok]using this.1,this.2⟩) af)
     ·exact Hl ab (fun d aR=>ar d (by simp[aR])) J d aR
theorem Hk{b:List aq}(ab:eU b){n:Int}(ax:qk b n){k:List bQ}{m:List bj}:∀{l L:List (List aq)},(∀d∈l,qk d n)->hd b k m l=some L->∀d∈L,qk d n
 |[],L,_,h=>by simp only[hd,dQ]at h;rw[<-h];simp
 |d0::r,L,ar,h=>by
  simp only[hd]at h;split at h
  ·exact Hk ab ax (fun d aR=>ar d (by simp[aR])) h
  ·rename_i x af;split at h
   ·exact Hk ab ax (fun d aR=>ar d (by simp[aR])) h
   ·split at h
    ·cases h
    ·rw[ha]at h;obtain⟨Pw,J,rfl⟩:=h;intro d aR;rcases fA.1 aR with rfl|aR
     ·have:=aj9 (fun v=>v<n) ab.sol ab.fits ax (fun e he=>by obtain⟨c,aw,rfl⟩:=hB.1 he;have:=ar d0 Ψ c aw;exact⟨fun w hw=>by simp[T.occ]at hw;subst hw;exact this.1,this.2⟩) af
      exact fun c aw=>this c (nZ.1 aw).1
     ·exact Hk ab ax (fun d aR=>ar d (by simp[aR])) J d aR
theorem akd{L:List (List aq)}:k6 (k6 L)=k6 L:=WI (WH L) fun x=>by rw[Bl,and_assoc];refine⟨fun⟨J,U⟩=>⟨J,U,?_⟩,fun⟨J,U,_⟩=>⟨J,U⟩⟩;rw[jd,ga]at U⊢;exact fun d aR=>U d (Bl.1 aR).1
theorem VG{b:List aq}(ab:eU b){n:Int}(ax:qk b n){v w:Int}(aB:v<n)(h:(bX b v).occ w=true):w<n:=by
 unfold bX at h;cases e:cP b v with
 |none=>rw[e]at h;simp[T.occ]at h;omega
 |some t=>rw[e]at h;exact(ax _ (iV e)).2 w h
theorem Yr{b:List aq}(ab:eU b){n:Int}(ax:qk b n):∀{l acc a:List bQ},(∀x∈l,x.v<n)->(∀x∈acc,x.v<n)->gq b l acc=some a->∀x∈a,x.v<n
 |[],acc,a,_,h,he=>by simp only[gq,dQ]at he;rw[<-he];exact h
 |y::r,acc,a,ar,h,he=>by
  simp only[gq]at he;split at he
  ·rename_i bC al;refine Yr ab ax (fun x af=>ar x (by simp[af])) (fun x af=>?_) he;rcases PI al x af with J|J
   ·exact h x J
   ·exact VG ab ax (ar y Ψ) (by rw[J];simp[T.occ])
  ·cases he
theorem Yu{b:List aq}(ab:eU b){n:Int}(ax:qk b n):∀{l acc a:List bj},(∀x∈l,x.v<n)->(∀x∈acc,x.v<n)->gr b l acc=some a->∀x∈a,x.v<n
 |[],acc,a,_,h,he=>by simp only[gr,dQ]at he;rw[<-he];exact h
 |y::r,acc,a,ar,h,he=>by
  simp only[gr]at he;split at he
  ·rename_i bC al;refine Yu ab ax (fun x af=>ar x (by simp[af])) (fun x af=>?_) he;rcases(DX al x).1 af with J|⟨_,J⟩
   ·exact h x J
   ·exact VG ab ax (ar y Ψ) J
  ·cases he
theorem aoy{s ah:dA}(h:vU s)(he:nS s=some ah):Oz ah/\ah.n=s.n/\ah.b=s.b:=by
 unfold nS at he;split at he
 ·cases he
 rename_i k ad;split at he
 ·cases he
 rename_i m hm;split at he
 ·cases he
 rename_i L jQ;split at he;rotate_left
 ·cases he
 rename_i lO;cases he;have aU:=Ic h.b h.k.at' ⟨Ψ,Ψ⟩ ad;have m1:=Ie h.b h.m.at' ⟨Ψ,by simp[hZ]⟩ hm;have m2:h6 (m.filter (kR k)):=⟨fun x af=>m1.at' x (nZ.1 af).1,aav _ m1.asc⟩;have cR:=Hm h.b jQ;have yJ:=Hl h.b h.d jQ;refine⟨⟨⟨h.n,h.b,fun x af=>yJ x (Bl.1 af).1,aU,m2,h.bb,fun x af=>Hk h.b h.bb h.db jQ x (Bl.1 af).1,Yr h.b h.bb h.kb Ψ ad,fun x af=>Yu h.b h.bb h.mb Ψ hm x (nZ.1 af).1⟩,?_⟩,rfl,rfl⟩;unfold nS;have al:gq s.b k []=some k:=Yt (acc:=[]) aU.asc (Ys h.b.sol Ψ ad);have aE:gr s.b (m.filter (kR k)) []=some (m.filter (kR k)):=Yw (acc:=[]) m2.asc fun x af=>Yv h.b.sol Ψ hm x (nZ.1 af).1;have bn:(m.filter (kR k)).filter (kR k)=m.filter (kR k):=by rw[List.filter_filter];simp
 have dh:hd s.b k (m.filter (kR k)) (k6 L)=some (k6 L):=Wd fun d aR=>cR d (Bl.1 aR).1;simp only[al,aE,bn,dh,akd,if_pos lO]
theorem tX{α:Type}{s:List α}{i:Nat}{t:α}(h:s[i]? =some t):s.drop i=t::s.drop (i+1):=by obtain⟨hi,e⟩:=eP.1 h;rw[lI hi,e]
def qD(L:List (List aq))(a:List (List aq))(e:List aq):List (List aq):=if jd L e=true then kv eD e a else a
theorem ML{L:List (List aq)}:∀(xs:List (List aq)) {a:List (List aq)},hZ eD a->hZ eD (xs.foldl (qD L) a)
 |[],_,h=>h
 |x::xs,a,h=>ML xs (a:=qD L a x) (by unfold qD;split<;>first|exact L0 l3 h|exact h)
theorem WK{L:List (List aq)}{x:List aq}:∀(xs:List (List aq)) {a:List (List aq)},x∈xs.foldl (qD L) a↔x∈a\/(x∈xs/\jd L x=true)
 |[],a=>by simp
 |y::xs,a=>by
  rw[List.foldl_cons,WK xs,fA];unfold qD;by_cases ad:jd L y=true
  ·rw[if_pos ad,Hu l3];constructor
   ·rintro((rfl|h)|h)
    ·exact .inr ⟨.inl rfl,ad⟩
    ·exact .inl h
    ·exact .inr ⟨.inr h.1,h.2⟩
   ·rintro(h|⟨rfl|J,U⟩)
    ·exact .inl (.inr h)
    ·exact .inl (.inl rfl)
    ·exact .inr ⟨J,U⟩
  ·rw[if_neg ad];constructor
   ·rintro(h|h)
    ·exact .inl h
    ·exact .inr ⟨.inr h.1,h.2⟩
   ·rintro(h|⟨rfl|J,U⟩)
    ·exact .inl h
    ·exact absurd U ad
    ·exact .inr ⟨J,U⟩
theorem WJ{L:List (List aq)}:∀(xs a:List (List aq)),(xs.foldl (qD L) a).length<=a.length+xs.length
 |[],a=>by simp
 |y::xs,a=>by
  have J:=WJ (L:=L) xs (qD L a y);have U:(qD L a y).length<=a.length+1:=by
   unfold qD;split
   ·exact L2 _ _
   ·omega
  simp only[List.foldl_cons,pD];omega
theorem akf(L:List (List aq)):k6 L=L.foldl (qD L) []:=WI (ML L (by simp[hZ])) fun x=>by rw[WK];simp
def yS(L:List (List aq))(i:Nat)(a:List (List aq)):Prop:=a=(L.take i).foldl (qD L) []
theorem yS.step{L:List (List aq)}{i:Nat}{a:List (List aq)}(h:yS L i a){e:List aq}(he:L[i]? =some e):yS L (i+1) (qD L a e):=by rw[yS,rJ he,List.foldl_append,h];rfl
def w7(e d:List aq):Bool:=decide (d=e)|| !nN d e
def qx(L:List (List aq))(e:List aq)(j:Nat)(k:Bool):Prop:=k=(L.take j).all (w7 e)
theorem qx.step{L:List (List aq)}{e:List aq}{j:Nat}{k:Bool}(h:qx L e j k){d:List aq}(aR:L[j]? =some d):qx L e (j+1) (k&&w7 e d):=by rw[qx,rJ aR,List.all_append,h];simp
def G4(a:List (List aq))(e:List aq)(k:Nat):Prop:=k<=a.length/\∀c,a[k]? =some c->0<=eD c e
theorem G4.fin{a:List (List aq)}{e:List aq}{k:Nat}(h:G4 a e k)(bu:hZ eD a)(aw:∀d,0<k->a[k-1]? =some d->eD d e<0):kv eD e a=if(match a[k]? with|some y=>decide (eD y e=0)|none=>false)=true then a else a.take k++e::a.drop k:=
 (L1 l3 e a k (fun i c hi j7=>by
  have ad:=h.1;obtain⟨d,aR⟩:∃d,a[k-1]? =some d:=⟨_,cc Ω⟩;have J:=aw d Ω aR;rcases Nat.lt_or_ge i (k-1)with U|U
  ·have tG:=(eP.1 j7);have k1:=(eP.1 aR);have:=qg.1 bu i (k-1) tG.1 k1.1 U;rw[tG.2,k1.2]at this;exact l3.ltr this Ω
  ·have:i=k-1:=Ω
   subst this;rw[aR]at j7;cases j7;exact J) h.2 h.1).trans (by cases a[k]?<;>rfl)
theorem VK(L:List (List aq))(e:List aq):jd L e=L.all (w7 e):=rfl
theorem Y4{l:List (List aq)}{x:List aq}:x∈pg eD l↔x∈l:=(zy eD l).mem_iff
theorem ake(l:List (List aq)):k6 l=(cQ none (pg eD l)).filter (jd (pg eD l)):=by have h:jd l=jd (pg eD l):=funext fun e=>ajk (fun x=>Y4.symm) e;rw[k6,h];rfl
def mS(s:List (List aq))(i:Nat)(acc:List (List aq)):Prop:=acc++(cQ (if i=0 then none else s[i-1]?) (s.drop i)).filter (jd s)=(cQ none s).filter (jd s)
def rM:dA:=⟨0,[],[],[],[]⟩
noncomputable def BV(s:dA):dA:=match gq s.b s.k []with
 |none=>rM
 |some k=>match gr s.b s.m []with
  |none=>rM
  |some m=>match hd s.b k (m.filter (kR k)) s.d with
   |none=>rM
   |some L=>⟨s.n,s.b,k6 L,k,m.filter (kR k)⟩
theorem aoz{s ah:dA}(h:nS s=some ah):BV s=ah:=by
 unfold nS at h;unfold BV;cases J:gq s.b s.k []with
 |none=>rw[J]at h;cases h
 |some k=>
  rw[J]at h;simp only at h⊢;cases U:gr s.b s.m []with
  |none=>rw[U]at h;cases h
  |some m=>
   rw[U]at h;simp only at h⊢;cases au:hd s.b k (m.filter (kR k)) s.d with
   |none=>rw[au]at h;cases h
   |some L=>
    rw[au]at h;simp only at h⊢;split at h
    ·cases h;rfl
    ·cases h
theorem aa0{k:List bQ}(ad:ju k)(v:Int):(kC k (.var v) 2).isSome=(lA k v !=some 3):=by
 unfold kC;simp only;cases h:lA k v with
 |none=>simp
 |some x=>have:=(ad.at' _ (VQ h)).2;simp only at this;rcases this with rfl|rfl<;>simp
theorem aa6{k:List bQ}(bu:k.Pairwise fun x y=>x.v<y.v)(v:Int):(k.any fun x=>x.v==v&&x.k==3)=(lA k v==some 3):=by
 rw[oG,List.any_eq_true,dV];constructor
 ·rintro⟨x,af,h⟩;simp only[cC,dV]at h;have:=Hc bu af;rw[h.1,h.2]at this;exact this
 ·intro h;exact⟨_,VQ h,Ψ⟩
theorem Mo{b:List aq}{k:List bQ}{m:List bj}{d:List aq}{r:List (List aq)}(h:mgu b (hU d)=none):hd b k m (d::r)=hd b k m r:=by rw[hd,h]
theorem Mn{b:List aq}{k:List bQ}{m:List bj}{d x:List aq}{r:List (List aq)}(h:mgu b (hU d)=some x)(ad:gq x k []=none\/gr x m []=none):hd b k m (d::r)=hd b k m r:=by rw[hd,h];simp only[if_pos ad]
theorem Mm{b:List aq}{k:List bQ}{m:List bj}{d x:List aq}{r:List (List aq)}(h:mgu b (hU d)=some x)(ad:¬(gq x k []=none\/gr x m []=none))(ax:gO b x=[]):hd b k m (d::r)=none:=by rw[hd,h];simp only[if_neg ad,if_pos ax]
theorem Mp{b:List aq}{k:List bQ}{m:List bj}{d x:List aq}{r:List (List aq)}(h:mgu b (hU d)=some x)(ad:¬(gq x k []=none\/gr x m []=none))(ax:gO b x≠[]):hd b k m (d::r)=(hd b k m r).map (gO b x:: ·):=by rw[hd,h];simp only[if_neg ad,if_neg ax]
def qy(b:List aq)(k:List bQ)(m:List bj)(D:List (List aq))(i:Nat)(a:List (List aq)):Prop:=a.length<=i/\(∀x∈a,eU x)/\(hd b k m (D.drop i)).map (a++ ·)=hd b k m D
def iW(n:Int):T->Bool
 | .var v=>decide (v<n)
 | .pair a b=>iW n a&&iW n b
 |_=>true
theorem JB{n:Int}:∀{t:T},iW n t=true↔x0 t n
 | .var v=>by simp[iW,x0,T.occ]
 | .pair a b=>by simp only[iW,cC,JB (t:=a),JB (t:=b),x0,T.occ,lH];exact⟨fun h v aB=>aB.elim (h.1 v) (h.2 v),fun h=>⟨fun v aB=>h v (.inl aB),fun v aB=>h v (.inr aB)⟩⟩
 | .nil=>by simp[iW,x0,T.occ]
 | .sym _=>by simp[iW,x0,T.occ]
 | .num _=>by simp[iW,x0,T.occ]
def k0(n:Int)(b:aq):Bool:=decide (b.v<n)&&iW n b.t
theorem wh{n:Int}{s:List aq}:s.all (k0 n)=true↔qk s n:=by simp[ga,k0,qk,JB]
def s5(v m:Int):Int:=if m<v+1 then v+1 else m
theorem Pb{n:Int}:∀(t:T) (m:Int),t.fold s5 m<=n↔m<=n/\iW n t=true
 | .var v,m=>by simp only[T.fold,s5,iW,fc];split<;>omega
 | .pair a b,m=>by simp only[T.fold,Pb b,Pb a,iW,cC,and_assoc]
 | .nil,m=>by simp[T.fold,iW]
 | .sym _,m=>by simp[T.fold,iW]
 | .num _,m=>by simp[T.fold,iW]
def E3(v m:Int):ba Int:=if 0<=v/\v<=100000 then some (s5 v m)else none
theorem Pa:∀(t:T) (m:Int),t.ok=true->t.foldO E3 m=some (t.fold s5 m)
 | .var v,m,h=>by
  have:0<=v/\v<=100000:=by simpa[T.ok]using h
  simp[T.foldO,T.fold,E3,this]
 | .pair a b,m,h=>by
  have J:a.ok=true/\b.ok=true:=by simpa[T.ok]using h
  simp[T.foldO,T.fold,Pa a m J.1,Pa b _ J.2]
 | .nil,m,_=>rfl
 | .sym _,m,_=>rfl
 | .num _,m,_=>rfl
structure iG where
 n:Int
 b:List cX
 d:List (List cX)
 k:List bQ
 m:List bj
def dA.r(s:dA):iG:=⟨s.n,s.b.map aq.b,s.d.map fun x=>x.map aq.b,s.k,s.m⟩
def sT(r:iG):Prop:= ∃s:dA,r=s.r/\Oz s
def kr(n:Int)(x:List cX):Prop:= ∃s:List aq,x=s.map aq.b/\eU s/\qk s n
structure NZ (r:iG):Prop where
 n:0<=r.n/\r.n<=100000
 b:kr r.n r.b
 d:∀x∈r.d,kr r.n x
 k:ju r.k
 m:h6 r.m
 kb:∀x∈r.k,x.v<r.n
 mb:∀x∈r.m,x.v<r.n
theorem sT.raw{r:iG}(h:sT r):NZ r:=by obtain⟨s,rfl,J,_⟩:=h;exact⟨J.n,⟨s.b,rfl,J.b,J.bb⟩,fun x af=>by obtain⟨y,aO,rfl⟩:=hB.1 af;exact⟨y,rfl,J.d y aO,J.db y aO⟩,J.k,J.m,J.kb,J.mb⟩
theorem rW:∀{a b:List aq},a.map aq.b=b.map aq.b->a=b
 |[],b,h=>by cases b<;>simp at h⊢
 |x::a,[],h=>by simp at h
 |x::a,y::b,h=>by simp only[gS,oJ,aq.b,cX.mk.injEq]at h;rw[rW h.2];have:=IJ h.1.2;obtain⟨⟨J,_⟩,_⟩:=h;cases x;cases y;simp_all
theorem P2:∀{a b:List (List aq)},(a.map fun x=>x.map aq.b)=(b.map fun x=>x.map aq.b)->a=b
 |[],b,h=>by cases b<;>simp at h⊢
 |x::a,[],h=>by simp at h
 |x::a,y::b,h=>by rw[gS,gS,oJ]at h;rw[P2 h.2,rW h.1]
theorem dA.r_inj{s t:dA}(h:s.r=t.r):s=t:=by obtain⟨n,b,d,k,m⟩:=s;obtain⟨n',cb,cj,bT,ht⟩:=t;simp only[dA.r,iG.mk.injEq]at h;obtain⟨J,U,au,a6,b3⟩:=h;rw[J,rW U,P2 au,a6,b3]
theorem SO{n:Int}:∀{d:List (List cX)},(∀x∈d,kr n x)->∃D:List (List aq),d=(D.map fun x=>x.map aq.b)/\(∀x∈D,eU x)/\∀x∈D,qk x n
 |[],_=>⟨[],rfl,Ψ,Ψ⟩
 |x::d,h=>by
  obtain⟨D,J,U,au⟩:=SO (d:=d) fun y aO=>h y (by simp[aO]);obtain⟨s,al,aE,bn⟩:=h x Ψ;refine⟨s::D,by rw[J,al];rfl,fun y aO=>?_,fun y aO=>?_⟩
  ·rcases fA.1 aO with rfl|aO
   ·exact aE
   ·exact U y aO
  ·rcases fA.1 aO with rfl|aO
   ·exact bn
   ·exact au y aO
theorem Y6{s:dA}(h:vU s):sT s.r↔nS s=some s:=by
 constructor
 ·rintro⟨t,e,_,U⟩;rw[dA.r_inj e];exact U
 ·intro U;exact⟨s,rfl,h,U⟩
theorem xz{l:List cX}:Jj l↔∃s:List aq,l=s.map aq.b/\eU s:=⟨fun⟨s,J,U,au,a6⟩=>⟨s,J,U,au,a6⟩,fun⟨s,J,U⟩=>⟨s,J,U.ok,U.sol,U.fits⟩⟩
def r1{α:Type}(a b:List α)(i:Nat)(_:Unit):Prop:= ∀k,k<i->a[k]? =b[k]?
theorem r1.fin{α:Type}{a b:List α}(h:r1 a b b.length ())(ar:a.length=b.length):a=b:=by
 apply List.ext_getElem?;intro k;by_cases ad:k<b.length
 ·exact h k ad
 ·rw[qO Ω,qO Ω]
theorem r1.step{α:Type}{a b:List α}{i:Nat}(h:r1 a b i ()){x:α}(bu:a[i]? =some x)(ab:b[i]? =some x):r1 a b (i+1) ():=fun k ad=>by
 rcases(by omega:k<i\/k=i)with J|rfl
 ·exact h k J
 ·rw[bu,ab]
def sA{α:Type}(p:α->Prop)(s:List α)(i:Nat)(_:Unit):Prop:= ∀k b,k<i->s[k]? =some b->p b
theorem sA.step{α:Type}{p:α->Prop}{s:List α}{i:Nat}(h:sA p s i ()){b:α}(ab:s[i]? =some b)(bB:p b):sA p s (i+1) ():=fun k c ad aw=>by
 rcases(by omega:k<i\/k=i)with J|rfl
 ·exact h k c J aw
 ·rw[ab]at aw;cases aw;exact bB
theorem sA.fin{α:Type}{p:α->Prop}{s:List α}(h:sA p s s.length ()):∀b∈s,p b:=fun b ab=>by obtain⟨k,ad,e⟩:=nY ab;exact h k b ad (by rw[cc ad,e])
def qX:C:=(aa [cO 6 2,ep 8 2,a8 9 false] (.seq (aa [I 15 0,cE 16 55 15,cn 17 16,I 18 17,ao 18 false (a1 19 4 6),ao 18 false (cE 20 117 19),ao 18 false (cn 21 20),cZ 22 18 21,I 23 22,b4 23 false 24 1,ao 23 false (cE 25 56 24),ao 23 false (cn 26 25),cZ 27 23 26,I 28 27,b4 28 false 29 3,ao 28 false (aT 30 .neq 29 2),b4 28 false 31 30,b4 31 true 32 3,ao 31 true (aT 33 .neq 32 3),ao 28 false (dx 34 31 33),cZ 35 28 34] (aS 35 (aa [ep 8 2,a8 9 false] .ret) .skip)) (aa [I 37 0,a1 38 4 6,bY 39 95 37 38,I 36 39,cD 40 0 36,cD 41 1 36,c9 10 dj,bM 4 10 40,I 11 41] (.seq (aa [I 42 11,cn 43 42] (aS 43 (aa [ep 8 2,a8 9 false] .ret) .skip)) (aa [cN (.bslm 44 (some 803) 2 104 []),I 45 1,cN (.appm 46 none 2 104 (.t 44) (.t 45)),cN (.alloc 12 (some 804) (.slice 2 .nil [])),bM 1 12 46] (.seq (aa [aC 47 0 1 10,av 48 1 47,aT 49 .neq 48 1] (aS 49 (.seq (aa [aC 50 0 1 10,av 51 1 50,I 52 3,bh 53 .neq 51 52] (aS 53 (aa [ep 8 2,a8 9 false] .ret) .skip)) (.seq (.pubB 12 (.region [av 54 1 12,I 8 54,a8 9 true])) .ret)) .skip)) (.seq (aa [I 55 1,b2 56 55,bP 57 0] (eH 58 57 56 (.seq (.block 1 (aa [b9 59 2 55 57,a1 60 2 59,cN (.alloc 14 none (.agg [.int .i64 0,.int .i64 0])),bM 2 14 60] (aa [aC 61 0 1 14,av 62 1 61,aC 63 1 1 10,av 64 1 63,bh 65 .eql 62 64] (aS 65 (.seq (aa [aC 66 1 1 14,av 67 1 66,I 68 3,bh 69 .neq 67 68] (aS 69 (aa [ep 8 2,a8 9 false] .ret) .skip)) (.seq (.pubB 12 (.region [av 70 1 12,I 8 70,a8 9 true])) .ret)) .skip)))) (.region [aT 71 .add 57 1,I 57 71])))) (aa [av 72 1 12,aC 73 1 1 10,av 74 1 73,I 75 3,b5 76 (.build [.int .i64 0,.int .i64 0] [(0,1,(.t 74)),(1,1,(.t 75))]),fj 77 2 104 [.t 76],cN (.appm 78 none 2 104 (.t 72) (.t 77)),bM 1 12 78] (aa [av 79 1 12,b5 80 (.mkif 25 (.t 79)),b5 81 (.mkf 127 [.t 12]),bY 82 126 80 81] (.seq (.pubB 12 (.region [av 83 1 12,I 8 83,a8 9 true])) .ret))))))))))
@[simp] def kh:List bN:=[.tmp 8,.tmp 9]
def Fx:C:=(aa [cO 6 2,cN (.box 7 (some 811) (.t 3)),ep 8 2,a8 9 false] (.seq (aa [I 17 0,cE 18 55 17,cn 19 18,I 20 19,ao 20 false (a1 21 4 6),ao 20 false (cE 22 117 21),ao 20 false (cn 23 22),cZ 24 20 23,I 25 24,b4 25 false 26 1,ao 25 false (cE 27 57 26),ao 25 false (cn 28 27),cZ 29 25 28,I 30 29,ao 30 false (av 31 1 7),ao 30 false (cE 32 128 31),ao 30 false (cn 33 32),cZ 34 30 33] (aS 34 (aa [ep 8 2,a8 9 false] .ret) .skip)) (aa [I 36 0,a1 37 4 6,bY 38 95 36 37,I 35 38,cD 39 0 35,cD 40 1 35,c9 10 dj,bM 4 10 39,I 11 40] (.seq (aa [I 41 11,cn 42 41,I 43 42,ao 43 false (a1 44 4 10),ao 43 false (av 45 1 7),ao 43 false (bY 46 109 44 45),cZ 47 43 46] (aS 47 (aa [ep 8 2,a8 9 false] .ret) .skip)) (aa [cN (.mkmap 48 (some 812)),cN (.alloc 12 (some 813) (.junk)),bM 1 12 48] (.seq (aa [I 49 1,b2 50 49,bP 51 0] (eH 52 51 50 (.seq (.block 1 (aa [b9 53 2 49 51,a1 54 2 53,cN (.alloc 14 none (.agg [.int .i64 0,.str []])),bM 2 14 54] (.region [av 55 1 12,a1 56 2 14,cN (.mput (.a [false,true]) (.t 55) (.t 56) (.c (.bool true)))]))) (.region [aT 57 .add 51 1,I 51 57])))) (aa [a1 58 4 10,b5 59 (.mkf 130 [.t 12,.t 7]),bY 60 129 58 59] (aa [cN (.bslm 61 (some 814) 2 106 []),cN (.alloc 15 (some 815) (.slice 2 .nil [])),bM 1 15 61] (.seq (aa [av 62 1 12,cN (.range 63 none (.t 62))] (.block 2 (.loop (aa [⟨none,.next 64 (.t 63)⟩,cD 65 0 64] (.seq (aS 65 .skip (.exit 2)) (.block 3 (aa [b5 66 (.ment (.t 63)),cD 67 0 66,cN (.alloc 16 none (.agg [.int .i64 0,.str []])),bM 2 16 67] (.region [av 68 1 15,a1 69 2 16,fj 70 2 106 [.t 69],cN (.appm 71 none 2 106 (.t 68) (.t 70)),bM 1 15 71])))))))) (aa [av 72 1 15,b5 73 (.mkif 26 (.t 72)),b5 74 (.mkf 131 [.t 15]),bY 75 126 73 74] (.seq (.pubB 15 (.region [av 76 1 15,I 8 76,a8 9 true])) .ret)))))))))))
@[simp] def HT:List bN:=[.tmp 8,.tmp 9]
def Qq:C:=(aa [a8 2 false] (.seq (aa [I 5 0,b2 6 5,bP 7 0] (eH 8 7 6 (.seq (.block 1 (aa [I 9 7,b9 10 2 5 7,a1 11 2 10,cN (.alloc 4 none (.agg [.int .i64 0,.int .i64 0])),I 3 9,bM 2 4 11] (.seq (.drawn true 46 [aC 12 0 1 4,av 13 1 12,aT 14 .lss 13 0,I 15 14,ao 15 false (aC 16 0 1 4),ao 15 false (av 17 1 16),ao 15 false (aT 18 .gtr 17 100000),cZ 19 15 18,I 20 19,ao 20 false (aC 21 1 1 4),ao 20 false (av 22 1 21),ao 20 false (aT 23 .neq 22 2),b4 20 false 24 23,ao 24 true (aC 25 1 1 4),ao 24 true (av 26 1 25),ao 24 true (aT 27 .neq 26 3),ao 20 false (dx 28 24 27),cZ 29 20 28,I 30 29,b4 30 false 31 3,ao 30 false (aT 32 .gtr 31 0),b4 30 false 33 32,b4 33 true 34 0,b4 33 true 35 3,ao 33 true (aT 36 .sub 35 1),ao 33 true (b9 37 2 34 36),ao 33 true (aC 38 0 1 37),ao 33 true (av 39 1 38),ao 33 true (aC 40 0 1 4),ao 33 true (av 41 1 40),ao 33 true (bh 42 .geq 39 41),ao 30 false (dx 43 33 42),cZ 44 30 43]) (aS 44 (aa [a8 2 false] .ret) .skip)))) (.region [aT 45 .add 7 1,I 7 45])))) (aa [a8 2 true] .ret)))
@[simp] def XH:List bN:=[.tmp 2]
def Qr:C:=(aa [a8 2 false] (.seq (aa [I 5 0,b2 6 5,bP 7 0] (eH 8 7 6 (.seq (.block 1 (aa [I 9 7,b9 10 2 5 7,a1 11 2 10,cN (.alloc 4 none (.agg [.int .i64 0,.str []])),I 3 9,bM 2 4 11] (.seq (.drawn true 41 [aC 12 0 1 4,av 13 1 12,aT 14 .lss 13 0,I 15 14,ao 15 false (aC 16 0 1 4),ao 15 false (av 17 1 16),ao 15 false (aT 18 .gtr 17 100000),cZ 19 15 18,I 20 19,ao 20 false (aC 21 1 1 4),ao 20 false (av 22 1 21),ao 20 false (cE 23 128 22),ao 20 false (cn 24 23),cZ 25 20 24,I 26 25,b4 26 false 27 3,ao 26 false (aT 28 .gtr 27 0),b4 26 false 29 28,b4 29 true 30 0,b4 29 true 31 3,ao 29 true (aT 32 .sub 31 1),ao 29 true (b9 33 2 30 32),ao 29 true (a1 34 2 33),ao 29 true (a1 35 2 4),ao 29 true (bY 36 132 34 35),ao 29 true (cn 37 36),ao 26 false (dx 38 29 37),cZ 39 26 38]) (aS 39 (aa [a8 2 false] .ret) .skip)))) (.region [aT 40 .add 7 1,I 7 40])))) (aa [a8 2 true] .ret)))
@[simp] def Nx:List bN:=[.tmp 2]
def FA:C:=(aa [cO 2 0,a8 4 false] (.seq (aa [aC 5 0 1 2,av 6 1 5,aT 7 .eql 6 4] (aS 7 (aa [aC 8 3 1 2,av 9 1 8,iO 10 4 9 0,a1 11 4 10,I 12 1,bY 13 109 11 12,I 14 13,ao 14 false (aC 15 3 1 2),ao 14 false (av 16 1 15),ao 14 false (iO 17 4 16 1),ao 14 false (a1 18 4 17),b4 14 false 19 1,ao 14 false (bY 20 109 18 19),cZ 21 14 20,I 4 21] .ret) .skip)) (aa [aC 22 0 1 2,av 23 1 22,aT 24 .eql 23 2,I 25 24,ao 25 true (aC 26 2 1 2),ao 25 true (av 27 1 26),b4 25 true 28 1,ao 25 true (bh 29 .eql 27 28),dx 30 25 29,I 4 30] .ret)))
@[simp] def HZ:List bN:=[.tmp 4]
def Qk:C:=(aa [a8 5 false] (.seq (.drawn true 17 [av 6 1 2,I 7 0,b9 8 2 6 7,aC 9 0 1 8,av 10 1 9,av 11 1 2,I 12 1,b9 13 2 11 12,aC 14 0 1 13,av 15 1 14,bh 16 .lss 10 15,I 5 16]) .ret))
@[simp] def XD:List bN:=[.tmp 5]
def Qi:C:=(.region [av 4 1 1,I 5 0,av 6 1 2,b5 7 (.build [.int .i64 0,.str []] [(0,1,(.t 5)),(1,1,(.t 6))]),cN (.mput (.a [false,true]) (.t 4) (.t 7) (.c (.bool true)))])
@[simp] def XB:List bN:=[]
def Qj:C:=(aa [a8 5 false] (.seq (.drawn true 15 [av 6 1 2,I 7 0,b9 8 2 6 7,a1 9 2 8,av 10 1 2,I 11 1,b9 12 2 10 11,a1 13 2 12,bY 14 132 9 13,I 5 14]) .ret))
@[simp] def XC:List bN:=[.tmp 5]
def Fy:C:=(aa [cO 2 0,cO 3 1,a8 4 false] (aa [aC 5 0 1 2,av 6 1 5,aC 7 0 1 3,av 8 1 7,bh 9 .lss 6 8,I 10 9,ao 10 false (aC 11 0 1 2),ao 10 false (av 12 1 11),ao 10 false (aC 13 0 1 3),ao 10 false (av 14 1 13),ao 10 false (bh 15 .eql 12 14),b4 10 false 16 15,ao 16 true (aC 17 1 1 2),ao 16 true (av 18 1 17),ao 16 true (aC 19 1 1 3),ao 16 true (av 20 1 19),ao 16 true (bh 21 .lss 18 20),ao 10 false (dx 22 16 21),cZ 23 10 22,I 4 23] .ret))
@[simp] def anc:List bN:=[.tmp 4]
def uy:List (Nat×dH):=[
 (3,⟨1,8,.int .i64,.int .i64 0⟩),
 (9,⟨1,16,.str,.str []⟩),
 (25,⟨1,24,.slice 104,.slice 2 .nil []⟩),
 (26,⟨1,24,.slice 106,.slice 2 .nil []⟩),
 (30,⟨1,24,.slice 32,.slice 4 .nil []⟩),
 (32,⟨4,56,.struct [(0,3),(1,3),(2,9),(3,30)],.agg [.int .i64 0,.int .i64 0,.str [],.slice 4 .nil []]⟩),
 (104,⟨2,16,.struct [(0,3),(1,3)],.agg [.int .i64 0,.int .i64 0]⟩),
 (106,⟨2,24,.struct [(0,3),(1,9)],.agg [.int .i64 0,.str []]⟩),
 (165,⟨1,8,.map 106 4,.junk⟩)]
theorem kk:fS ak uy=true:=by kernel_rfl
theorem sL:bU uy qX kh 4 Tryz.f52=true:=by kernel_rfl
theorem r6:ak.funcs[(52:Nat)]? =some Tryz.f52:=Tryz.func52
theorem M0:bU uy Fx HT 4 Tryz.f54=true:=by kernel_rfl
theorem Kp:ak.funcs[(54:Nat)]? =some Tryz.f54:=Tryz.func54
theorem akL:bU uy Qq XH 1 Tryz.f56=true:=by kernel_rfl
theorem adL:ak.funcs[(56:Nat)]? =some Tryz.f56:=Tryz.func56
theorem akM:bU uy Qr Nx 1 Tryz.f57=true:=by kernel_rfl
theorem adM:ak.funcs[(57:Nat)]? =some Tryz.f57:=Tryz.func57
theorem M3:bU uy FA HZ 2 Tryz.f109=true:=by kernel_rfl
theorem Ks:ak.funcs[(109:Nat)]? =some Tryz.f109:=Tryz.func109
theorem akF:bU uy Qk XD 3 Tryz.f127=true:=by kernel_rfl
theorem adF:ak.funcs[(127:Nat)]? =some Tryz.f127:=Tryz.func127
theorem akD:bU uy Qi XB 3 Tryz.f130=true:=by kernel_rfl
theorem adD:ak.funcs[(130:Nat)]? =some Tryz.f130:=Tryz.func130
theorem akE:bU uy Qj XC 3 Tryz.f131=true:=by kernel_rfl
theorem adE:ak.funcs[(131:Nat)]? =some Tryz.f131:=Tryz.func131
theorem M1:bU uy Fy anc 2 Tryz.f132=true:=by kernel_rfl
theorem Kq:ak.funcs[(132:Nat)]? =some Tryz.f132:=Tryz.func132
def mq(x:bQ):Prop:=(0<=x.v/\x.v<=100000)/\(x.k=2\/x.k=3)
def nJ(x y:bQ):Prop:=x.v<y.v
theorem Hb{l:List bQ}:ju l↔∀i,i<l.length->iv mq nJ l i:=by rw[PJ (p:=mq) (r:=nJ) (fun a b c J U=>by unfold nJ at*;omega)];exact⟨fun h=>⟨h.at',h.asc⟩,fun h=>⟨h.1,h.2⟩⟩
def kx(x:bj):Prop:=(0<=x.v/\x.v<=100000)/\jX x.s=true
def kQ(x y:bj):Prop:=fq x y<0
theorem Hr{l:List bj}:h6 l↔∀i,i<l.length->iv kx kQ l i:=by rw[PJ (p:=kx) (r:=kQ) (fun a b c J U=>by unfold kQ at*;exact l4.ltr J (Int.le_of_lt U))];exact⟨fun h=>⟨h.at',h.asc⟩,fun h=>⟨h.1,h.2⟩⟩
open Classical in
theorem ZE(l:List bQ):bF ak 56 [.slice 2 .no (l.map bQ.e)] (.bool (decide (ju l))):=by
 generalize aV:decide (ju l)=R;refine be kk adL akL fun aK=>?_;unfold Qq;have eB:l.length<=68719476736:=by simp[ek,ec,eg,lim]at aK;omega
 simp;refine du [0,5,6] (fun i (_:Unit)=>[(7,.int .i64 i)]) l.length (fun i _=> ∀j,j<i->iv mq nJ l j) () bL (fun k ad=>Ω) (fun _ ae _=>?_) (fun i _ hi ae _=>?_)
 ·have:R=true:=by rw[<-aV,fc,Hb];exact ae
  rw[this];exact bJ
 ·obtain⟨b,ab⟩:∃b,l[i]? =some b:=⟨_,cc hi⟩;obtain⟨c,aw⟩:∃c,l[i-1]? =some c:=⟨_,cc Ω⟩;have cr:∀h,(l[i]'h)=b:=fun h=>by rw[cc hi]at ab;exact eQ ab
  have cI:¬iv mq nJ l i->R=false:=fun h=>by rw[<-aV,fJ];exact fun cf=>h (Hb.1 cf i hi)
  have cR:iv mq nJ l i->∀j,j<i+1->iv mq nJ l j:=fun h j iK=>by
   by_cases e:j=i
   ·rw[e];exact h
   ·exact ae j Ω
  simp[hi,cr,aw];((with_reducible repeat' first|refine aj ?_|simp[cr,aw,hi]|((first|apply bS|apply bW|apply bV)<;>intro h<;>try simp at h))<;>(try exact cy));all_goals first
   |(have ax:¬iv mq nJ l i:=by(intro cf;have J:=cf b ab;have U:=J.2 c;have au:=J.1;unfold mq nJ at*;first|omega|(have a6:=U Ω aw;omega)|(simp_all;done)|(simp_all;omega))
     rw[cI ax]
     simp[bz,XH,aX,aY,aW]
     done)
   |(refine bO.rng () hi (cR fun cb fW=>?_) ?_
     ·rw[ab]at fW;cases fW
      refine⟨?_,fun cw bs hJ=>?_⟩
      ·unfold mq;first|(simp_all;done)|(simp_all;omega)
      ·rw[aw]at hJ;cases hJ;unfold nJ;simp_all
     ·exact bL)
theorem B7(a b:bj):bF ak 132 [a.e,b.e] (.bool (hY fq a b)):=by
 rw[<-WO];have aV:ub a b=(decide (a.v<b.v)||(a.v==b.v&&hF a.s b.s)):=rfl;rcases Int.lt_trichotomy a.v b.v with h|h|h
 ·have:ub a b=true:=by rw[aV];simp[h]
  rw[this];refine be kk Kq M1 fun aK=>?_;unfold Fy;exact bJ
 ·have J:¬a.v<b.v:=Ω
  have U:(a.v==b.v)=true:=by simp[h]
  have:ub a b=hF a.s b.s:=by rw[aV];simp[h]
  rw[this];refine be kk Kq M1 fun aK=>?_;unfold Fy;exact bJ
 ·have J:¬a.v<b.v:=Ω
  have U:¬a.v=b.v:=Ω
  have au:(a.v==b.v)=false:=by simp[U]
  have:ub a b=false:=by rw[aV];simp[J,U]
  rw[this];refine be kk Kq M1 fun aK=>?_;unfold Fy;exact bJ
open Classical in
theorem ZG(l:List bj):bF ak 57 [.slice 2 .no (l.map bj.e)] (.bool (decide (h6 l))):=by
 generalize aV:decide (h6 l)=R;refine be kk adM akM fun aK=>?_;unfold Qr;have eB:l.length<=68719476736:=by simp[ek,ec,eg,lim]at aK;omega
 simp;refine du [0,5,6] (fun i (_:Unit)=>[(7,.int .i64 i)]) l.length (fun i _=> ∀j,j<i->iv kx kQ l j) () bL (fun k ad=>Ω) (fun _ ae _=>?_) (fun i _ hi ae _=>?_)
 ·have:R=true:=by rw[<-aV,fc,Hr];exact ae
  rw[this];exact bJ
 ·obtain⟨b,ab⟩:∃b,l[i]? =some b:=⟨_,cc hi⟩;obtain⟨c,aw⟩:∃c,l[i-1]? =some c:=⟨_,cc Ω⟩;have cr:∀h,(l[i]'h)=b:=fun h=>by rw[cc hi]at ab;exact eQ ab
  have cI:¬iv kx kQ l i->R=false:=fun h=>by rw[<-aV,fJ];exact fun cf=>h (Hr.1 cf i hi)
  have cR:iv kx kQ l i->∀j,j<i+1->iv kx kQ l j:=fun h j iK=>by
   by_cases e:j=i
   ·rw[e];exact h
   ·exact ae j Ω
  have eM:∀p:Prop,(p->e1)->(iv kx kQ l i->p)->R=false:=fun p J U=>cI fun h=>J (U h);have nD:iv kx kQ l i->kx b:=fun h=>(h b ab).1;have bD:iv kx kQ l i->0<i->hY fq c b=true:=fun h bs=>by simpa[hY,kQ]using(h b ab).2 c bs aw
  have dY:kx b->(0<i->hY fq c b=true)->iv kx kQ l i:=fun J U cb fW=>by rw[ab]at fW;cases fW;exact⟨J,fun cw bs hJ=>by rw[aw]at hJ;cases hJ;simpa[hY,kQ]using U bs⟩
  unfold kx at nD dY;by_cases g1:b.v<0
  ·rw[eM _ (fun h=>Ω) (fun h=>(nD h).1.1)];exact bJ
  by_cases g2:100000<b.v
  ·rw[eM _ (fun h=>Ω) (fun h=>(nD h).1.2)];exact bJ
  cases g3:jX b.s
  ·rw[eM _ (fun h=>by rw[h]at g3;cases g3) (fun h=>(nD h).2)];simp[hi,cr,aw];(with_reducible repeat' first|refine aj ?_|refine aF (uz _) ?_|refine aG (uz _) ?_|simp[cr,aw,hi,g1,g2,g3]);simp[bz,Nx,aX,aY,aW]
  by_cases g4:0<i
  ·cases g5:hY fq c b
   ·rw[eM _ (fun h=>by rw[h]at g5;cases g5) (fun h=>bD h g4)];simp[hi,cr,aw];(with_reducible repeat' first|refine aj ?_|refine aF (uz _) ?_|refine aG (uz _) ?_|refine aF (B7 _ _) ?_|refine aG (B7 _ _) ?_|simp[cr,aw,hi,g1,g2,g3,g4,g5]);simp[bz,Nx,aX,aY,aW]
   ·simp[hi,cr,aw];(with_reducible repeat' first|refine aj ?_|refine aF (uz _) ?_|refine aG (uz _) ?_|refine aF (B7 _ _) ?_|refine aG (B7 _ _) ?_|simp[cr,aw,hi,g1,g2,g3,g4,g5]);exact bO.rng () hi (cR (dY ⟨⟨Ω,Ω⟩,g3⟩ fun _=>g5)) bL
  ·obtain rfl:i=0:=Ω
   simp[hi,cr,aw];(with_reducible repeat' first|refine aj ?_|refine aF (uz _) ?_|refine aG (uz _) ?_|simp[cr,aw,hi,g1,g2,g3,g4]);exact bO.rng () hi (cR (dY ⟨⟨Ω,Ω⟩,g3⟩ fun h=>Ω)) bL
theorem ZR(s:List dM):∀t:T,bF ak 109 [t.e,.str s] (.bool (t.has s)):=by
 intro t;induction t with
 |pair a b ds dv=>
  refine be kk Ks M3 fun aK=>?_;unfold FA;simp;cases bu:a.has s<;>cases ab:b.has s<;>rw[bu]at ds<;>rw[ab]at dv;all_goals(with_reducible repeat' first|refine aj ?_|refine aF ds ?_|refine aG ds ?_|refine aF dv ?_|refine aG dv ?_|simp)
  all_goals simp[bz,HZ,aX,aY,aW]
  all_goals simp[T.has,bu,ab]
 |sym n=>
  refine be kk Ks M3 fun aK=>?_;unfold FA;simp;(with_reducible repeat' first|refine aj ?_|simp);all_goals simp[bz,HZ,aX,aY,aW]
  all_goals simp[T.has]
 |_=>
  refine be kk Ks M3 fun aK=>?_;unfold FA;simp;(with_reducible repeat' first|refine aj ?_|simp);all_goals simp[bz,HZ,aX,aY,aW]
  all_goals simp[T.has]
def RM:C:=(aa [cO 2 0] (aa [bP 4 20] (aa [I 8 4,bP 5 0,I 6 8] (.seq (.block 0 (.loop (.seq (aa [I 9 6,I 10 1,bh 11 .leq 9 10] (aS 11 .skip (.exit 0))) (.block 1 (aa [a1 12 2 2,I 13 5,I 14 6,dL 15 260 [.t 12,.t 13,.t 14]] (aa [I 16 6,I 5 16] (.region [I 17 6,I 18 4,bh 19 .add 17 18,I 6 19]))))))) (aa [a1 20 2 2,I 21 5,I 22 1,dL 23 260 [.t 20,.t 21,.t 22]] (.block 2 (.loop (.seq (aa [I 24 4,I 25 1,bh 26 .lss 24 25] (aS 26 .skip (.exit 2))) (.block 3 (aa [I 27 4,b5 28 (.bin .mul false (gI 2) (.t 27)),bP 5 0,I 6 28] (.seq (.block 4 (.loop (.seq (aa [I 29 6,I 30 1,bh 31 .leq 29 30] (aS 31 .skip (.exit 4))) (.block 5 (aa [a1 32 2 2,I 33 5,I 34 5,I 35 4,bh 36 .add 34 35,I 37 6,dL 38 277 [.t 32,.t 33,.t 36,.t 37]] (aa [I 39 6,I 5 39] (.region [I 40 6,I 41 4,b5 42 (.bin .mul false (gI 2) (.t 41)),bh 43 .add 40 42,I 6 43]))))))) (.seq (aa [I 44 5,I 45 4,bh 46 .add 44 45,I 7 46] (aa [I 47 7,I 48 1,bh 49 .lss 47 48] (aS 49 (.region [a1 50 2 2,I 51 5,I 52 7,I 53 1,dL 54 277 [.t 50,.t 51,.t 52,.t 53]]) .skip))) (.region [I 55 4,aT 56 .mul 55 2,I 4 56])))))))))))))
@[simp] def anW:List bN:=[]
def JS:C:=(aa [cO 3 0] (aa [I 8 1,aT 9 .add 8 1,I 6 9] (.block 0 (.loop (.seq (aa [I 10 6,I 11 2,bh 12 .lss 10 11] (aS 12 .skip (.exit 0))) (.seq (.block 1 (aa [I 15 6,I 7 15] (.block 2 (.loop (.seq (aa [I 16 7,I 17 1,bh 18 .gtr 16 17,I 19 18,ao 19 true (aC 20 0 1 3),ao 19 true (av 21 1 20),b4 19 true 22 7,b4 19 true 23 7,ao 19 true (aT 24 .sub 23 1),ao 19 true (gZ 25 21 [.t 22,.t 24]),dx 26 19 25] (aS 26 .skip (.exit 2))) (.seq (.block 3 (.region [aC 29 1 1 3,av 30 1 29,I 31 7,I 32 7,aT 33 .sub 32 1,gZ 34 30 [.t 31,.t 33]])) (.region [I 27 7,aT 28 .sub 27 1,I 7 28]))))))) (.region [I 13 6,aT 14 .add 13 1,I 6 14])))))))
@[simp] def anS:List bN:=[]
def FJ:C:=(aa [I 164 16,I 165 22,bh 166 .lss 164 165,I 167 166,b4 167 true 168 22,b4 167 true 169 3,ao 167 true (bh 170 .lss 168 169),dx 171 167 170] (aS 171 (.region [a1 172 2 4,I 173 16,I 174 22,I 175 3,dL 176 277 [.t 172,.t 173,.t 174,.t 175]]) .skip))
def FK:C:=(.seq (aa [I 151 1,I 152 18,bh 153 .lss 151 152,I 154 153,b4 154 true 155 18,b4 154 true 156 16,ao 154 true (bh 157 .lss 155 156),dx 158 154 157] (aS 158 (.region [a1 159 2 4,I 160 1,I 161 18,I 162 16,dL 163 277 [.t 159,.t 160,.t 161,.t 162]]) .skip)) FJ)
def JW:C:=(.seq (aa [I 138 18,I 139 2,bh 140 .lss 138 139,I 141 140,b4 141 true 142 2,b4 141 true 143 22,ao 141 true (bh 144 .lss 142 143),dx 145 141 144] (aS 145 (.region [a1 146 2 4,I 147 18,I 148 2,I 149 22,dL 150 284 [.t 146,.t 147,.t 148,.t 149]]) .skip)) FK)
def JX:C:=(aa [I 113 17,aT 114 .sub 113 1,I 20 114] (.seq (.block 8 (.loop (.seq (aa [I 115 18,I 116 19,bh 117 .lss 115 116] (aS 117 .skip (.exit 8))) (.block 9 (aa [I 118 18,I 119 19,bh 120 .add 118 119,b5 121 (.conv .u64 (.t 120)),b5 122 (.bin .shr false (.t 121) (.c (.int .u64 1))),b5 123 (.conv .i64 (.t 122)),I 21 123] (aa [aC 124 0 1 4,av 125 1 124,I 126 20,I 127 21,bh 128 .sub 126 127,I 129 21,gZ 130 125 [.t 128,.t 129],cn 131 130] (aS 131 (.region [I 132 21,aT 133 .add 132 1,I 18 133]) (.region [I 134 21,I 19 134])))))))) (aa [I 135 17,I 136 18,bh 137 .sub 135 136,I 22 137] JW)))
def RO:C:=(aa [cO 4 0] (.seq (aa [I 23 2,I 24 1,bh 25 .sub 23 24,aT 26 .eql 25 1] (aS 26 (aa [I 27 2,I 8 27] (aa [I 28 3,I 9 28] (.seq (.block 0 (.loop (.seq (aa [I 29 8,I 30 9,bh 31 .lss 29 30] (aS 31 .skip (.exit 0))) (.block 1 (aa [I 32 8,I 33 9,bh 34 .add 32 33,b5 35 (.conv .u64 (.t 34)),b5 36 (.bin .shr false (.t 35) (.c (.int .u64 1))),b5 37 (.conv .i64 (.t 36)),I 10 37] (aa [aC 38 0 1 4,av 39 1 38,I 40 10,I 41 1,gZ 42 39 [.t 40,.t 41]] (aS 42 (.region [I 43 10,aT 44 .add 43 1,I 8 44]) (.region [I 45 10,I 9 45])))))))) (.seq (aa [I 46 1,I 11 46] (.block 2 (.loop (.seq (aa [I 47 11,I 48 8,aT 49 .sub 48 1,bh 50 .lss 47 49] (aS 50 .skip (.exit 2))) (.seq (.block 3 (.region [aC 53 1 1 4,av 54 1 53,I 55 11,I 56 11,aT 57 .add 56 1,gZ 58 54 [.t 55,.t 57]])) (.region [I 51 11,aT 52 .add 51 1,I 11 52])))))) .ret)))) .skip)) (.seq (aa [I 59 3,I 60 2,bh 61 .sub 59 60,aT 62 .eql 61 1] (aS 62 (aa [I 63 1,I 12 63] (aa [I 64 2,I 13 64] (.seq (.block 4 (.loop (.seq (aa [I 65 12,I 66 13,bh 67 .lss 65 66] (aS 67 .skip (.exit 4))) (.block 5 (aa [I 68 12,I 69 13,bh 70 .add 68 69,b5 71 (.conv .u64 (.t 70)),b5 72 (.bin .shr false (.t 71) (.c (.int .u64 1))),b5 73 (.conv .i64 (.t 72)),I 14 73] (aa [aC 74 0 1 4,av 75 1 74,I 76 2,I 77 14,gZ 78 75 [.t 76,.t 77],cn 79 78] (aS 79 (.region [I 80 14,aT 81 .add 80 1,I 12 81]) (.region [I 82 14,I 13 82])))))))) (.seq (aa [I 83 2,I 15 83] (.block 6 (.loop (.seq (aa [I 84 15,I 85 12,bh 86 .gtr 84 85] (aS 86 .skip (.exit 6))) (.seq (.block 7 (.region [aC 89 1 1 4,av 90 1 89,I 91 15,I 92 15,aT 93 .sub 92 1,gZ 94 90 [.t 91,.t 93]])) (.region [I 87 15,aT 88 .sub 87 1,I 15 88])))))) .ret)))) .skip)) (aa [I 95 1,I 96 3,bh 97 .add 95 96,b5 98 (.conv .u64 (.t 97)),b5 99 (.bin .shr false (.t 98) (.c (.int .u64 1))),b5 100 (.conv .i64 (.t 99)),I 16 100] (aa [I 101 16,I 102 2,bh 103 .add 101 102,I 17 103] (aa [bP 18 0,bP 19 0] (.seq (aa [I 104 2,I 105 16,bh 106 .gtr 104 105] (aS 106 (aa [I 107 17,I 108 3,bh 109 .sub 107 108,I 18 109] (.region [I 110 16,I 19 110])) (aa [I 111 1,I 18 111] (.region [I 112 2,I 19 112])))) JX)))))))
@[simp] def anX:List bN:=[]
def RK:C:=(aa [cO 4 0] (aa [I 10 2,I 11 1,bh 12 .sub 10 11,I 8 12] (aa [I 13 3,I 14 2,bh 15 .sub 13 14,I 9 15] (.seq (.block 0 (.loop (.seq (aa [I 16 8,I 17 9,bh 18 .neq 16 17] (aS 18 .skip (.exit 0))) (.block 1 (aa [I 19 8,I 20 9,bh 21 .gtr 19 20] (aS 21 (aa [a1 22 2 4,I 23 2,I 24 8,bh 25 .sub 23 24,I 26 2,I 27 9,dL 28 295 [.t 22,.t 25,.t 26,.t 27]] (.region [I 29 8,I 30 9,bh 31 .sub 29 30,I 8 31])) (aa [a1 32 2 4,I 33 2,I 34 8,bh 35 .sub 33 34,I 36 2,I 37 9,bh 38 .add 36 37,I 39 8,bh 40 .sub 38 39,I 41 8,dL 42 295 [.t 32,.t 35,.t 40,.t 41]] (.region [I 43 9,I 44 8,bh 45 .sub 43 44,I 9 45])))))))) (.region [a1 46 2 4,I 47 2,I 48 8,bh 49 .sub 47 48,I 50 2,I 51 8,dL 52 295 [.t 46,.t 49,.t 50,.t 51]])))))
@[simp] def anU:List bN:=[]
def RN:C:=(aa [cO 4 0] (aa [bP 8 0] (.block 0 (.loop (.seq (aa [I 9 8,I 10 3,bh 11 .lss 9 10] (aS 11 .skip (.exit 0))) (.seq (.block 1 (.region [aC 14 1 1 4,av 15 1 14,I 16 1,I 17 8,bh 18 .add 16 17,I 19 2,I 20 8,bh 21 .add 19 20,gZ 22 15 [.t 18,.t 21]])) (.region [I 12 8,aT 13 .add 12 1,I 8 13])))))))
@[simp] def Yf:List bN:=[]
def B3:List (Nat×dH):=[
 (3,⟨1,8,.int .i64,.int .i64 0⟩),
 (160,⟨1,8,.other,.junk⟩),
 (163,⟨1,8,.int .u64,.int .u64 0⟩),
 (216,⟨1,8,.other,.junk⟩),
 (222,⟨2,16,.struct [(0,160),(1,216)],.agg [.junk,.junk]⟩)]
theorem B4:fS ak B3=true:=by kernel_rfl
theorem al8:bU B3 RM anW 2 Tryz.f248=true:=by kernel_rfl
theorem ae6:ak.funcs[(248:Nat)]? =some Tryz.f248:=Tryz.func248
theorem Xe:bU B3 JS anS 3 Tryz.f260=true:=by kernel_rfl
theorem Tn:ak.funcs[(260:Nat)]? =some Tryz.f260:=Tryz.func260
theorem ama:bU B3 RO anX 4 Tryz.f277=true:=by kernel_rfl
theorem ae8:ak.funcs[(277:Nat)]? =some Tryz.f277:=Tryz.func277
theorem al6:bU B3 RK anU 4 Tryz.f284=true:=by kernel_rfl
theorem ae4:ak.funcs[(284:Nat)]? =some Tryz.f284:=Tryz.func284
theorem al9:bU B3 RN Yf 4 Tryz.f295=true:=by kernel_rfl
theorem ae7:ak.funcs[(295:Nat)]? =some Tryz.f295:=Tryz.func295
end
section
open Go Go.Pv
structure fe {α:Type} (S:List α->cH) (n:Nat) (g cg:Nat) (lc b8:List ai) (lt:α->α->Bool):Prop where
 ok:∀l,dN (S l)
 same:∀l aZ,l.length=n->aZ.length=n->Same (S l) (S aZ)
 klc:∀l,l.length=n->aH (inObs (S l)) lc
 ksc:∀l,l.length=n->aH (inObs (S l)) b8
 slc:c2 lc=lc
 ssc:c2 b8=b8
 le:n<=68719476736
 less:∀l,l.length=n->∀(i j:Nat) x y,l[i]? =some x->l[j]? =some y->bH ak g (.int .i64 i:: .int .i64 j::lc) (S l) fun r ah=>r= .bool (lt x y)/\ah=S l
 swap:∀l,l.length=n->2<=n->∀i j:Nat,i<n->j<n->bH ak cg (.int .i64 i:: .int .i64 j::b8) (S l) fun r ah=>r= .tuple []/\ah=S (gW l i j)
variable {α:Type} {S:List α->cH} {n g cg:Nat} {lc b8:List ai} {lt:α->α->Bool}
def e3(g cg:Nat)(lc b8:List ai):ai:= .agg [.func g lc,.func cg b8]
theorem KW(H:fe S n g cg lc b8 lt)(l:List α)(ar:l.length=n)(a b c:Nat)(asE:a+c<=b)(Ud:b+c<=n):
  bH ak 295 [e3 g cg lc b8,.int .i64 a,.int .i64 b,.int .i64 c] (S l) fun r ah=>r= .tuple []/\∃aZ,ah=S aZ/\gB a (b+c) l aZ/\∀k,aZ[k]? =l[sU a b c k]?:=by
 have ag:=H.ok l;have ax:∀l m,Pv.look (.loc m) (S l).b=none:=fun l=>(H.ok l).obj.1;have hu:∀l m cs,cA (.loc m) cs (S l).b=(S l).b++[(.loc m,cs)]:=fun l m cs=>j4 (ax l m);have ay:∀m,aI.loc m∉c1 (S l):=jY ag.obj;have hle:=H.le;refine bH.mk mixed B4 ae7 al9 Ψ ag.obj fun aK cB=>?_;unfold RN;simp[e3,hu,ay,cK,ax,H.slc,H.ssc];refine gT (fun i (lk:List α)=>⟨[(1,.int .i64 a),(2,.int .i64 b),(3,.int .i64 c),(4,.ptr (.loc 0) 0),(8,.int .i64 i)],[(.loc 0,[.func g lc,.func cg b8])]++(S lk).b,(S lk).e,1,c1 (S l)⟩) c (fun i lk=>lk.length=n/\gB a (b+c) l lk/\∀k,lk[k]? =l[sU a b i k]?) l
  (iU.obL ag (Same.refl _) (by simp[aD]) (by simp[cK,ax,aD,aH,Bs (H.klc l ar),Bs (H.ksc l ar)]) aL aL) ⟨ar,.refl _,fun k=>by simp[sU];split<;>(try split)<;>(try rfl)<;>(exfalso;omega)⟩ ?_ ?_
 ·rintro lk ⟨J,U,au⟩ _;simp;refine cF.at (S lk) (.inr rfl) (H.ok lk) (H.same _ _ ar J) aL aL ?_;simp[cL,Yf,aX,aY,aW];exact⟨lk,rfl,U,au⟩
 ·rintro i lk hi ⟨J,U,au⟩ _;have al:((a:Int)+i)=(a+i:Nat):=Ω
  have aE:((b:Int)+i)=(b+i:Nat):=Ω
  simp[hi,cK,ax,H.ssc];(with_reducible repeat' first|refine aj ?_|simp);rw[al,aE];refine cT.ob (H.swap lk J Ω (a+i) (b+i) Ω Ω) (H.ok lk) aL aL (by simp[H.ksc lk J]) ?_;rintro r ah ⟨rfl,rfl⟩;refine⟨H.same _ _ J (by simp[J]),?_⟩;simp[gR,ia,cl,ax];(with_reducible repeat' first|refine aj ?_|simp);refine bO.rng (gW lk (a+i) (b+i)) hi ⟨by simp[J],.step U Ω Ω Ω Ω Ω Ω,fun k=>?_⟩ (iU.obL (L:=[(.loc 0,[.func g lc,.func cg b8])]) (H.ok _) (H.same _ _ ar (by simp[J])) (by simp[aD]) (by simp[cK,ax,aD,aH,Bs (H.klc (gW lk (a+i) (b+i)) (by simp[J])),Bs (H.ksc (gW lk (a+i) (b+i)) (by simp[J]))]) aL aL);rw[Bi _ _ _ _ Ω Ω,au,au,au];have:sU a b (i+1) k=if k=a+i then sU a b i (b+i)else if k=b+i then sU a b i (a+i)else sU a b i k:=by
   simp only[sU];repeat' split
   all_goals omega
  rw[this];split
  ·rfl
  ·split<;>rfl
section
variable (H:fe S n g cg lc b8 lt)
include H
theorem fe.loc{l:List α}(m:Nat):Pv.look (.loc m) (S l).b=none:=(H.ok l).obj.1 m
theorem fe.weak{l lk:List α}(ar:l.length=n)(ad:lk.length=n){st:br}{dZ:List (Nat×ai)}(aN:∀x∈dZ,Pv.get x.1 st.t=x.2/\aD (mu (S lk) 1) x.2)(bs:Pv.look (.loc 0) st.b=some [.func g lc,.func cg b8])
  (ab:∀k cs,Pv.look k (S lk).b=some cs->Pv.look k st.b=some cs) (he:∀k o,Pv.look k (S lk).e=some o->Pv.look k st.e=some o):
  iU (c1 (S l)) st ⟨dZ,(.loc 0,[.func g lc,.func cg b8])::(S lk).b,(S lk).e,1,c1 (S l)⟩:=
 iU.obL (L:=[(.loc 0,[.func g lc,.func cg b8])]) (H.ok _) (H.same _ _ ar ad) aN (by simp[bs,aD,aH,Bs (H.klc lk ad),Bs (H.ksc lk ad)]) ab he
theorem fe.weakC{l lk:List α}(ar:l.length=n)(ad:lk.length=n){t dZ:List (Nat×ai)}{q:Nat}{o:List aI}(aN:∀x∈dZ,Pv.get x.1 t=x.2/\aD (mu (S lk) 1) x.2):
  iU (c1 (S l)) ⟨t,(.loc 0,[.func g lc,.func cg b8])::(S lk).b,(S lk).e,q,o⟩ ⟨dZ,(.loc 0,[.func g lc,.func cg b8])::(S lk).b,(S lk).e,1,c1 (S l)⟩:=
 H.weak ar ad aN (by simp[Pv.look]) (fun k cs af=>by
  cases k with
  |loc m=>rw[H.loc m]at af;cases af
  |obj m=>simpa[Pv.look]using af) (fun _ _ af=>af)
theorem fe.call{lk:List α}(J:lk.length=n){f:Nat}{args:List ai}{R:ai->List α->Prop}(aJ:bH ak f args (S lk) fun r ah=> ∃aZ,ah=S aZ/\R r aZ)(aV:∀r aZ,R r aZ->aZ.length=n)(ad:aH (inObs (S lk)) args){t:List (Nat×ai)}{D:List ai}{o:List aI}{d:ba Nat}{K:br->Prop}
  (h:∀r aZ,R r aZ->K ⟨eZ d r t,(.loc 0,D)::(S aZ).b,(S aZ).e,1,o++c1 (S aZ)⟩):cT ak f args ⟨t,(.loc 0,D)::(S lk).b,(S lk).e,1,o⟩ d K:=by
 refine cT.ob aJ (H.ok lk) (fun k cs af=>?_) (fun _ _ af=>af) ad ?_
 ·cases k with
  |loc m=>rw[H.loc m]at af;cases af
  |obj m=>simpa[Pv.look]using af
 ·rintro r ah ⟨aZ,rfl,aM⟩;refine⟨H.same _ _ J (aV _ _ aM),?_⟩;have al:cl (S lk).b ((.loc 0,D)::(S lk).b)=[(.loc 0,D)]:=by have:=ia (S lk).b [(aI.loc 0,D)] (S lk).b;rw[gR]at this;simpa[cl,H.loc]using this
  have aE:cl (S lk).e (S lk).e=[]:=gR _;have:=h _ _ aM;simp only[al,aE];exact this
theorem fe.doSwap{lk:List α}(J:lk.length=n)(i j:Nat)(hi:i<n)(ae:j<n)(U:2<=n){t:List (Nat×ai)}{D:List ai}{o:List aI}{d:ba Nat}{K:br->Prop}
  (h:K ⟨eZ d (.tuple []) t,(.loc 0,D)::(S (gW lk i j)).b,(S (gW lk i j)).e,1,o++c1 (S (gW lk i j))⟩):cT ak cg (.int .i64 i:: .int .i64 j::b8) ⟨t,(.loc 0,D)::(S lk).b,(S lk).e,1,o⟩ d K:=
 H.call J (R:=fun r aZ=>r= .tuple []/\aZ=gW lk i j) ((H.swap lk J U i j hi ae).mono fun r ah ⟨al,aE⟩=>⟨_,aE,al,rfl⟩) (fun r aZ ⟨_,e⟩=>by rw[e];simp[J]) (by simp[aD,aH,H.ksc lk J]) (by rintro r aZ ⟨rfl,rfl⟩;exact h)
theorem fe.doLess{lk:List α}(J:lk.length=n)(i j:Nat){x y:α}(hi:lk[i]? =some x)(ae:lk[j]? =some y){t:List (Nat×ai)}{D:List ai}{o:List aI}{d:ba Nat}{K:br->Prop}
  (h:K ⟨eZ d (.bool (lt x y)) t,(.loc 0,D)::(S lk).b,(S lk).e,1,o++c1 (S lk)⟩):cT ak g (.int .i64 i:: .int .i64 j::lc) ⟨t,(.loc 0,D)::(S lk).b,(S lk).e,1,o⟩ d K:=
 H.call J (R:=fun r aZ=>r= .bool (lt x y)/\aZ=lk) ((H.less lk J i j x y hi ae).mono fun r ah ⟨al,aE⟩=>⟨_,aE,al,rfl⟩) (fun r aZ ⟨_,e⟩=>by rw[e];exact J) (by simp[aD,aH,H.klc lk J]) (by rintro r aZ ⟨rfl,rfl⟩;exact h)
theorem fe.doFn{lk:List α}(J:lk.length=n){f:Nat}{args:List ai}{R:List α->Prop}(aJ:bH ak f args (S lk) fun r ah=>r= .tuple []/\∃aZ,ah=S aZ/\R aZ)(aV:∀aZ,R aZ->aZ.length=n)(ad:aH (inObs (S lk)) args){t:List (Nat×ai)}{D:List ai}{o:List aI}{d:ba Nat}{K:br->Prop}
  (h:∀aZ,R aZ->K ⟨eZ d (.tuple []) t,(.loc 0,D)::(S aZ).b,(S aZ).e,1,o++c1 (S aZ)⟩):cT ak f args ⟨t,(.loc 0,D)::(S lk).b,(S lk).e,1,o⟩ d K:=
 H.call J (R:=fun r aZ=>r= .tuple []/\R aZ) (aJ.mono fun r ah ⟨al,aZ,aE,bn⟩=>⟨aZ,aE,al,bn⟩) (fun r aZ h=>aV aZ h.2) ad (by rintro r aZ ⟨rfl,aM⟩;exact h aZ aM)
theorem fe.kdata{lk:List α}(J:lk.length=n):aD (inObs (S lk)) (e3 g cg lc b8):=by simp[e3,aD,aH,H.klc lk J,H.ksc lk J]
theorem fe.ret{l lk:List α}(ar:l.length=n)(J:lk.length=n){Q:ai->cH->Prop}{e:Exit}(he:e= .ret\/e= .normal){t:List (Nat×ai)}{D:List ai}{q:Nat}{o:List aI}(bm:Q (.tuple []) (S lk)):cF [] (S l) Q e ⟨t,(.loc 0,D)::(S lk).b,(S lk).e,q,o⟩:=by
 refine cF.at (S lk) he (H.ok lk) (H.same _ _ ar J) (fun k cs af=>?_) (fun _ _ af=>af) ?_
 ·cases k with
  |loc m=>rw[H.loc m]at af;cases af
  |obj m=>simpa[Pv.look]using af
 ·simp[cL,aX,aW,aD,aH,bm]
end
theorem iC(H:fe S n g cg lc b8 lt):dt (e3 g cg lc b8)=e3 g cg lc b8:=by simp[e3,dt,c2,H.slc,H.ssc]
theorem iw:ai.agg [.func g lc,.func cg b8]=e3 g cg lc b8:=rfl
theorem agB(H:fe S n g cg lc b8 lt)(l:List α)(ar:l.length=n)(a m b:Nat)(C4:a<m)(pY:m<b)(ab:b<=n):
  bH ak 284 [e3 g cg lc b8,.int .i64 a,.int .i64 m,.int .i64 b] (S l) fun r ah=>r= .tuple []/\∃aZ,ah=S aZ/\gB a b l aZ/\∀k,aZ[k]? =l[h7 a m b k]?:=by
 have ag:=H.ok l;have ax:∀l m,Pv.look (.loc m) (S l).b=none:=fun l=>(H.ok l).obj.1;have hu:∀l m cs,cA (.loc m) cs (S l).b=(S l).b++[(.loc m,cs)]:=fun l m cs=>j4 (ax l m);have ay:∀m,aI.loc m∉c1 (S l):=jY ag.obj;have hle:=H.le;refine bH.mk mixed B4 ae4 al6 Ψ ag.obj fun aK cB=>?_;unfold RK;simp[e3,hu,ay,cK,ax];(with_reducible repeat' first|refine aj ?_|simp[hu,ay,cK,ax]);refine oY (fun(x:(Nat×Nat)×List α)=>⟨[(2,.int .i64 m),(4,.ptr (.loc 0) 0),(8,.int .i64 x.1.1),(9,.int .i64 x.1.2)],(.loc 0,[.func g lc,.func cg b8])::(S x.2).b,(S x.2).e,1,c1 (S l)⟩) (fun x=>x.1.1+x.1.2)
  (fun x=>x.2.length=n/\0<x.1.1/\0<x.1.2/\a+x.1.1<=m/\m+x.1.2<=b/\gB a b l x.2/\∀k,l[h7 a m b k]? =x.2[h7 (m-x.1.1) m (m+x.1.2) k]?) ((m-a,b-m),l)
  (H.weak ar ar (by simp[aD];omega) (by simp[cK,ax]) aL aL) ⟨ar,by simp;omega,by simp;omega,by simp;omega,by simp;omega,.refl _,fun k=>by simp[show m-(m-a)=a by omega,show m+(b-m)=b by omega]⟩ ?_
 rintro⟨⟨i,j⟩,lk⟩ ⟨J,hi,ae,gv,Gz,U,au⟩ _;simp only at J hi ae gv Gz U au;simp[Pv.look];((with_reducible repeat' first|refine aj ?_|simp[Pv.look]|((first|apply bS|apply bW|apply bV)<;>intro h<;>try simp at h))<;>(try exact cy))
 ·have al:((m:Int)-i)=(m-i:Nat):=Ω
  simp only[iC H,H.slc,H.ssc,al,iw];refine H.doFn J (KW H lk J (m-i) m j Ω Ω) (fun aZ h=>by rw[h.1.length];exact J) (by simp[aH,aD,H.kdata J]) ?_;rintro aZ ⟨bc,bE⟩;have b1:aZ.length=n:=by rw[bc.length];exact J
  simp;((with_reducible repeat' first|refine aj ?_|simp|((first|apply bS|apply bW|apply bV)<;>intro h<;>try simp at h))<;>(try exact cy));refine bO.whl ((i-j,j),aZ) (by simp;omega) ⟨b1,by simp;omega,ae,by simp;omega,Gz,U.trans (bc.mono Ω Ω),fun k=>?_⟩ (H.weakC ar b1 (by simp[aD];omega));rw[au,bE];congr 1;simp only[h7,sU];repeat' split
  all_goals omega
 ·have al:((m:Int)-i)=(m-i:Nat):=Ω
  have aE:((m:Int)+j-i)=(m+j-i:Nat):=Ω
  simp only[iC H,H.slc,H.ssc,al,aE,iw];refine H.doFn J (KW H lk J (m-i) (m+j-i) i Ω Ω) (fun aZ h=>by rw[h.1.length];exact J) (by simp[aH,aD,H.kdata J]) ?_;rintro aZ ⟨bc,bE⟩;have b1:aZ.length=n:=by rw[bc.length];exact J
  simp;(with_reducible repeat' first|refine aj ?_|simp);refine bO.whl ((i,j-i),aZ) (by simp;omega) ⟨b1,hi,by simp;omega,gv,by simp;omega,U.trans (bc.mono Ω Ω),fun k=>?_⟩ (H.weakC ar b1 (by simp[aD];omega));rw[au,bE];congr 1;simp only[h7,sU];repeat' split
  all_goals omega
 ·have al:((m:Int)-i)=(m-i:Nat):=Ω
  simp only[iC H,H.slc,H.ssc,al,iw];refine H.doFn J (KW H lk J (m-i) m i Ω Ω) (fun aZ h=>by rw[h.1.length];exact J) (by simp[aH,aD,H.kdata J]) ?_;rintro aZ ⟨bc,bE⟩;have b1:aZ.length=n:=by rw[bc.length];exact J
  simp;refine H.ret ar b1 (.inr rfl) ⟨rfl,aZ,rfl,U.trans (bc.mono Ω Ω),fun k=>?_⟩;rw[au,bE];congr 1;simp only[h7,sU];repeat' split
  all_goals omega
end
section
open Go Go.Pv
variable {α:Type} {S:List α->cH} {n g cg:Nat} {lc b8:List ai} {lt:α->α->Bool}
def uL(lt:α->α->Bool)(a b j:Nat)(l:List α):Prop:= ∀p q x y,a<=p->p<q->q<b->q≠j->l[p]? =some x->l[q]? =some y->lt y x=false
theorem uL.swap(bD:qS lt){a b j:Nat}{l:List α}(h:uL lt a b (j+1) l)(Uc:a<=j)(Gz:j+1<b)(ae:j+1<l.length){x y:α}(af:l[j+1]? =some x)(aO:l[j]? =some y)(h3:lt x y=true):uL lt a b j (gW l (j+1) j):=by
 intro p q u v bB kL bm asT hu aB;rw[Bi _ _ _ _ ae Ω]at hu aB;rw[if_neg (by omega:¬(q=j))]at aB;split at aB
 ·rename_i e;subst e;rw[aO]at aB;cases aB;split at hu
  ·omega
  ·split at hu
   ·rw[af]at hu;cases hu;exact bD.asym _ _ h3
   ·exact h p j u y bB Ω Ω Ω hu aO
 ·split at hu
  ·rename_i e;subst e;rw[aO]at hu;cases hu;exact h j q y v Uc Ω bm Ω aO aB
  ·split at hu
   ·rename_i e;subst e;rw[af]at hu;cases hu;exact h (p+1) q x v Ω Ω bm Ω af aB
   ·exact h p q u v bB kL bm Ω hu aB
theorem uL.done(bD:qS lt){a b j:Nat}{l:List α}(h:uL lt a b (j+1) l)(Uc:a<=j)(Gz:j+1<b){x y:α}(af:l[j+1]? =some x)(aO:l[j]? =some y)(h3:lt x y=false):fm lt a b l:=by
 intro p q u v bB kL bm hu aB;by_cases e:q=j+1
 ·subst e;rw[af]at aB;cases aB;by_cases aE:p=j
  ·subst aE;rw[aO]at hu;cases hu;exact h3
  ·exact bD.ntr _ _ _ (h p j u y bB Ω Ω Ω hu aO) h3
 ·exact h p q u v bB kL bm e hu aB
theorem uL.first{a b:Nat}{l:List α}(h:uL lt a b a l):fm lt a b l:=fun p q u v bB kL bm hu aB=>h p q u v bB kL bm Ω hu aB
theorem fm.but{a b:Nat}{l:List α}(h:fm lt a b l):uL lt a (b+1) b l:=fun p q u v bB kL bm LC hu aB=>h p q u v bB kL Ω hu aB
theorem TN(H:fe S n g cg lc b8 lt)(bD:qS lt)(l:List α)(ar:l.length=n)(a b:Nat)(nA:a<=b)(ab:b<=n):
  bH ak 260 [e3 g cg lc b8,.int .i64 a,.int .i64 b] (S l) fun r ah=>r= .tuple []/\∃aZ,ah=S aZ/\gB a b l aZ/\fm lt a b aZ:=by
 have ag:=H.ok l;have ax:∀l m,Pv.look (.loc m) (S l).b=none:=fun l=>(H.ok l).obj.1;have hu:∀l m cs,cA (.loc m) cs (S l).b=(S l).b++[(.loc m,cs)]:=fun l m cs=>j4 (ax l m);have ay:∀m,aI.loc m∉c1 (S l):=jY ag.obj;have hle:=H.le;refine bH.mk mixed B4 Tn Xe Ψ ag.obj fun aK cB=>?_;unfold JS;simp[e3,hu,ay,cK,ax];(with_reducible repeat' first|refine aj ?_|simp[hu,ay,cK,ax]);refine oY (fun(x:Nat×List α)=>⟨[(1,.int .i64 a),(2,.int .i64 b),(3,.ptr (.loc 0) 0),(6,.int .i64 x.1)],(.loc 0,[.func g lc,.func cg b8])::(S x.2).b,(S x.2).e,1,c1 (S l)⟩) (fun x=>b+1-x.1)
  (fun x=>x.2.length=n/\a<x.1/\x.1<=b+1/\(x.1<=b\/x.1=a+1)/\gB a b l x.2/\fm lt a x.1 x.2) (a+1,l)
  (H.weak ar ar (by simp[aD]) (by simp[cK,ax]) aL aL) ⟨ar,Ψ,by simp;omega,.inr rfl,.refl _,fun i j x y J U au=>by simp at au;omega⟩ ?_
 rintro⟨i,lk⟩ ⟨J,nB,AM,tK,U,au⟩ _;simp only at J nB AM tK U au;simp;((with_reducible repeat' first|refine aj ?_|simp|((first|apply bS|apply bW|apply bV)<;>intro h<;>try simp at h))<;>(try exact cy))
 ·refine oY (fun(x:Nat×List α)=>⟨[(1,.int .i64 a),(2,.int .i64 b),(3,.ptr (.loc 0) 0),(6,.int .i64 i),(7,.int .i64 x.1)],(.loc 0,[.func g lc,.func cg b8])::(S x.2).b,(S x.2).e,1,c1 (S l)⟩) (fun x=>x.1)
   (fun x=>x.2.length=n/\a<=x.1/\x.1<=i/\gB a b l x.2/\uL lt a (i+1) x.1 x.2) (i,lk)
   (H.weakC ar J (by simp[aD])) ⟨J,by simp;omega,Ψ,U,fm.but au⟩ ?_
  rintro⟨j,DS⟩ ⟨aU,ajj,ajz,bo,cd⟩ _;simp only at aU ajj ajz bo cd;simp[Pv.look];((with_reducible repeat' first|refine aj ?_|simp[Pv.look]|((first|apply bS|apply bW|apply bV)<;>intro h<;>try simp at h))<;>(try exact cy))
  ·obtain⟨dP,rfl⟩:∃dP,j=dP+1:=⟨j-1,Ω⟩;obtain⟨x,af⟩:∃x,DS[dP+1]? =some x:=⟨_,cc Ω⟩;obtain⟨y,aO⟩:∃y,DS[dP]? =some y:=⟨_,cc Ω⟩;have al:(((dP+1:Nat):Int)-1)=(dP:Nat):=Ω
   rw[H.slc,al];refine H.doLess aU (dP+1) dP af aO ?_;simp;cases h3:lt x y with
   |true=>
    simp[Pv.look];(with_reducible repeat' first|refine aj ?_|simp[Pv.look]);have bn:((dP:Int)+1)=(dP+1:Nat):=Ω
    rw[H.ssc,bn];refine H.doSwap aU (dP+1) dP Ω Ω Ω ?_;simp;(with_reducible repeat' first|refine aj ?_|simp);refine bO.whl (dP,gW DS (dP+1) dP) Ψ ⟨by simp[aU],by simp;omega,by simp;omega,.step bo Ω Ω Ω Ω Ω Ω,cd.swap bD Ω Ω Ω af aO h3⟩ (H.weakC ar (by simp[aU]) (by simp[aD]))
   |false=>simp;((with_reducible repeat' first|refine aj ?_|simp|((first|apply bS|apply bW|apply bV)<;>intro h<;>try simp at h))<;>(try exact cy));refine bO.whl (i+1,DS) (by simp;omega) ⟨aU,by simp;omega,by simp;omega,by simp;omega,bo,cd.done bD Ω Ω af aO h3⟩ (H.weakC ar aU (by simp[aD]))
  ·obtain rfl:j=a:=Ω
   refine bO.whl (i+1,DS) (by simp;omega) ⟨aU,by simp;omega,by simp;omega,by simp;omega,bo,cd.first⟩ (H.weakC ar aU (by simp[aD]))
 ·refine H.ret ar J (.inr rfl) ⟨rfl,lk,rfl,U,fun p q x y bB kL bm=>au p q x y bB kL Ω⟩
end
section
open Go Go.Pv
variable {α:Type} [Inhabited α] {S:List α->cH} {n g cg:Nat} {lc b8:List ai} {lt:α->α->Bool}
theorem zR{d:Array α}{i:Nat}(h:i<d.size):d.toList[i]? =some d[i]!:=by simp[getElem!_pos,h]
theorem Hq(d:Array α){i j:Nat}(hi:i<d.size)(ae:j<d.size):gW d.toList i j=(Sort.swp d i j).toList:=by simp[gW,Sort.swp,zR hi,zR ae]
section
variable (H:fe S n g cg lc b8 lt)
include H
theorem fe.swapA{d:Array α}(J:d.size=n)(U:2<=n)(i j:Nat)(hi:i<n)(ae:j<n){t:List (Nat×ai)}{D:List ai}{o:List aI}{cj:ba Nat}{K:br->Prop}
  (h:∀o,K ⟨eZ cj (.tuple []) t,(.loc 0,D)::(S (Sort.swp d i j).toList).b,(S (Sort.swp d i j).toList).e,1,o⟩):cT ak cg (.int .i64 i:: .int .i64 j::b8) ⟨t,(.loc 0,D)::(S d.toList).b,(S d.toList).e,1,o⟩ cj K:=by
 refine H.doSwap (by simpa using J) i j hi ae U ?_;rw[Hq d Ω Ω];exact h _
theorem fe.lessA{d:Array α}(J:d.size=n)(i j:Nat)(hi:i<n)(ae:j<n){t:List (Nat×ai)}{D:List ai}{o:List aI}{cj:ba Nat}{K:br->Prop}
  (h:∀o,K ⟨eZ cj (.bool (lt d[i]! d[j]!)) t,(.loc 0,D)::(S d.toList).b,(S d.toList).e,1,o⟩):cT ak g (.int .i64 i:: .int .i64 j::lc) ⟨t,(.loc 0,D)::(S d.toList).b,(S d.toList).e,1,o⟩ cj K:=
 H.doLess (by simpa using J) i j (zR Ω) (zR Ω) (h _)
theorem fe.fnA{d d2:Array α}(J:d.size=n)(U:d2.size=n){f:Nat}{args:List ai}{r:ai}(aJ:bH ak f args (S d.toList) fun eT ah=>eT=r/\ah=S d2.toList)(ad:aH (inObs (S d.toList)) args){t:List (Nat×ai)}{D:List ai}{o:List aI}{cj:ba Nat}{K:br->Prop}
  (h:∀o,K ⟨eZ cj r t,(.loc 0,D)::(S d2.toList).b,(S d2.toList).e,1,o⟩):cT ak f args ⟨t,(.loc 0,D)::(S d.toList).b,(S d.toList).e,1,o⟩ cj K:=
 H.call (by simpa using J) (R:=fun eT aZ=>eT=r/\aZ=d2.toList) (aJ.mono fun r ah ⟨al,aE⟩=>⟨_,aE,al,rfl⟩) (fun r aZ ⟨_,e⟩=>by rw[e];simpa using U) ad (by rintro eT aZ ⟨rfl,rfl⟩;exact h _)
end
section
variable (H:fe S n g cg lc b8 lt)
include H
theorem fe.loopA{β:Type}{yY:List α}(ar:yY.length=n){t:List (Nat×ai)}{b:List (aI×List ai)}{e:List (aI×fY)}{q:Nat}{o:List aI}(ck:List Nat)(cs:β->List (Nat×ai))(A:β->Array α)(nf:β->Nat)(fk:β->Prop)(a0:β)(bk:(A a0).size=n)(bs:fk a0)
  (wC:Pv.look (.loc 0) b=some [.func g lc,.func cg b8]) (ab:∀k cs,Pv.look k (S (A a0).toList).b=some cs->Pv.look k b=some cs) (he:∀k o,Pv.look k (S (A a0).toList).e=some o->Pv.look k e=some o)
  (aN:∀x∈vp t ck++cs a0,Pv.get x.1 t=x.2/\aD (mu (S (A a0).toList) 1) x.2) {c:C} {Q:Exit->br->Prop}
  (ag:∀a,fk a->c4 ak (c1 (S yY)) c (bO (c1 (S yY)) (Cg (fun a=>⟨vp t ck++cs a,(.loc 0,[.func g lc,.func cg b8])::(S (A a).toList).b,(S (A a).toList).e,1,c1 (S yY)⟩) nf fk) (nf a) Q) ⟨vp t ck++cs a,(.loc 0,[.func g lc,.func cg b8])::(S (A a).toList).b,(S (A a).toList).e,1,c1 (S yY)⟩):
  c4 ak (c1 (S yY)) (.loop c) Q ⟨t,b,e,q,o⟩:=
 oY (fun a=>⟨vp t ck++cs a,(.loc 0,[.func g lc,.func cg b8])::(S (A a).toList).b,(S (A a).toList).e,1,c1 (S yY)⟩) nf fk a0 (H.weak ar (by simpa using bk) aN wC ab he) bs fun a ae _=>ag a ae
theorem fe.callA0{lk:List α}(J:lk.length=n){f:Nat}{args:List ai}{R:ai->List α->Prop}(aJ:bH ak f args (S lk) fun r ah=> ∃aZ,ah=S aZ/\R r aZ)(aV:∀r aZ,R r aZ->aZ.length=n)(ad:aH (inObs (S lk)) args){t:List (Nat×ai)}{D:List ai}{o:List aI}{d:ba Nat}{K:br->Prop}
  (h:∀r aZ,R r aZ->∀o,K ⟨eZ d r t,(.loc 0,D)::(S aZ).b,(S aZ).e,1,o⟩):cT ak f args ⟨t,(S lk).b++[(.loc 0,D)],(S lk).e,1,o⟩ d K:=by
 refine cT.ob aJ (H.ok lk) (fun k cs af=>by rw[cK,af]) (fun _ _ af=>af) ad ?_;rintro r ah ⟨aZ,rfl,aM⟩;refine⟨H.same _ _ J (aV _ _ aM),?_⟩;have al:cl (S lk).b ((S lk).b++[(.loc 0,D)])=[(.loc 0,D)]:=by rw[ia,gR];simp[cl,H.loc]
 have aE:cl (S lk).e (S lk).e=[]:=gR _;have:=h _ _ aM (o++c1 (S aZ));simp only[al,aE];exact this
theorem fe.swapA0{d:Array α}(J:d.size=n)(U:2<=n)(i j:Nat)(hi:i<n)(ae:j<n){t:List (Nat×ai)}{D:List ai}{o:List aI}{cj:ba Nat}{K:br->Prop}
  (h:∀o,K ⟨eZ cj (.tuple []) t,(.loc 0,D)::(S (Sort.swp d i j).toList).b,(S (Sort.swp d i j).toList).e,1,o⟩):cT ak cg (.int .i64 i:: .int .i64 j::b8) ⟨t,(S d.toList).b++[(.loc 0,D)],(S d.toList).e,1,o⟩ cj K:=by
 refine H.callA0 (by simpa using J) (R:=fun r aZ=>r= .tuple []/\aZ=(Sort.swp d i j).toList) ((H.swap d.toList (by simpa using J) U i j hi ae).mono fun r ah ⟨al,aE⟩=>⟨_,aE,al,Hq d Ω Ω⟩) (fun r aZ ⟨_,e⟩=>by rw[e];simp[Sort.swp,J]) (by simp[aD,aH,H.ksc d.toList (by simpa using J)]) ?_;rintro r aZ ⟨rfl,rfl⟩ o;exact h o
theorem fe.retA{l:List α}{d:Array α}(ar:l.length=n)(J:d.size=n){Q:ai->cH->Prop}{e:Exit}(he:e= .ret\/e= .normal){t:List (Nat×ai)}{D:List ai}{q:Nat}{o:List aI}(bm:Q (.tuple []) (S d.toList)):cF [] (S l) Q e ⟨t,(.loc 0,D)::(S d.toList).b,(S d.toList).e,q,o⟩:=H.ret ar (by simpa using J) he bm
theorem fe.retR{fw:List bN}{l:List α}{d:Array α}(ar:l.length=n)(J:d.size=n){Q:ai->cH->Prop}{e:Exit}(he:e= .ret\/e= .normal){t:List (Nat×ai)}{D:List ai}{q:Nat}{o:List aI}(h:cL ⟨t,(.loc 0,D)::(S d.toList).b,(S d.toList).e,q,o⟩ fw fun r=>aD (inObs (S d.toList)) r/\Q r (S d.toList)):cF fw (S l) Q e ⟨t,(.loc 0,D)::(S d.toList).b,(S d.toList).e,q,o⟩:=by
 refine cF.at (S d.toList) he (H.ok _) (H.same _ _ ar (by simpa using J)) (fun k cs af=>?_) (fun _ _ af=>af) h;cases k with
 |loc m=>rw[H.loc m]at af;cases af
 |obj m=>simpa[Pv.look]using af
end
theorem hf(d:Array α)(i j:Nat):(Sort.swp d i j).size=d.size:=by simp[Sort.swp]
end
end Go.Proofs.YtohaalphocaebaaGreat
