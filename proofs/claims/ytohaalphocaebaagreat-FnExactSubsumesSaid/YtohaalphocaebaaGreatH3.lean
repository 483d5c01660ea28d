/- Calls of less and swap over arrays. -/
import Derived.Test.YtohaalphocaebaaGreatProg
import Derived.Shelf.Sort.Plain
import Derived.Ground.NamesProg
import Derived.Sort.OwnSortedInts
import Derived.Lib.OwnBridge
import Derived.Sort.AssemblyPlain
import Derived.Sort.LotD5
import Derived.Test.YtohaalphocaebaaGreatH2
set_option linter.all false
set_option maxHeartbeats 4000000
set_option maxRecDepth 4000
open Bool renaming and_eq_true->cy,eq_iff_iff->qY,false_eq_true->ho,or_eq_true->lu
open Go renaming Program->cI
open Go.IntKind renaming bits->oU,signed->th,u64->hI,wrap->ti
open Go.IntWalk renaming i64_in->pN
open Go.Op renaming bytesLess->hP
open Go.Proofs.Tryz renaming f8->k2,prog->al
open Go.Value renaming cells->pP
open List renaming all_eq_true->jd,cons_append->bW,drop->ny,drop_eq_getElem_cons->lR,getElem?_eq_getElem->b6,getElem?_eq_none->qZ,getElem?_eq_some_iff->eV,getElem?_map->tk,getElem_of_mem->og,length_append->pQ,length_cons->oX,length_drop->tl,map_cons->gM,mem_append->kt,mem_cons->fT,mem_filter->oi,mem_map->iu,mem_of_getElem?->dV,nil_append->b9,pairwise_cons->nz,pairwise_iff_getElem->qo,take_of_length_le->hY,take_succ->lS
open List.Nodup renaming length_le_of_subset->P7
open List.Pairwise renaming filter->aa9,imp_of_mem->arP,sublist->awh
open List.Perm renaming eq_of_pairwise->P8,swap->awi
open List.cons renaming injEq->oW
open Nat renaming le_refl->fc,le_trans->kJ
open Ne renaming symm->lv
open Option renaming bind_eq_some_iff->kK,getD_none->kv,getD_some->jM,map_eq_some_iff->hf,map_some->o0
open Option.some renaming inj->ed,injEq->ea
open Prod.mk renaming injEq->jO
open _root_ renaming False->e8,UInt8->dw,beq_iff_eq->eb,congrArg->fh,decide_eq_false->hQ,decide_eq_false_iff_not->fC,decide_eq_true->gN,decide_eq_true_eq->eW
namespace Go.Pv
section
open Go
structure bN where
 v:Int
 k:Int
 deriving DecidableEq,Inhabited
def bN.e(b:bN):aj:= .agg [.int .i64 b.v,.int .i64 b.k]
@[simp]theorem bN.eta(b:bN):bN.mk b.v b.k=b:=rfl
@[simp]theorem Qu(v k:Int):aj.agg [.int .i64 v,.int .i64 k]=(bN.mk v k).e:=rfl
@[simp]theorem aud(S:aI->Prop)(b:bN):aB S b.e=True:=by simp[bN.e,-Qu]
@[simp]theorem avY(b:bN):dz b.e=b.e:=by simp[bN.e,-Qu]
theorem WD(S:aI->Prop):∀l:List bN,aC S (l.map bN.e)
 |[]=>by simp[aC]
 |x::xs=>by simp[aC,WD S xs]
@[simp]theorem atW(S:aI->Prop)(l:List bN):aC S (l.map bN.e)=True:=eq_true (WD S l)
@[simp]theorem Pf:∀l:List bN,c6 (l.map bN.e)=l.map bN.e
 |[]=>rfl
 |x::xs=>by simp[c6,Pf xs]
@[simp]theorem avC(b:bN):eT b.e=true:=rfl
@[simp]theorem ass(b:bN):cells b.e=[.int .i64 b.v,.int .i64 b.k]:=rfl
@[simp]theorem atE(b:bN):Pv.isAgg 2 b.e:=⟨_,rfl,rfl⟩
@[simp]theorem asU(off:Nat)(gG:Bool)(sz:Nat)(b:bN):vb off gG sz b.e=if gG then some (off+sz<=2,.agg (([.int .i64 b.v,.int .i64 b.k].drop off).take sz))else(([.int .i64 b.v,.int .i64 b.k]:List aj)[off]?).map fun p=>(True,p):=rfl
@[simp]theorem asM(off:Nat)(gG:Bool)(sz:Nat)(b:bN):sd off gG sz (.eptr b.e)=if gG then some (off+sz<=2,.eptr (.agg (([.int .i64 b.v,.int .i64 b.k].drop off).take sz)))else(([.int .i64 b.v,.int .i64 b.k]:List aj)[off]?).map fun p=>(eT p=true/\cells p=[p],.eptr p):=rfl
structure bj where
 v:Int
 s:List dw
 deriving DecidableEq,Inhabited
def bj.e(b:bj):aj:= .agg [.int .i64 b.v,.str b.s]
@[simp]theorem bj.eta(b:bj):bj.mk b.v b.s=b:=rfl
@[simp]theorem JT(v:Int)(s:List dw):aj.agg [.int .i64 v,.str s]=(bj.mk v s).e:=rfl
@[simp]theorem ajW(S:aI->Prop)(b:bj):aB S b.e=True:=by simp[bj.e,-JT]
@[simp]theorem av2(b:bj):dz b.e=b.e:=by simp[bj.e,-JT]
theorem MW(S:aI->Prop):∀l:List bj,aC S (l.map bj.e)
 |[]=>by simp[aC]
 |x::xs=>by simp[aC,MW S xs]
@[simp]theorem WG(S:aI->Prop)(l:List bj):aC S (l.map bj.e)=True:=eq_true (MW S l)
@[simp]theorem Pg:∀l:List bj,c6 (l.map bj.e)=l.map bj.e
 |[]=>rfl
 |x::xs=>by simp[c6,Pg xs]
@[simp]theorem avE(b:bj):eT b.e=true:=rfl
@[simp]theorem asu(b:bj):cells b.e=[.int .i64 b.v,.str b.s]:=rfl
@[simp]theorem atG(b:bj):Pv.isAgg 2 b.e:=⟨_,rfl,rfl⟩
@[simp]theorem asV(off:Nat)(gG:Bool)(sz:Nat)(b:bj):vb off gG sz b.e=if gG then some (off+sz<=2,.agg (([.int .i64 b.v,.str b.s].drop off).take sz))else(([.int .i64 b.v,.str b.s]:List aj)[off]?).map fun p=>(True,p):=rfl
@[simp]theorem asN(off:Nat)(gG:Bool)(sz:Nat)(b:bj):sd off gG sz (.eptr b.e)=if gG then some (off+sz<=2,.eptr (.agg (([.int .i64 b.v,.str b.s].drop off).take sz)))else(([.int .i64 b.v,.str b.s]:List aj)[off]?).map fun p=>(eT p=true/\cells p=[p],.eptr p):=rfl
def fs(x y:bj):Int:=if eN x.v y.v=0 then k0 x.s y.s else eN x.v y.v
theorem mi:jX fs:=by
 refine⟨fun x y=>?_,fun x y z J U=>?_,fun x y=>?_⟩
 ·unfold fs;have:=kG.neg x.v y.v;have:=Eu.neg x.s y.s;by_cases e:eN x.v y.v=0
  ·rw[if_pos e,if_pos Ω];omega
  ·rw[if_neg e,if_neg Ω];omega
 ·unfold fs at J U⊢;by_cases ak:eN x.v y.v=0
  ·rw[if_pos ak]at J;rw[(kG.zero _ _).1 ak];by_cases aD:eN y.v z.v=0
   ·rw[if_pos aD]at U⊢;exact Eu.tr _ _ _ J U
   ·rw[if_neg aD]at U⊢;exact U
  ·rw[if_neg ak]at J;have bE:eN x.v y.v<0:=Ω
   by_cases aD:eN y.v z.v=0
   ·rw[<-(kG.zero _ _).1 aD,if_neg ak];exact J
   ·rw[if_neg aD]at U;have:=kG.ltr bE U;rw[if_neg Ω];omega
 ·unfold fs;by_cases e:eN x.v y.v=0
  ·rw[if_pos e,Eu.zero];have:=(kG.zero _ _).1 e;cases x;cases y;simp_all
  ·rw[if_neg e];exact⟨fun h=>absurd h e,fun h=>by rw[h]at e;exact absurd (kG.refl _) e⟩
def uf(x y:bj):Bool:=decide (x.v<y.v)||(x.v==y.v&&hP x.s y.s)
theorem ab6(a:List dw):hP a a=false:=by
 cases h:hP a a with
 |false=>rfl
 |true=>rw[J3 a a h]at h;cases h
theorem Xu(x y:bj):uf x y=h5 fs x y:=by
 unfold uf h5 fs;rw[qY];simp only[lu,eW,cy,eb];by_cases e:x.v=y.v
 ·have:eN x.v y.v=0:=(kG.zero _ _).2 e;rw[if_pos this];simp only[e,Int.lt_irrefl,false_or,true_and,k0];by_cases aD:x.s=y.s
  ·rw[if_pos aD,aD,ab6];simp
  ·rw[if_neg aD];split<;>simp_all
 ·have br:¬eN x.v y.v=0:=fun h=>e ((kG.zero _ _).1 h);rw[if_neg br];simp only[e,false_and,or_false];unfold eN;(repeat' split)<;>omega
def iF{α:Type}(p:α->Prop)(r:α->α->Prop)(l:List α)(i:Nat):Prop:= ∀b,l[i]? =some b->p b/\∀c,0<i->l[i-1]? =some c->r c b
theorem Qq{α:Type}{p:α->Prop}{r:α->α->Prop}(aJ:∀a b c,r a b->r b c->r a c){l:List α}:(∀i,i<l.length->iF p r l i)↔(∀b∈l,p b)/\l.Pairwise r:=by
 constructor
 ·intro h;refine⟨fun b af=>?_,?_⟩
  ·obtain⟨i,hi,e⟩:=og af;exact(h i hi b (by rw[b6 hi,e])).1
  ·rw[qo];have j8:∀i (h:i+1<l.length),r l[i] l[i+1]:=fun i hi=>(h (i+1) hi l[i+1] (by simp[b6 hi])).2 l[i] Ω (by simp[b6 (show i<l.length by omega)]);have:∀(d i:Nat) (h:i+d+1<l.length),r l[i] l[i+d+1]:=by
    intro d;induction d with
    |zero=>intro i h;exact j8 i h
    |succ d bR=>intro i h;exact aJ _ _ _ (bR i Ω) (j8 (i+d+1) Ω)
   intro i j hi ae mA;have:=this (j-i-1) i Ω;simpa[show i+(j-i-1)+1=j from by omega]using this
 ·rintro⟨J,U⟩ i hi b af;refine⟨J b (dV af),fun c br aw=>?_⟩;obtain⟨g1,ak⟩:=eV.1 aw;obtain⟨g2,aD⟩:=eV.1 af;have:=qo.1 U (i-1) i g1 g2 Ω;rw[ak,aD]at this;exact this
def kE{α:Type}(c:α->α->Int)(x:α):List α->List α
 |[]=>[x]
 |y::l=>if c y x<0 then y::kE c x l else if c y x=0 then y::l else x::y::l
section
variable {α:Type} {c:α->α->Int}
theorem HK(aw:jX c){x z:α}:∀{l:List α},z∈kE c x l↔z=x\/z∈l
 |[]=>by simp[kE]
 |y::l=>by
  simp only[kE];split
  ·simp only[fT,HK aw (l:=l)];constructor
   ·rintro(h|h|h)
    ·exact .inr (.inl h)
    ·exact .inl h
    ·exact .inr (.inr h)
   ·rintro(h|h|h)
    ·exact .inr (.inl h)
    ·exact .inl h
    ·exact .inr (.inr h)
  ·split
   ·rename_i h;obtain rfl:=(aw.zero _ _).1 h;simp
   ·simp
theorem MB(aw:jX c){x:α}:∀{l:List α},h7 c l->h7 c (kE c x l)
 |[],_=>by simp[kE,h7]
 |y::l,h=>by
  obtain⟨J,U⟩:=nz.1 h;simp only[kE];split
  ·rename_i ar;refine nz.2 ⟨fun z bz=>?_,MB aw U⟩;rcases(HK aw).1 bz with rfl|bz
   ·exact ar
   ·exact J z bz
  ·split
   ·exact h
   ·rename_i ar a6;have ib:c x y<0:=by have:=aw.neg x y;omega
    refine nz.2 ⟨fun z bz=>?_,h⟩;rcases fT.1 bz with rfl|bz
    ·exact ib
    ·exact aw.ltr ib (by have:=J z bz;omega)
theorem MD(x:α):∀l:List α,(kE c x l).length<=l.length+1
 |[]=>by simp[kE]
 |y::l=>by
  have:=MD x l;simp only[kE];split
  ·simp;omega
  ·split<;>simp
theorem MC(aw:jX c)(x:α):∀(l:List α) (k:Nat),(∀i y,i<k->l[i]? =some y->c y x<0)->(∀y,l[k]? =some y->0<=c y x)->k<=l.length->kE c x l=if(match l[k]? with|some y=>decide (c y x=0)|none=>false)=true then l else l.take k++x::l.drop k
 |[],k,_,_,ad=>by simp at ad;subst ad;simp[kE]
 |y::l,0,_,U,_=>by
  have:=U y rfl;by_cases e:c y x=0
  ·simp[kE,e]
  ·have ar:¬c y x<0:=Ω
   simp[kE,ar,e]
 |y::l,k+1,J,U,ad=>by
  have br:=J 0 y Ω rfl;simp only[kE,if_pos br,List.take_succ_cons,List.drop_succ_cons,bW,List.getElem?_cons_succ];rw[MC aw x l k (fun i d hi aR=>J (i+1) d Ω (by simpa using aR)) (fun d aR=>U d (by simpa using aR)) (by simpa using ad)];cases l[k]? with
  |none=>rfl
  |some z=>simp only[];split<;>rfl
end
structure jE (l:List bN):Prop where
 at':∀x∈l,(0<=x.v/\x.v<=100000)/\(x.k=2\/x.k=3)
 asc:l.Pairwise fun x y=>x.v<y.v
def lH(l:List bN)(v:Int):Option Int:=(l.find? fun x=>x.v==v).map (·.k)
def ma(x:bN):List bN->List bN
 |[]=>[x]
 |y::l=>if y.v<x.v then y::ma x l else x::y::l
theorem HL{x z:bN}:∀{l:List bN},z∈ma x l↔z=x\/z∈l
 |[]=>by simp[ma]
 |y::l=>by
  simp only[ma];split
  ·simp only[fT,HL (l:=l)];constructor
   ·rintro(h|h|h)
    ·exact .inr (.inl h)
    ·exact .inl h
    ·exact .inr (.inr h)
   ·rintro(h|h|h)
    ·exact .inr (.inl h)
    ·exact .inl h
    ·exact .inr (.inr h)
  ·simp
theorem ME(x:bN):∀l:List bN,(ma x l).Perm (x::l)
 |[]=>.refl _
 |y::l=>by
  simp only[ma];split
  ·exact((ME x l).cons y).trans (awi _ _ _)
  ·exact .refl _
theorem Hf{x:bN}:∀{l:List bN},l.Pairwise (fun x y=>x.v<y.v)->(∀y∈l,y.v≠x.v)->(ma x l).Pairwise fun x y=>x.v<y.v
 |[],_,_=>by simp[ma]
 |y::l,h,ax=>by
  obtain⟨J,U⟩:=nz.1 h;have aL:=ax y Ψ;simp only[ma];split
  ·rename_i ar;refine nz.2 ⟨fun z bz=>?_,Hf U fun z bz=>ax z (by simp[bz])⟩;rcases HL.1 bz with rfl|bz
   ·exact ar
   ·exact J z bz
  ·refine nz.2 ⟨fun z bz=>?_,h⟩;rcases fT.1 bz with rfl|bz
   ·omega
   ·have:=J z bz;omega
theorem V4(x:bN):∀(l:List bN) (k:Nat),(∀i y,i<k->l[i]? =some y->y.v<x.v)->(∀y,l[k]? =some y->¬y.v<x.v)->k<=l.length->ma x l=l.take k++x::l.drop k
 |[],k,_,_,ad=>by simp at ad;subst ad;rfl
 |y::l,0,_,U,_=>by have:=U y rfl;simp[ma,this]
 |y::l,k+1,J,U,ad=>by have br:=J 0 y Ω rfl;simp only[ma,if_pos br,List.take_succ_cons,List.drop_succ_cons,bW];rw[V4 x l k (fun i d hi aR=>J (i+1) d Ω (by simpa using aR)) (fun d aR=>U d (by simpa using aR)) (by simpa using ad)]
theorem Wn{l a1:List bN}(bF:a1.Perm l)(aR:l.Pairwise fun x y=>x.v<y.v)(ag:a1.Pairwise fun x y=>decide (y.v<x.v)=false):a1=l:=by
 refine P8 (le:=fun x y:bN=>x.v<=y.v) (fun x y ab aL J U=>?_) (ag.imp Ψ) (aR.imp Ω) bF;have iJ:x∈l:=bF.mem_iff.1 ab;have sF:y∈l:=aL;obtain⟨i,hi,rfl⟩:=og iJ;obtain⟨j,ae,rfl⟩:=og sF;have:=qo.1 aR;rcases Nat.lt_trichotomy i j with h|h|h
 ·have:=this i j hi ae h;omega
 ·subst h;rfl
 ·have:=this j i ae hi h;omega
theorem y6{l:List bN}{v:Int}:lH l v=none↔∀x∈l,x.v≠v:=by simp[lH]
theorem Wu{l:List bN}{v k:Int}(h:lH l v=some k):(⟨v,k⟩:bN)∈l:=by unfold lH at h;rw[hf]at h;obtain⟨x,J,rfl⟩:=h;have U:=List.find?_some J;simp at U;subst U;exact List.mem_of_find?_eq_some J
theorem Hs{l:List bN}(bD:l.Pairwise fun x y=>x.v<y.v){x:bN}(h:x∈l):lH l x.v=some x.k:=by
 induction l with
 |nil=>simp at h
 |cons y l bR=>
  obtain⟨J,U⟩:=nz.1 bD;rcases fT.1 h with rfl|h
  ·simp[lH]
  ·have:=J x h;have e:=bR U h;unfold lH at e⊢;rw[List.find?_cons_of_neg d7];exact e
def jk(l:List bN)(t:T)(k:Int):Option (List bN):=match t with
 | .var n=>match lH l n with
  |some bJ=>if bJ=k then some l else none
  |none=>some (ma ⟨n,k⟩ l)
 |t=>if t.kind=k then some l else none
theorem FD{l a1:List bN}{t:T}{k:Int}(h:jE l)(aJ:t.ok=true)(ad:k=2\/k=3)(he:jk l t k=some a1):jE a1:=by
 unfold jk at he;split at he
 ·rename_i n;split at he
  ·split at he
   ·cases he;exact h
   ·cases he
  ·rename_i ax;cases he;rw[y6]at ax;refine⟨fun x ab=>?_,Hf h.asc ax⟩;rcases HL.1 ab with rfl|ab
   ·exact⟨by simpa[T.ok]using aJ,ad⟩
   ·exact h.at' x ab
 ·split at he
  ·cases he;exact h
  ·cases he
theorem rv{l:List bN}(h:jE l):l.length<=100001:=by
 have J:(l.map (·.v)).Nodup:=by rw[List.nodup_iff_pairwise_ne,List.pairwise_map];exact h.asc.imp fun h e=>Ω
 have:=MS J fun v aF=>by obtain⟨x,ab,rfl⟩:=iu.1 aF;exact(h.at' x ab).1
 simpa using this
def gx(s:List ao):List bN->List bN->Option (List bN)
 |[],acc=>some acc
 |x::r,acc=>match jk acc (bp s x.v) x.k with
  |some a=>gx s r a
  |none=>none
structure hN (l:List bj):Prop where
 at':∀x∈l,(0<=x.v/\x.v<=100000)/\iX x.s=true
 asc:h7 fs l
def _root_.Go.Pv.T.has(s:List dw):T->Bool
 | .sym n=>n==s
 | .pair a b=>a.has s||b.has s
 |_=>false
def j1(l:List bj)(t:T)(s:List dw):Option (List bj):=if t.has s then none else some (asc fs (l++(od t).map fun v=>⟨v,s⟩))
theorem Fi{t:T}{v:Int}:v∈od t↔t.occ v=true:=by
 refine⟨fun h=>?_,zh⟩;induction t with
 |var n=>simp[od]at h;simp[T.occ,h]
 |pair a b dG dK=>simp only[od,kt]at h;simp only[T.occ,lu];exact h.imp dG dK
 |_=>simp[od]at h
theorem Bz{l a1:List bj}{t:T}{s:List dw}(h:j1 l t s=some a1)(x:bj):x∈a1↔x∈l\/(x.s=s/\t.occ x.v=true):=by
 unfold j1 at h;split at h
 ·cases h
 ·cases h;rw[Xe,kt,iu];refine or_congr_right ?_;constructor
  ·rintro⟨v,aF,rfl⟩;exact⟨rfl,Fi.1 aF⟩
  ·rintro⟨J,U⟩;exact⟨x.v,Fi.2 U,by rw[<-J]⟩
theorem JR{l a1:List bj}{t:T}{s:List dw}(cZ:t.has s=false)(bD:h7 fs a1)(hm:∀x,x∈a1↔x∈l\/(x.s=s/\t.occ x.v=true)):j1 l t s=some a1:=by
 have h:j1 l t s=some (asc fs (l++(od t).map fun v=>⟨v,s⟩)):=by unfold j1;rw[cZ];rfl
 rw[h];congr 1;exact(JY mi _).ext mi bD fun x=>by rw[hm,<-Bz h]
theorem FE{l a1:List bj}{t:T}{s:List dw}(h:hN l)(aJ:t.ok=true)(ag:iX s=true)(he:j1 l t s=some a1):hN a1:=by
 refine⟨fun x ab=>?_,?_⟩
 ·rcases(Bz he x).1 ab with J|⟨J,U⟩
  ·exact h.at' x J
  ·exact⟨xW aJ U,by rw[J];exact ag⟩
 ·unfold j1 at he;split at he
  ·cases he
  ·cases he;exact JY mi _
def gy(s:List ao):List bj->List bj->Option (List bj)
 |[],acc=>some acc
 |x::r,acc=>match j1 acc (bp s x.v) x.s with
  |some a=>gy s r a
  |none=>none
end
end Go.Pv
namespace Go.Proofs.YtohaalphocaebaaGreat
section
open Go Go.Pv
def Kg:C:=(aa [a8 2 false] (.seq (aa [I 5 0,ca 6 5,bS 7 0] (e0 8 7 6 (.seq (.block 1 (aa [cf 9 4 5 7,aY 10 4 9,c1 4 dH,bB 4 4 10] (aa [aY 11 4 4,cB 12 117 11,cj 13 12] (aT 13 (aa [a8 2 false] .ret) .skip)))) (.region [aV 14 .add 7 1,I 7 14])))) (aa [a8 2 true] .ret)))
@[simp] def anV:List bO:=[.tmp 2]
def SP:C:=(aa [c1 2 dH] (aa [I 3 0,iq 4 dH [(0,1,(gd 1)),(1,1,(.t 3))],bB 4 2 4] .ret))
@[simp] def aoE:List bO:=[.cell 2 true 4]
def RF:C:=(aa [cP (.box 2 (some 201) (.t 0)),cC 3 1,c1 4 dH,a8 5 false] (aa [aY 6 4 3,b5 7 (.mkf 182 [.t 2]),b2 8 181 6 7,cr 9 0 8,cr 10 1 8,bB 4 4 9,I 5 10] .ret))
@[simp] def YD:List bO:=[.cell 4 true 4,.tmp 5]
def Rg:C:=(aa [a8 2 false] (.seq (aa [I 5 0,ca 6 5,aV 7 .gtr 6 400] (aT 7 (aa [a8 2 false] .ret) .skip)) (.seq (aa [I 8 0,ca 9 8,bS 10 0] (e0 11 10 9 (.seq (.block 1 (aa [I 12 10,cf 13 5 8 10,aY 14 5 13,c1 4 jF,I 3 12,bB 5 4 14] (.seq (.drawn true 45 [aE 15 0 1 4,av 16 1 15,aV 17 .lss 16 0,I 18 17,aq 18 false (aE 19 0 1 4),aq 18 false (av 20 1 19),aq 18 false (aV 21 .gtr 20 100000),cW 22 18 21,I 23 22,cb 23 false 24 3,aq 23 false (aV 25 .gtr 24 0),cb 23 false 26 25,cb 26 true 27 0,cb 26 true 28 3,aq 26 true (aV 29 .sub 28 1),aq 26 true (cf 30 5 27 29),aq 26 true (aE 31 0 1 30),aq 26 true (av 32 1 31),aq 26 true (aE 33 0 1 4),aq 26 true (av 34 1 33),aq 26 true (bk 35 .geq 32 34),aq 23 false (dL 36 26 35),cW 37 23 36,I 38 37,aq 38 false (eO 39 1 4 4),aq 38 false (aY 40 4 39),aq 38 false (cB 41 117 40),aq 38 false (cj 42 41),cW 43 38 42]) (aT 43 (aa [a8 2 false] .ret) .skip)))) (.region [aV 44 .add 10 1,I 10 44])))) (aa [a8 2 true] .ret))))
@[simp] def Ih:List bO:=[.tmp 2]
def Ru:C:=(aa [cC 2 0,cC 3 1,a8 4 false] (aa [aY 5 4 2,aY 6 4 3,b2 7 170 5 6,aV 8 .eql 7 0,I 4 8] .ret))
@[simp] def Yv:List bO:=[.tmp 4]
def SM:C:=(aa [cC 2 0,cC 3 1,c1 4 dH] (aa [aY 5 4 2,aY 6 4 3,eI 7 4 32 [.t 5,.t 6],iq 8 dH [(0,1,(gd 4)),(3,1,(.t 7))],bB 4 4 8] .ret))
@[simp] def YT:List bO:=[.cell 4 true 4]
def Re:C:=(aa [cC 1 0,a8 2 false] (aa [aY 3 4 1,dn 4 194 [.t 3,(gd 5000)],aV 5 .gtr 4 0,I 2 5] .ret))
@[simp] def Ym:List bO:=[.tmp 2]
def Q4:C:=(aa [a8 2 false] (.seq (aa [I 4 0,b5 5 (.slen (.t 4)),aV 6 .lss 5 1,I 7 6,cb 7 false 8 0,aq 7 false (b5 9 (.slen (.t 8))),aq 7 false (aV 10 .gtr 9 12),cW 11 7 10,I 12 11,cb 12 false 13 0,aq 12 false (b5 14 (.sidx (.t 13) (gd 0))),aq 12 false (b5 15 (.bin .lss false (.t 14) (.c (.int .u8 97)))),cW 16 12 15,I 17 16,cb 17 false 18 0,aq 17 false (b5 19 (.sidx (.t 18) (gd 0))),aq 17 false (b5 20 (.bin .gtr false (.t 19) (.c (.int .u8 122)))),cW 21 17 20] (aT 21 (aa [a8 2 false] .ret) .skip)) (.seq (aa [bS 3 1] (.block 0 (.loop (.seq (aa [I 22 3,I 23 0,b5 24 (.slen (.t 23)),bk 25 .lss 22 24] (aT 25 .skip (.exit 0))) (.seq (.block 1 (aa [I 28 0,I 29 3,b5 30 (.sidx (.t 28) (.t 29)),b5 31 (.bin .geq false (.t 30) (.c (.int .u8 97))),I 32 31,cb 32 true 33 0,cb 32 true 34 3,aq 32 true (b5 35 (.sidx (.t 33) (.t 34))),aq 32 true (b5 36 (.bin .leq false (.t 35) (.c (.int .u8 122)))),dL 37 32 36,I 38 37,cb 38 false 39 0,cb 38 false 40 3,aq 38 false (b5 41 (.sidx (.t 39) (.t 40))),aq 38 false (b5 42 (.bin .geq false (.t 41) (.c (.int .u8 48)))),cb 38 false 43 42,cb 43 true 44 0,cb 43 true 45 3,aq 43 true (b5 46 (.sidx (.t 44) (.t 45))),aq 43 true (b5 47 (.bin .leq false (.t 46) (.c (.int .u8 57)))),aq 38 false (dL 48 43 47),cW 49 38 48,I 50 49,cb 50 false 51 0,cb 50 false 52 3,aq 50 false (b5 53 (.sidx (.t 51) (.t 52))),aq 50 false (b5 54 (.bin .eql false (.t 53) (.c (.int .u8 45)))),cW 55 50 54,cj 56 55] (aT 56 (aa [a8 2 false] .ret) .skip))) (.region [I 26 3,aV 27 .add 26 1,I 3 27])))))) (aa [a8 2 true] .ret))))
@[simp] def Ig:List bO:=[.tmp 2]
def tw:C:=(aa [cC 2 0] (.seq (aa [aE 4 0 1 2,av 5 1 4,aV 6 .eql 5 1] (aT 6 (.region [I 7 1,aE 8 1 1 2,av 9 1 8,hd 10 7 [.t 9]]) .skip)) (aa [aE 11 0 1 2,av 12 1 11,aV 13 .eql 12 4] (aT 13 (aa [aE 14 3 1 2,av 15 1 14,jb 16 4 15 0,aY 17 4 16,I 18 1,b2 19 129 17 18] (.region [aE 20 3 1 2,av 21 1 20,jb 22 4 21 1,aY 23 4 22,I 24 1,b2 25 129 23 24])) .skip))))
@[simp] def uk:List bO:=[]
def Rw:C:=(aa [cP (.box 2 (some 101) (.t 0)),cP (.box 3 (some 102) (.t 1)),bS 4 0] (aa [av 6 1 2,ca 7 6,b5 8 (.mkf 212 [.t 2,.t 3]),b2 9 211 7 8,I 5 9] (.seq (.seq (.drawn true 24 [I 10 5,av 11 1 2,ca 12 11,bk 13 .lss 10 12,I 14 13,aq 14 true (av 15 1 2),cb 14 true 16 5,aq 14 true (cf 17 5 15 16),aq 14 true (aE 18 0 1 17),aq 14 true (av 19 1 18),aq 14 true (av 20 1 3),aq 14 true (bk 21 .eql 19 20),dL 22 14 21]) (aT 22 (aa [I 23 5,I 4 23] .ret) .skip)) (aa [bS 4 (-1)] .ret))))
@[simp] def Yx:List bO:=[.tmp 4]
def yg:C:=(aa [cC 2 0,c1 4 dH] (.seq (aa [aE 7 0 1 2,av 8 1 7] (.block 0 (aa [aV 10 .eql 8 1,I 9 10] (aT 9 (.seq (aa [I 12 1,aE 13 1 1 2,av 14 1 13,hd 15 12 [.t 14],I 11 15,cr 16 0 11,cr 17 1 11,c1 5 dH,bB 4 5 16,I 6 17] (aa [I 18 6] (aT 18 (aa [aY 19 4 5,cB 20 200 19,bB 4 4 20] .ret) .skip))) (aa [aY 21 4 2,bB 4 4 21] .ret)) (aa [aV 23 .eql 8 4,I 22 23] (aT 22 (.seq (.drawn false 38 [aE 24 3 1 2,av 25 1 24,jb 26 4 25 0,aY 27 4 26,I 28 1,b2 29 153 27 28,aE 30 3 1 2,av 31 1 30,jb 32 4 31 1,aY 33 4 32,I 34 1,b2 35 153 33 34,b2 36 225 29 35,bB 4 4 36]) .ret) .skip)))))) (aa [aY 37 4 2,bB 4 4 37] .ret)))
@[simp] def zv:List bO:=[.cell 4 true 4]
def FW:C:=(aa [cC 2 0,cC 3 1,bS 4 0] (.seq (aa [aE 6 0 1 2,av 7 1 6,aE 8 0 1 3,av 9 1 8,bk 10 .neq 7 9] (aT 10 (aa [aE 11 0 1 2,av 12 1 11,aE 13 0 1 3,av 14 1 13,b2 15 232 12 14,I 4 15] .ret) .skip)) (.seq (aa [aE 16 1 1 2,av 17 1 16,aE 18 1 1 3,av 19 1 18,bk 20 .neq 17 19] (aT 20 (aa [aE 21 1 1 2,av 22 1 21,aE 23 1 1 3,av 24 1 23,b2 25 232 22 24,I 4 25] .ret) .skip)) (.seq (aa [aE 26 2 1 2,av 27 1 26,aE 28 2 1 3,av 29 1 28,bk 30 .neq 27 29] (aT 30 (.seq (aa [aE 31 2 1 2,av 32 1 31,aE 33 2 1 3,av 34 1 33,bk 35 .lss 32 34] (aT 35 (aa [bS 4 (-1)] .ret) .skip)) (aa [bS 4 1] .ret)) .skip)) (.seq (aa [aE 36 0 1 2,av 37 1 36,aV 38 .neq 37 4] (aT 38 (aa [bS 4 0] .ret) .skip)) (.seq (.seq (.drawn true 60 [aE 39 3 1 2,av 40 1 39,jb 41 4 40 0,aY 42 4 41,aE 43 3 1 3,av 44 1 43,jb 45 4 44 0,aY 46 4 45,b2 47 170 42 46,I 5 47]) (aa [I 48 5,aV 49 .neq 48 0] (aT 49 (aa [I 50 5,I 4 50] .ret) .skip))) (.seq (.drawn true 60 [aE 51 3 1 2,av 52 1 51,jb 53 4 52 1,aY 54 4 53,aE 55 3 1 3,av 56 1 55,jb 57 4 56 1,aY 58 4 57,b2 59 170 54 58,I 4 59]) .ret)))))))
@[simp] def Io:List bO:=[.tmp 4]
def RH:C:=(aa [cC 2 0,cP (.box 3 (some 202) (.t 1)),c1 4 dH,a8 5 false] (aa [aY 7 4 2,b5 8 (.mkf 240 [.t 3]),b2 9 239 7 8,I 6 9] (.seq (aa [I 10 6,aV 11 .gtr 10 5000] (aT 11 (aa [iq 12 dH [],bB 4 4 12,a8 5 false] .ret) .skip)) (aa [aY 13 4 2,av 14 1 3,b2 15 153 13 14,bB 4 4 15,a8 5 true] .ret))))
@[simp] def Oo:List bO:=[.cell 4 true 4,.tmp 5]
def RG:C:=(aa [c1 3 dH,a8 4 false] (.seq (aa [av 6 1 1,I 7 0,b2 8 134 6 7,I 5 8] (aa [I 9 5,aV 10 .geq 9 0] (aT 10 (aa [av 11 1 1,I 12 5,cf 13 5 11 12,eO 14 1 4 13,aY 15 4 14,bB 4 3 15,a8 4 true] .ret) .skip))) (aa [iq 16 dH [],bB 4 3 16,a8 4 false] .ret)))
@[simp] def On:List bO:=[.cell 3 true 4,.tmp 4]
def RM:C:=(aa [er 2 1] (aa [cP (.bslm 5 (some 306) 1 3 []),I 3 5] (.seq (aa [I 6 0,cP (.range 7 none (.t 6))] (.block 0 (.loop (aa [⟨none,.next 8 (.t 7)⟩,cr 9 0 8] (.seq (aT 9 .skip (.exit 0)) (.block 1 (aa [b5 10 (.ment (.t 7)),cr 11 0 10,I 4 11] (.region [I 12 3,I 13 4,eI 14 1 3 [.t 13],cP (.appm 15 none 1 3 (.t 12) (.t 14)),I 3 15])))))))) (aa [I 16 3,cB 17 242 16] (.seq (.pub 3 (.region [I 18 3,I 2 18])) .ret)))))
@[simp] def YH:List bO:=[.tmp 2]
def RA:C:=(aa [cC 2 0,bS 4 0] (.seq (aa [I 7 1,aV 8 .lss 7 1] (aT 8 (aa [bS 4 (-1)] .ret) .skip)) (.seq (aa [aE 9 0 1 2,av 10 1 9,aV 11 .neq 10 4] (aT 11 (.seq (aa [aE 12 3 1 2,av 13 1 12,ca 14 13,aV 15 .neq 14 0] (aT 15 (aa [bS 4 (-1)] .ret) .skip)) (.seq (aa [aE 16 0 1 2,av 17 1 16] (.block 0 (aa [aV 19 .eql 17 0,I 18 19] (aT 18 (aa [aE 20 1 1 2,av 21 1 20,aV 22 .neq 21 0,I 23 22,aq 23 false (aE 24 2 1 2),aq 23 false (av 25 1 24),xZ 23 false 26 (.bin .neq false (.t 25) (.c (.str []))),cW 27 23 26] (aT 27 (aa [bS 4 (-1)] .ret) .skip)) (aa [aV 29 .eql 17 1,I 28 29] (aT 28 (aa [aE 30 1 1 2,av 31 1 30,aV 32 .lss 31 0,I 33 32,aq 33 false (aE 34 1 1 2),aq 33 false (av 35 1 34),aq 33 false (aV 36 .gtr 35 100000),cW 37 33 36,I 38 37,aq 38 false (aE 39 2 1 2),aq 38 false (av 40 1 39),xZ 38 false 41 (.bin .neq false (.t 40) (.c (.str []))),cW 42 38 41] (aT 42 (aa [bS 4 (-1)] .ret) .skip)) (aa [aV 44 .eql 17 2,I 43 44] (aT 43 (aa [aE 45 1 1 2,av 46 1 45,aV 47 .neq 46 0,I 48 47,aq 48 false (aE 49 2 1 2),aq 48 false (av 50 1 49),aq 48 false (cB 51 128 50),aq 48 false (cj 52 51),cW 53 48 52] (aT 53 (aa [bS 4 (-1)] .ret) .skip)) (aa [aV 55 .eql 17 3,I 54 55] (aT 54 (aa [aE 56 1 1 2,av 57 1 56,aV 58 .lss 57 (-1000000000),I 59 58,aq 59 false (aE 60 1 1 2),aq 59 false (av 61 1 60),aq 59 false (aV 62 .gtr 61 1000000000),cW 63 59 62,I 64 63,aq 64 false (aE 65 2 1 2),aq 64 false (av 66 1 65),xZ 64 false 67 (.bin .neq false (.t 66) (.c (.str []))),cW 68 64 67] (aT 68 (aa [bS 4 (-1)] .ret) .skip)) (aa [bS 4 (-1)] .ret))))))))))) (aa [bS 4 1] .ret))) .skip)) (.seq (aa [aE 69 1 1 2,av 70 1 69,aV 71 .neq 70 0,I 72 71,aq 72 false (aE 73 2 1 2),aq 72 false (av 74 1 73),xZ 72 false 75 (.bin .neq false (.t 74) (.c (.str []))),cW 76 72 75,I 77 76,aq 77 false (aE 78 3 1 2),aq 77 false (av 79 1 78),aq 77 false (ca 80 79),aq 77 false (aV 81 .neq 80 2),cW 82 77 81] (aT 82 (aa [bS 4 (-1)] .ret) .skip)) (aa [aE 83 3 1 2,av 84 1 83,jb 85 4 84 0,aY 86 4 85,I 87 1,aV 88 .sub 87 1,b2 89 194 86 88,I 5 89] (.seq (aa [I 90 5,aV 91 .lss 90 0] (aT 91 (aa [bS 4 (-1)] .ret) .skip)) (aa [aE 92 3 1 2,av 93 1 92,jb 94 4 93 1,aY 95 4 94,I 96 1,aV 97 .sub 96 1,I 98 5,bk 99 .sub 97 98,b2 100 194 95 99,I 6 100] (.seq (aa [I 101 6,aV 102 .lss 101 0] (aT 102 (aa [bS 4 (-1)] .ret) .skip)) (aa [I 103 5,b5 104 (.bin .add false (gd 1) (.t 103)),I 105 6,bk 106 .add 104 105,I 4 106] .ret)))))))))
@[simp] def Im:List bO:=[.tmp 4]
def Kc:C:=(aa [cC 1 0,c1 2 dH] (.seq (aa [aE 3 0 1 1,av 4 1 3,aV 5 .neq 4 4] (aT 5 (aa [aE 6 0 1 1,av 7 1 6,aE 8 1 1 1,av 9 1 8,aE 10 2 1 1,av 11 1 10,iq 12 dH [(0,1,(.t 7)),(1,1,(.t 9)),(2,1,(.t 11))],bB 4 2 12] .ret) .skip)) (.seq (.drawn true 25 [aE 13 3 1 1,av 14 1 13,jb 15 4 14 0,aY 16 4 15,cB 17 200 16,aE 18 3 1 1,av 19 1 18,jb 20 4 19 1,aY 21 4 20,cB 22 200 21,eI 23 4 32 [.t 17,.t 22],iq 24 dH [(0,1,(gd 4)),(3,1,(.t 23))],bB 4 2 24]) .ret)))
@[simp] def anR:List bO:=[.cell 2 true 4]
def Sf:C:=(aa [bS 4 0] (aa [I 8 0,bS 5 0,I 6 8] (.seq (.block 0 (.loop (.seq (aa [I 9 5,I 10 6,bk 11 .lss 9 10] (aT 11 .skip (.exit 0))) (.block 1 (aa [I 12 5,I 13 6,bk 14 .add 12 13,b5 15 (.conv .u64 (.t 14)),b5 16 (.bin .shr false (.t 15) (.c (.int .u64 1))),b5 17 (.conv .i64 (.t 16)),I 7 17] (aa [I 18 1,I 19 7,hd 20 18 [.t 19],cj 21 20] (aT 21 (.region [I 22 7,aV 23 .add 22 1,I 5 23]) (.region [I 24 7,I 6 24])))))))) (aa [I 25 5,I 4 25] .ret))))
@[simp] def YJ:List bO:=[.tmp 4]
def Rx:C:=(aa [a8 4 false] (.seq (.drawn true 12 [av 5 1 1,I 6 0,cf 7 5 5 6,aE 8 0 1 7,av 9 1 8,av 10 1 2,bk 11 .geq 9 10,I 4 11]) .ret))
@[simp] def Yy:List bO:=[.tmp 4]
def RE:C:=(aa [cC 2 0,cC 3 1,c1 4 dH] (aa [aY 5 4 2,aY 6 4 3,eI 7 4 32 [.t 5,.t 6],iq 8 dH [(0,1,(gd 4)),(3,1,(.t 7))],bB 4 4 8] .ret))
@[simp] def YC:List bO:=[.cell 4 true 4]
def RC:C:=(aa [bS 4 0] (.seq (aa [I 5 0,I 6 1,bk 7 .lss 5 6] (aT 7 (aa [bS 4 (-1)] .ret) .skip)) (.seq (aa [I 8 0,I 9 1,bk 10 .gtr 8 9] (aT 10 (aa [bS 4 1] .ret) .skip)) (aa [bS 4 0] .ret))))
@[simp] def YB:List bO:=[.tmp 4]
def wA:C:=(aa [cC 2 0,bS 4 0] (.seq (aa [aE 6 0 1 2,av 7 1 6] (.block 0 (aa [aV 9 .eql 7 1,I 8 9] (aT 8 (aa [I 10 1,aE 11 1 1 2,av 12 1 11,hd 13 10 [.t 12],b5 14 (.min2 (.t 13) (gd 5001)),I 4 14] .ret) (aa [aV 16 .eql 7 4,I 15 16] (aT 15 (aa [aE 17 3 1 2,av 18 1 17,jb 19 4 18 0,aY 20 4 19,I 21 1,b2 22 239 20 21,I 5 22] (.seq (aa [I 23 5,aV 24 .gtr 23 5000] (aT 24 (aa [I 25 5,I 4 25] .ret) .skip)) (aa [I 26 5,b5 27 (.bin .add false (gd 1) (.t 26)),aE 28 3 1 2,av 29 1 28,jb 30 4 29 1,aY 31 4 30,I 32 1,b2 33 239 31 32,bk 34 .add 27 33,b5 35 (.min2 (.t 34) (gd 5001)),I 4 35] .ret))) .skip)))))) (aa [bS 4 1] .ret)))
@[simp] def vU:List bO:=[.tmp 4]
def RI:C:=(aa [bS 3 0] (.seq (aa [av 7 1 1,I 8 0,hd 9 7 [.t 8],I 6 9,cr 10 0 6,cr 11 1 6,c1 4 dH,bB 4 4 10,I 5 11] (aa [I 12 5] (aT 12 (aa [aY 13 4 4,dn 14 194 [.t 13,(gd 5000)],I 3 14] .ret) .skip))) (aa [bS 3 1] .ret)))
@[simp] def YE:List bO:=[.tmp 3]
def bG:List (Nat×dN):=[
 (3,⟨1,8,.int .i64,.int .i64 0⟩),
 (9,⟨1,16,.str,.str []⟩),
 (23,⟨1,24,.slice 61,.slice 5 .nil []⟩),
 (30,⟨1,24,.slice 32,.slice 4 .nil []⟩),
 (32,⟨4,56,.struct [(0,3),(1,3),(2,9),(3,30)],.agg [.int .i64 0,.int .i64 0,.str [],.slice 4 .nil []]⟩),
 (61,⟨5,64,.struct [(0,3),(1,32)],.agg [.int .i64 0,.int .i64 0,.int .i64 0,.str [],.slice 4 .nil []]⟩),
 (112,⟨1,24,.slice 3,.slice 1 .nil []⟩),
 (154,⟨1,8,.map 3 4,.junk⟩),
 (163,⟨1,8,.int .u64,.int .u64 0⟩),
 (184,⟨1,8,.other,.junk⟩)]
theorem mixed:al.follows .mixedOrders=true:=by kernel_rfl
theorem bc{bG:List (Nat×dN)}(aJ:fY al bG=true){f:FuncId}{fn:Func}(aK:al.funcs[f]? =some fn){c:C}{fx:List bO}{n:Nat}(ef:bZ bG c fx n fn=true){args:List aj}{r:aj}(he:eA args->c8 al [] c (bq fx r) ⟨kH 0 args,[],[],0,[]⟩)(au:args.length<=n:=by simp)(aO:aB (fun _=>e8) r:=by simp[aB]):bC al f args r:=bC.mk mixed aJ aK ef au aO he
theorem gj:fY al bG=true:=by kernel_rfl
theorem XN:bZ bG Kg anV 1 Tryz.f68=true:=by kernel_rfl
theorem TX:al.funcs[(68:Nat)]? =some Tryz.f68:=Tryz.func68
theorem am3:bZ bG SP aoE 1 Tryz.f91=true:=by kernel_rfl
theorem af2:al.funcs[(91:Nat)]? =some Tryz.f91:=Tryz.func91
theorem alV:bZ bG RF YD 2 Tryz.f95=true:=by kernel_rfl
theorem aeV:al.funcs[(95:Nat)]? =some Tryz.f95:=Tryz.func95
theorem alw:bZ bG Rg Ih 1 Tryz.f100=true:=by kernel_rfl
theorem aew:al.funcs[(100:Nat)]? =some Tryz.f100:=Tryz.func100
theorem alK:bZ bG Ru Yv 2 Tryz.f108=true:=by kernel_rfl
theorem aeK:al.funcs[(108:Nat)]? =some Tryz.f108:=Tryz.func108
theorem am0:bZ bG SM YT 2 Tryz.f114=true:=by kernel_rfl
theorem afZ:al.funcs[(114:Nat)]? =some Tryz.f114:=Tryz.func114
theorem alu:bZ bG Re Ym 1 Tryz.f117=true:=by kernel_rfl
theorem aeu:al.funcs[(117:Nat)]? =some Tryz.f117:=Tryz.func117
theorem alj:bZ bG Q4 Ig 1 Tryz.f128=true:=by kernel_rfl
theorem ael:al.funcs[(128:Nat)]? =some Tryz.f128:=Tryz.func128
theorem vN:bZ bG tw uk 2 Tryz.f129=true:=by kernel_rfl
theorem u9:al.funcs[(129:Nat)]? =some Tryz.f129:=Tryz.func129
theorem alM:bZ bG Rw Yx 2 Tryz.f134=true:=by kernel_rfl
theorem aeM:al.funcs[(134:Nat)]? =some Tryz.f134:=Tryz.func134
theorem BN:bZ bG yg zv 2 Tryz.f153=true:=by kernel_rfl
theorem AA:al.funcs[(153:Nat)]? =some Tryz.f153:=Tryz.func153
theorem NQ:bZ bG FW Io 2 Tryz.f170=true:=by kernel_rfl
theorem K1:al.funcs[(170:Nat)]? =some Tryz.f170:=Tryz.func170
theorem alX:bZ bG RH Oo 2 Tryz.f181=true:=by kernel_rfl
theorem aeX:al.funcs[(181:Nat)]? =some Tryz.f181:=Tryz.func181
theorem alW:bZ bG RG On 2 Tryz.f182=true:=by kernel_rfl
theorem aeW:al.funcs[(182:Nat)]? =some Tryz.f182:=Tryz.func182
theorem al2:bZ bG RM YH 1 Tryz.f189=true:=by kernel_rfl
theorem ae2:al.funcs[(189:Nat)]? =some Tryz.f189:=Tryz.func189
theorem alQ:bZ bG RA Im 2 Tryz.f194=true:=by kernel_rfl
theorem aeQ:al.funcs[(194:Nat)]? =some Tryz.f194:=Tryz.func194
theorem XJ:bZ bG Kc anR 1 Tryz.f200=true:=by kernel_rfl
theorem TT:al.funcs[(200:Nat)]? =some Tryz.f200:=Tryz.func200
theorem amu:bZ bG Sf YJ 2 Tryz.f211=true:=by kernel_rfl
theorem aft:al.funcs[(211:Nat)]? =some Tryz.f211:=Tryz.func211
theorem alN:bZ bG Rx Yy 3 Tryz.f212=true:=by kernel_rfl
theorem aeN:al.funcs[(212:Nat)]? =some Tryz.f212:=Tryz.func212
theorem alU:bZ bG RE YC 2 Tryz.f225=true:=by kernel_rfl
theorem aeU:al.funcs[(225:Nat)]? =some Tryz.f225:=Tryz.func225
theorem alS:bZ bG RC YB 2 Tryz.f232=true:=by kernel_rfl
theorem aeS:al.funcs[(232:Nat)]? =some Tryz.f232:=Tryz.func232
theorem zp:bZ bG wA vU 2 Tryz.f239=true:=by kernel_rfl
theorem yo:al.funcs[(239:Nat)]? =some Tryz.f239:=Tryz.func239
theorem alY:bZ bG RI YE 2 Tryz.f240=true:=by kernel_rfl
theorem aeY:al.funcs[(240:Nat)]? =some Tryz.f240:=Tryz.func240
def ajx(s:List dw)(k:Nat)(st:bu):Prop:=∃i:Nat,1<=i/\i<=s.length/\k=s.length-i/\((s.drop 1).all nb=(s.drop i).all nb)/\st=⟨[(0,.str s),(3,.int .i64 i)],[],[],0,[]⟩
theorem uC(s:List dw):bC al 128 [.str s] (.bool (iX s)):=by
 refine bC.mk mixed gj ael alj Ψ d6 fun af=>?_;unfold Q4;simp;(with_reducible repeat' first|((first|refine bU (fun h=>?_) fun h=>?_|refine bY (fun h=>?_) fun h=>?_|refine bX (fun h=>?_) fun h=>?_)<;>try simp at h)|refine ai ?_|simp);case refine_1.refine_1.refine_1.refine_2=>
  have aiy:iX s=(s.drop 1).all nb:=by simp[iX,low];omega
  rw[aiy];refine tD (ajx s) (s.length-1) _ ⟨Ψ,by simp[hc],by simp[pH],Ψ⟩ ⟨1,Ω,Ω,rfl,rfl,rfl⟩ ?_;rintro k st ⟨i,la,fO,ad,k8,rfl⟩ p9 cR;rw[k8];simp;refine bU (fun bE=>?_) (fun vo=>?_)
  ·simp at bE;have aR:s.drop i=s[i]?.getD 0::s.drop (i+1):=by rw[lR bE];simp[bE]
   simp;(with_reducible repeat' first|((first|refine bU (fun h=>?_) fun h=>?_|refine bY (fun h=>?_) fun h=>?_|refine bX (fun h=>?_) fun h=>?_)<;>try simp at h)|refine ai ?_|simp);all_goals first
    |(simp[bq,Ig,aX,aZ,aW,aR,nb,low];omega)
    |(simp only[Fs];refine⟨s.length-(i+1),_,Ω,⟨Ψ,by simp[hc],by simp[pH],Ψ⟩,i+1,Ω,Ω,rfl,?_,rfl⟩;rw[k8,aR];simp[nb,low];omega)
  ·simp at vo;have:s.drop i=[]:=by simp;omega
   simp[bq,Ig,aX,aZ,aW,this]
 all_goals simp[bq,Ig,aX,aZ,aW,iX,low]
 all_goals omega
theorem aaF(m:Nat):∀(t:bL),t.sz<=m->∀(room:Int),0<=room/\room<=10000->bC al 194 [enc t,.int .i64 room] (.int .i64 (fH t room)):=by
 induction m with
 |zero=>intro t aJ;cases t;simp[bL.sz]at aJ
 |succ m bR=>
 rintro⟨k,n,s,args⟩ aJ room sC;refine bc gj aeQ alQ fun aM=>?_;unfold RA;simp[bL.kind,bL.num,bL.name,bL.args];(with_reducible repeat' first|((first|refine bU (fun h=>?_) fun h=>?_|refine bY (fun h=>?_) fun h=>?_|refine bX (fun h=>?_) fun h=>?_)<;>try simp at h)|refine ai ?_|simp);all_goals try refine cV.val Ψ (uC _) ?_
 all_goals try simp
 (with_reducible repeat' first|((first|refine bU (fun h=>?_) fun h=>?_|refine bY (fun h=>?_) fun h=>?_|refine bX (fun h=>?_) fun h=>?_)<;>try simp at h)|refine ai ?_|simp);all_goals try simp[bq,Im,aX,aZ,aW]
 case succ.refine_2.refine_2.refine_1.refine_1.refine_2=>
  rename_i br J U ar;match args,h with
  |[a,b],_=>
  simp[bL.sz,bL.szL]at aJ;subst J U ar;simp;(with_reducible repeat' first|((first|refine bU (fun h=>?_) fun h=>?_|refine bY (fun h=>?_) fun h=>?_|refine bX (fun h=>?_) fun h=>?_)<;>try simp at h)|refine ai ?_|simp);refine cV.val Ψ (bR a Ω (room-1) Ω) ?_;simp;have bD:=NF a (room-1);have nL:=Ei a (room-1);(with_reducible repeat' first|((first|refine bU (fun h=>?_) fun h=>?_|refine bY (fun h=>?_) fun h=>?_|refine bX (fun h=>?_) fun h=>?_)<;>try simp at h)|refine ai ?_|simp)
  ·simp[bq,Im,aX,aZ,aW];rw[ND];simp;omega
  ·refine cV.val Ψ (bR b Ω (room-1-fH a (room-1)) Ω) ?_;simp;have af:=NF b (room-1-fH a (room-1));have gb:=Ei b (room-1-fH a (room-1));(with_reducible repeat' first|((first|refine bU (fun h=>?_) fun h=>?_|refine bY (fun h=>?_) fun h=>?_|refine bX (fun h=>?_) fun h=>?_)<;>try simp at h)|refine ai ?_|simp);all_goals simp[bq,Im,aX,aZ,aW]
   all_goals rw[ND];simp;omega
 all_goals rw[ND]
 all_goals simp_all[lI]
 all_goals first|omega|(split<;>simp at h⊢)
theorem Jh(t:bL):bC al 117 [enc t] (.bool t.fits):=by refine bc gj aeu alu fun aM=>?_;unfold Re;simp;refine cV.val Ψ (aaF t.sz t (fc _) 5000 Ω) ?_;simp;simp[bq,Ym,aX,aZ,aW];simp[bL.fits]
theorem aqx(t:T):bC al 117 [t.e] (.bool t.fit):=by have:=Jh t.tm;rwa[r5,bL.fits_T]at this
theorem Jq(a b:T):bC al 225 [a.e,b.e] (T.pair a b).e:=by refine bc gj aeU alU fun aM=>?_;unfold RE;simp;(with_reducible repeat' first|((first|refine bU (fun h=>?_) fun h=>?_|refine bY (fun h=>?_) fun h=>?_|refine bX (fun h=>?_) fun h=>?_)<;>try simp at h)|refine ai ?_|simp);all_goals try simp[bq,YC,aX,aZ,aW]
theorem Jk(a b:T):bC al 114 [a.e,b.e] (T.pair a b).e:=by refine bc gj afZ am0 fun aM=>?_;unfold SM;simp;(with_reducible repeat' first|((first|refine bU (fun h=>?_) fun h=>?_|refine bY (fun h=>?_) fun h=>?_|refine bX (fun h=>?_) fun h=>?_)<;>try simp at h)|refine ai ?_|simp);all_goals try simp[bq,YT,aX,aZ,aW]
theorem uD(t:T):bC al 200 [t.e] t.e:=by
 induction t with
 |pair a b dG dK=>refine bc gj TT XJ fun aM=>?_;unfold Kc;exact bQ
 |_=>refine bc gj TT XJ fun aM=>?_;unfold Kc;exact bQ
theorem oT(a b:Int):bC al 232 [.int .i64 a,.int .i64 b] (.int .i64 (eN a b)):=by
 refine bc gj aeS alS fun aM=>?_;unfold RC;simp;((with_reducible repeat' first|refine ai ?_|simp|((first|apply bU|apply bY|apply bX)<;>intro h<;>try simp at h))<;>(try exact cz));all_goals simp[bq,YB,aX,aZ,aW]
 all_goals simp[eN]
 all_goals omega
theorem Cr(a:T):∀b:T,bC al 170 [a.e,b.e] (.int .i64 (eK a b)):=by
 induction a with
 |pair bH a2 Hd He=>
  intro b;cases b with
  |pair bV b7=>
   refine bc gj K1 NQ fun aM=>?_;unfold FW;simp;((with_reducible repeat' first|refine ai ?_|refine az (Hd _) ?_|refine aA (Hd _) ?_|refine az (He _) ?_|refine aA (He _) ?_|refine az (oT _ _) ?_|refine aA (oT _ _) ?_|simp|((first|apply bU|apply bY|apply bX)<;>intro h<;>try simp at h))<;>(try exact cz));all_goals simp[bq,Io,aX,aZ,aW]
   all_goals simp_all[eK]
  |_=>
   refine bc gj K1 NQ fun aM=>?_;unfold FW;simp;(with_reducible repeat' first|refine ai ?_|refine az (oT _ _) ?_|refine aA (oT _ _) ?_|simp);all_goals simp[bq,Io,aX,aZ,aW]
   all_goals simp_all[eK]
 |_=>
  intro b;cases b<;>
  (refine bc gj K1 NQ fun aM=>?_;unfold FW
   simp
   (with_reducible repeat' first|((first|apply bU|apply bY|apply bX)<;>intro h<;>try simp at h)|refine ai ?_|refine az (oT _ _) ?_|refine aA (oT _ _) ?_|simp)
   all_goals simp[bq,Io,aX,aZ,aW]
   all_goals simp_all[eK,k0])
theorem qU(a b:T):bC al 108 [a.e,b.e] (.bool (decide (a=b))):=by
 refine bc gj aeK alK fun aM=>?_;unfold Ru;simp;(with_reducible repeat' first|refine ai ?_|refine az (Cr _ _) ?_|refine aA (Cr _ _) ?_|simp);all_goals simp[bq,Yv,aX,aZ,aW]
 have:=rD a b;by_cases h:eK a b=0<;>simp_all
open Classical in
def ajC(l:List c3)(k:Nat)(st:bu):Prop:=∃i:Nat,i<=l.length/\k=l.length-i/\(∀j,j<i->BK l j)/\st=⟨[(0,.slice 5 .no (l.map c3.e)),(8,.slice 5 .no (l.map c3.e)),(9,.int .i64 l.length),(10,.int .i64 i)],[],[],0,[]⟩
open Classical in
theorem aqz(l:List c3):bC al 100 [.slice 5 .no (l.map c3.e)] (.bool (decide (Aa l))):=by
 refine bc gj aew alw fun aM=>?_;unfold Rg;simp;(with_reducible repeat' first|((first|apply bU|apply bY|apply bX)<;>intro h<;>try simp at h)|refine ai ?_|simp)
 ·simp[bq,Ih,aX,aZ,aW];intro cn;have:=cn.1;omega
 ·refine tD (ajC l) l.length _ ⟨Ψ,by simp[hc],by simp[pH],Ψ⟩ ⟨0,Ω,Ω,Ψ,rfl⟩ ?_;rintro k st ⟨i,hi,ad,k8,rfl⟩ p9 cR;simp;refine bU (fun bE=>?_) (fun vo=>?_)
  ·simp at bE;obtain⟨b,af⟩:∃b,l[i]? =some b:=⟨_,b6 bE⟩;obtain⟨c,aw⟩:∃c,l[i-1]? =some c:=⟨_,b6 Ω⟩;clear p9 cR;simp[af,aw];((with_reducible repeat' first|refine ai ?_|refine az (Jh _) ?_|refine aA (Jh _) ?_|simp[aw]|((first|apply bU|apply bY|apply bX)<;>intro h<;>try simp at h))<;>(try exact cz));all_goals first
    |(simp[bq,Ih,aX,aZ,aW];intro cn;have J:=cn.2 i bE b af;have U:=J.2.1 c;have ar:=J.2.2;first|omega|(have:=U Ω aw;omega)|(rw[ar]at h;cases h)|simp_all)
    |(simp only[Fs];refine⟨l.length-(i+1),_,Ω,⟨Ψ,by simp[hc],by simp[pH],Ψ⟩,i+1,Ω,rfl,fun j ae=>?_,rfl⟩
      by_cases e:j=i
      ·subst e;intro b4 gb;rw[af]at gb;cases gb;refine⟨Ω,fun cw br hT=>?_,by assumption⟩;rw[aw]at hT;cases hT;omega
      ·exact k8 j Ω)
  ·simp at vo;simp[bq,Ih,aX,aZ,aW];exact⟨Ω,fun j ae=>k8 j Ω⟩
def mK(p:Nat->Bool)(i j:Nat):Nat:=if i<j then(if p ((i+j)/2)then mK p i ((i+j)/2)else mK p ((i+j)/2+1) j)else i
termination_by j-i
def ajA(s:cL)(n g:Nat)(di:List aj)(p:Nat->Bool)(k:Nat)(st:bu):Prop:=∃i j:Nat,i<=j/\j<=n/\k=j-i/\mK p i j=mK p 0 n/\st=⟨[(1,.func g di),(5,.int .i64 i),(6,.int .i64 j)],s.b,s.e,0,c2 s⟩
theorem agH(s:cL)(ag:dW s)(n g:Nat)(ax:n<=1000000)(di:List aj)(aw:aC (inObs s) di)(cF:c6 di=di)(p:Nat->Bool)(aK:∀i:Nat,i<n->bI al g (.int .i64 i::di) s fun r ah=>r= .bool (p i)/\ah=s):
  bI al 211 [.int .i64 n,.func g di] s fun r ah=>r= .int .i64 (mK p 0 n)/\ah=s:=by
 refine bI.mk mixed gj aft amu Ψ ag.obj fun aM cR=>?_;unfold Sf;simp;refine tD (ajA s n g di p) n _ (jj.ob ag (by simp[aw]) aN aN) ⟨0,n,Ω,Ω,rfl,rfl,rfl⟩ ?_;rintro k st ⟨i,j,mA,ae,ad,Mn,rfl⟩ p9 cR;clear p9 cR;simp;refine bU (fun bE=>?_) (fun vo=>?_)
 ·simp at bE;have hw:hI.wrap ((i:Int)+j)=i+j:=by simp[ti,oU,th];omega
  obtain⟨m,hm⟩:∃m,m=(i+j)/2:=⟨_,rfl⟩;have aR:Int.fdiv ((i:Int)+j) 2=(m:Int):=by rw[Int.fdiv_eq_ediv_of_nonneg _ Ω];omega
  have pz:IntKind.i64.wrap (m:Int)=m:=by rw[pN];omega
  have LH:hI.bits=64:=rfl;simp[hw,cF,LH,aR,pz];refine⟨by unfold tV;omega,?_⟩;refine cV.ob (aK m Ω) ag aN aN (by simp[aw]) ?_;rintro r ah ⟨rfl,rfl⟩;refine⟨Same.refl _,?_⟩;simp[gW];(with_reducible repeat' first|((first|apply bU|apply bY|apply bX)<;>intro h<;>try simp at h)|refine ai ?_|simp)
  ·simp only[Fs];refine⟨j-(m+1),_,Ω,jj.ob ag (by simp[aw]) aN aN,m+1,j,Ω,Ω,rfl,?_,rfl⟩;rw[<-Mn];conv=>rhs;unfold mK
   simp[bE,<-hm,h]
  ·simp only[Fs];refine⟨m-i,_,Ω,jj.ob ag (by simp[aw]) aN aN,i,m,Ω,Ω,rfl,?_,rfl⟩;rw[<-Mn];conv=>rhs;unfold mK
   simp[bE,<-hm,h]
 ·simp at vo;have:mK p 0 n=i:=by rw[<-Mn];unfold mK;rw[if_neg Ω]
  rw[this];simp;refine cH.at s (.inl rfl) ag (Same.refl s) aN aN ?_;simp[cN,YJ,aX,aZ,aW]
def nI(l:List ao)(v:Int):Int:=
 let i:=mK (fun i=>match l[i]? with|some b=>decide (v<=b.v)|none=>false) 0 l.length
 match l[i]? with|some b=>if b.v=v then i else-1|none=> -1
theorem agO(l:List ao)(v:Int)(i:Nat)(b:ao)(af:l[i]? =some b):bI al 212 [.int .i64 i,.ptr (.obj 101) 0,.ptr (.obj 102) 0] ⟨[(.obj 101,[.slice 5 .no (l.map ao.e)]),(.obj 102,[.int .i64 v])],[]⟩ fun r ah=>r= .bool (decide (v<=b.v))/\ah=⟨[(.obj 101,[.slice 5 .no (l.map ao.e)]),(.obj 102,[.int .i64 v])],[]⟩:=by have ag:dW ⟨[(.obj 101,[.slice 5 .no (l.map ao.e)]),(.obj 102,[.int .i64 v])],[]⟩:=(dW.of ⟨by intro m;simp[Pv.look],by intro m;simp[Pv.look]⟩ d8 d8);have bE:i<l.length:=(eV.1 af).1;refine bI.mk mixed gj aeN alN Ψ ag.obj fun aM cR=>?_;unfold Rx;simp[af];(with_reducible repeat' first|refine ai ?_|simp);refine cH.at _ (.inl rfl) ag (Same.refl _) aN aN ?_;simp[cN,Yy,aX,aZ,aW]
theorem uE(l:List ao)(v:Int)(au:l.length<=1000000):bC al 134 [.slice 5 .no (l.map ao.e),.int .i64 v] (.int .i64 (nI l v)):=by
 refine bc gj aeM alM fun aM=>?_;unfold Rw;simp;have ag:dW ⟨[(.obj 101,[.slice 5 .no (l.map ao.e)]),(.obj 102,[.int .i64 v])],[]⟩:=(dW.of ⟨by intro m;simp[Pv.look],by intro m;simp[Pv.look]⟩ d8 d8);refine cV.ob (agH ⟨[(.obj 101,[.slice 5 .no (l.map ao.e)]),(.obj 102,[.int .i64 v])],[]⟩ ag l.length 212 au [.ptr (.obj 101) 0,.ptr (.obj 102) 0] (by simp[inObs]) Ψ (fun i=>match l[i]? with|some b=>decide (v<=b.v)|none=>false) fun i hi=>?_) ag aN aN (by simp[inObs]) ?_
 ·obtain⟨b,af⟩:∃b,l[i]? =some b:=⟨_,b6 hi⟩;simp only[af];exact agO l v i b af
 rintro r ah ⟨rfl,rfl⟩;refine⟨Same.refl _,?_⟩;unfold nI;generalize mK _ 0 l.length=i;cases af:l[i]? with
 |none=>
  have bE:¬i<l.length:=by simpa using af
  simp[cl,bE];exact bQ
 |some b=>
  have bE:i<l.length:=(eV.1 af).1;simp[cl,af,bE];((with_reducible repeat' first|refine ai ?_|simp[af]|((first|apply bU|apply bY|apply bX)<;>intro h<;>try simp at h))<;>(try exact cz));all_goals simp[bq,Yx,aX,aZ,aW]
  all_goals simp_all
def sW(l:List ao)(v:Int):Option T:=if nI l v<0 then none else(l[(nI l v).toNat]?).map (·.t)
theorem Ud(l:List ao)(v:Int):nI l v<l.length/\ -1<=nI l v:=by
 unfold nI;simp only;split
 ·rename_i b af;have:=(eV.1 af).1;split<;>omega
 ·omega
theorem Uw(l:List ao)(v:Int)(au:l.length<=1000000)(o:Option T)(ay:o=sW l v):bI al 182 [.int .i64 v,.ptr (.obj 201) 0] ⟨[(.obj 201,[.slice 5 .no (l.map ao.e)])],[]⟩ fun r ah=>r= .tuple [(o.getD .nil).e,.bool o.isSome]/\ah=⟨[(.obj 201,[.slice 5 .no (l.map ao.e)])],[]⟩:=by
 have ag:dW ⟨[(.obj 201,[.slice 5 .no (l.map ao.e)])],[]⟩:=(dW.of ⟨by intro m;simp[Pv.look],by intro m;simp[Pv.look]⟩ d8 d8);have bE:=(Ud l v).1;unfold sW at ay;refine bI.mk mixed gj aeW alW Ψ ag.obj fun aM cR=>?_;unfold RG;simp;(with_reducible repeat' first|((first|apply bU|apply bY|apply bX)<;>intro h<;>try simp at h)|refine ai ?_|refine az (uE l v au) ?_|refine aA (uE l v au) ?_|simp)
 ·obtain⟨b,af⟩:∃b,l[(nI l v).toNat]? =some b:=⟨_,b6 Ω⟩;have ia:o=some b.t:=by rw[ay,if_neg Ω,af];rfl
  simp[af];(with_reducible repeat' first|((first|apply bU|apply bY|apply bX)<;>intro h<;>try simp at h)|refine ai ?_|simp[af]);refine cH.at _ (.inl rfl) ag (Same.refl _) aN aN ?_;simp[cN,On,aX,aZ,aW];simp[ia]
 ·have ia:o=none:=by rw[ay,if_pos h]
  refine cH.at _ (.inl rfl) ag (Same.refl _) aN aN ?_;simp[cN,On,aX,aZ,aW];simp[ia]
theorem ag8(s:cL)(ag:dW s)(g:Nat)(di:List aj)(aw:aC (inObs s) di)(cF:c6 di=di)(f:Int->Int)(Dr:∀v,-1<=f v)(t:T)(aK:∀v,t.occ v=true->bI al g (.int .i64 v::di) s fun r ah=>r= .int .i64 (f v)/\ah=s):
  bI al 239 [t.e,.func g di] s fun r ah=>r= .int .i64 (lM f t)/\ah=s:=by
 have ax:∀m,Pv.look (.loc m) s.b=none:=ag.obj.1;have hu:∀m cs,cA (.loc m) cs s.b=s.b++[(.loc m,cs)]:=fun m cs=>kg (ax m);have ay:∀m,aI.loc m∉c2 s:=j9 ag.obj;induction t with
 |pair a b dG dK=>
  have att:=I0 f Dr a;have atw:=I0 f Dr b;refine bI.mk mixed gj yo zp Ψ ag.obj fun aM cR=>?_;unfold wA;simp[hu,ay,cK,ax,cF];(with_reducible repeat' first|refine ai ?_|simp[hu,ay,cK,ax]);refine cV.ob (dG fun v aF=>aK v (by simp[T.occ,aF])) ag aN aN (by simp[aw]) ?_;rintro r ah ⟨rfl,rfl⟩;refine⟨Same.refl _,?_⟩;simp[gW,im,cl,ax];(with_reducible repeat' first|((first|apply bU|apply bY|apply bX)<;>intro h<;>try simp at h)|refine ai ?_|simp[hu,ay,cK,ax])
  ·refine cH.at ah (.inl rfl) ag (Same.refl _) aN aN ?_;simp[cN,vU,aX,aZ,aW];simp[lM];omega
  ·rw[cF];refine cV.ob (dK fun v aF=>aK v (by simp[T.occ,aF])) ag aN aN (by simp[aw]) ?_;rintro r s2 ⟨rfl,rfl⟩;refine⟨Same.refl _,?_⟩;simp[gW,im,cl,ax];(with_reducible repeat' first|((first|apply bU|apply bY|apply bX)<;>intro h<;>try simp at h)|refine ai ?_|simp[hu,ay,cK,ax]);refine cH.at s2 (.inl rfl) ag (Same.refl _) aN aN ?_;simp[cN,vU,aX,aZ,aW];simp[lM];omega
 |var n=>refine bI.mk mixed gj yo zp Ψ ag.obj fun aM cR=>?_;unfold wA;simp[hu,ay,cK,ax,cF];(with_reducible repeat' first|refine ai ?_|simp[hu,ay,cK,ax]);refine cV.ob (aK n (by simp[T.occ])) ag aN aN (by simp[aw]) ?_;rintro r ah ⟨rfl,rfl⟩;refine⟨Same.refl _,?_⟩;simp[gW,im,cl,ax];refine cH.at ah (.inl rfl) ag (Same.refl _) aN aN ?_;simp[cN,vU,aX,aZ,aW];simp[lM]
 |_=>refine bI.mk mixed gj yo zp Ψ ag.obj fun aM cR=>?_;unfold wA;simp[hu,ay,cK,ax,cF];(with_reducible repeat' first|refine ai ?_|simp[hu,ay,cK,ax]);refine cH.at s (.inl rfl) ag (Same.refl _) aN aN ?_;simp[cN,vU,aX,aZ,aW];simp[lM]
theorem Ut(s:cL)(ag:dW s)(g:Nat)(di:List aj)(aw:aC (inObs s) di)(cF:c6 di=di)(f:Int->Option T)(t:T)(aK:∀v,t.occ v=true->bI al g (.int .i64 v::di) s fun r ah=>r= .tuple [((f v).getD .nil).e,.bool (f v).isSome]/\ah=s):
  bI al 153 [t.e,.func g di] s fun r ah=>r=(t.sub f).e/\ah=s:=by
 have ax:∀m,Pv.look (.loc m) s.b=none:=ag.obj.1;have cM:∀m,Pv.look (.loc m) s.e=none:=ag.obj.2;have hu:∀m cs,cA (.loc m) cs s.b=s.b++[(.loc m,cs)]:=fun m cs=>kg (ax m);have ay:∀m,aI.loc m∉c2 s:=j9 ag.obj;have kD:∀m p r,cA (.loc m) p (s.b++r)=s.b++cA (.loc m) p r:=fun m p r=>Co (ax m);induction t with
 |pair a b dG dK=>refine bI.mk mixed gj AA BN Ψ ag.obj fun aM cR=>?_;unfold yg;simp[hu,ay,cK,ax,cM,cF,kD];(with_reducible repeat' first|refine ai ?_|simp[hu,ay,cK,ax,cM,kD]);refine hJ.ob (dG fun v aF=>aK v (by simp[T.occ,aF])) ag ag (Same.refl _) aN aN (by simp[aw]) ?_;simp[gW,im,cl,ax,cF];refine hJ.ob (dK fun v aF=>aK v (by simp[T.occ,aF])) ag ag (Same.refl _) aN aN (by simp[aw]) ?_;simp[gW,im,cl,ax,cF];(with_reducible repeat' first|refine ai ?_|refine az (Jq _ _) ?_|refine aA (Jq _ _) ?_|simp);refine cH.at s (.inl rfl) ag (Same.refl _) aN aN ?_;simp[cN,zv,aX,aZ,aW,cK,ax];simp[T.sub]
 |var n=>
  refine bI.mk mixed gj AA BN Ψ ag.obj fun aM cR=>?_;unfold yg;simp[hu,ay,cK,ax,cF,kD];(with_reducible repeat' first|refine ai ?_|simp[hu,ay,cK,ax,kD]);refine cV.ob (aK n (by simp[T.occ])) ag aN aN (by simp[aw]) ?_;rintro r ah ⟨rfl,rfl⟩;refine⟨Same.refl _,?_⟩;simp[gW,im,cl,ax,hu,ay,cK];(with_reducible repeat' first|((first|apply bU|apply bY|apply bX)<;>intro h<;>try simp at h)|refine ai ?_|refine az (uD _) ?_|refine aA (uD _) ?_|simp[hu,ay,cK,ax,kD]);all_goals refine cH.at ah (.inl rfl) ag (Same.refl _) aN aN ?_
  all_goals simp[cN,zv,aX,aZ,aW,cK,ax]
  all_goals cases rk:f n<;>simp_all[T.sub]
 |_=>refine bI.mk mixed gj AA BN Ψ ag.obj fun aM cR=>?_;unfold yg;simp[hu,ay,cK,ax,cF,kD];(with_reducible repeat' first|((first|apply bU|apply bY|apply bX)<;>intro h<;>try simp at h)|refine ai ?_|simp[hu,ay,cK,ax,kD]);refine cH.at s (.inl rfl) ag (Same.refl _) aN aN ?_;simp[cN,zv,aX,aZ,aW,cK,ax];simp[T.sub]
def o3(l:List ao):cL:=⟨[(.obj 201,[.slice 5 .no (l.map ao.e)])],[]⟩
def rW(l:List ao):cL:=⟨[(.obj 201,[.slice 5 .no (l.map ao.e)]),(.obj 202,[.func 182 [.ptr (.obj 201) 0]])],[]⟩
theorem CB(l:List ao):dW (o3 l):=by unfold o3;exact(dW.of ⟨by intro m;simp[Pv.look],by intro m;simp[Pv.look]⟩ d8 d8)
theorem JB(l:List ao):dW (rW l):=by unfold rW;exact(dW.of ⟨by intro m;simp[Pv.look],by intro m;simp[Pv.look]⟩ d8 d8)
def vc(l:List ao)(v:Int):Int:=match sW l v with|some x=>fH x.tm 5000|none=>1
theorem agx(l:List ao)(v:Int): -1<=vc l v:=by
 unfold vc;split
 ·rename_i x _;rcases Ei x.tm 5000 with h|h<;>omega
 ·omega
theorem aaG(t:T):bC al 194 [t.e,.int .i64 5000] (.int .i64 (fH t.tm 5000)):=by have:=aaF t.tm.sz t.tm (fc _) 5000 Ω;rwa[r5]at this
theorem ag5(l:List ao)(v:Int)(au:l.length<=1000000):bI al 240 [.int .i64 v,.ptr (.obj 202) 0] (rW l) fun r ah=>r= .int .i64 (vc l v)/\ah=rW l:=by
 have ag:=JB l;unfold rW at ag⊢;refine bI.mk mixed gj aeY alY Ψ ag.obj fun aM cR=>?_;unfold RI;simp;refine cV.ob (Uw l v au _ rfl) (CB l) aN aN (by simp[inObs]) ?_;rintro r ah ⟨rfl,rfl⟩;refine⟨Same.refl _,?_⟩;simp[cl];(with_reducible repeat' first|((first|apply bU|apply bY|apply bX)<;>intro h<;>try simp at h)|refine ai ?_|refine az (aaG _) ?_|refine aA (aaG _) ?_|simp);all_goals refine cH.at _ (.inl rfl) ag (Same.refl _) aN aN ?_
 all_goals simp[cN,YE,aX,aZ,aW]
 all_goals unfold vc
 all_goals cases bF:sW l v<;>simp_all
def EC(l:List ao)(t:T):T:=t.sub (sW l)
def ui(l:List ao)(t:T):Bool:=decide (lM (vc l) t<=5000)
theorem ag4(l:List ao)(t:T)(au:l.length<=1000000):bI al 181 [t.e,.func 182 [.ptr (.obj 201) 0]] (o3 l) fun r ah=>r= .tuple [(if ui l t then EC l t else .nil).e,.bool (ui l t)]/\ah=o3 l:=by
 have ag:=CB l;unfold o3 at ag⊢;refine bI.mk mixed gj aeX alX Ψ ag.obj fun aM cR=>?_;unfold RH;simp;refine cV.ob (ag8 (rW l) (JB l) 240 [.ptr (.obj 202) 0] (by simp[inObs,rW]) Ψ (vc l) (agx l) t fun v aF=>ag5 l v au) (JB l) (by unfold rW;exact aN) (by unfold rW;exact aN) (by simp[inObs,rW]) ?_;rintro r ah ⟨rfl,rfl⟩;refine⟨Same.refl _,?_⟩;unfold rW;simp[cl];(with_reducible repeat' first|((first|apply bU|apply bY|apply bX)<;>intro h<;>try simp at h)|refine ai ?_|simp)
 ·refine cH.at _ (.inl rfl) ag (Same.refl _) aN aN ?_;simp[cN,Oo,aX,aZ,aW];have:ui l t=false:=by simp[ui];omega
  simp[this]
 ·refine cV.ob (Ut (o3 l) (CB l) 182 [.ptr (.obj 201) 0] (by simp[inObs,o3]) Ψ (sW l) t fun v aF=>Uw l v au _ rfl) (CB l) (by unfold o3;exact aN) (by unfold o3;exact aN) (by simp[inObs,o3]) ?_;rintro r ah ⟨rfl,rfl⟩;refine⟨Same.refl _,?_⟩;unfold o3;simp[cl];refine cH.at _ (.inl rfl) ag (Same.refl _) aN aN ?_;simp[cN,Oo,aX,aZ,aW];have:ui l t=true:=by simp[ui];omega
  simp[this,EC]
theorem aq9(l:List ao)(t:T)(au:l.length<=1000000):bC al 95 [.slice 5 .no (l.map ao.e),t.e] (.tuple [(if ui l t then EC l t else .nil).e,.bool (ui l t)]):=by refine bc gj aeV alV fun aM=>?_;unfold RF;simp;refine cV.ob (ag4 l t au) (CB l) (by unfold o3;exact aN) (by unfold o3;exact aN) (by simp[inObs,o3]) ?_;rintro r ah ⟨rfl,rfl⟩;refine⟨Same.refl _,?_⟩;unfold o3;simp[cl];simp[bq,YD,aX,aZ,aW]
theorem Pb(p:Nat->Bool)(n:Nat)(hm:∀k bJ,k<=bJ->bJ<n->p k=true->p bJ=true):∀(m i j:Nat),j-i<=m->i<=j->j<=n->(∀k,k<i->p k=false)->(∀k,j<=k->k<n->p k=true)->
  (i<=mK p i j/\mK p i j<=j)/\(∀k,k<mK p i j->p k=false)/\(∀k,mK p i j<=k->k<n->p k=true)
 |m,i,j,aR,mA,ae,J,U=>by
  rw[mK];split
  ·rename_i bE;obtain⟨m,rfl⟩:∃ha,m=ha+1:=⟨m-1,Ω⟩;split
   ·rename_i bF;have:=Pb p n hm m i ((i+j)/2) Ω Ω Ω J (fun k ad GU=>hm _ k ad GU bF);exact⟨⟨this.1.1,Ω⟩,this.2⟩
   ·rename_i bF;have:=Pb p n hm m ((i+j)/2+1) j Ω Ω ae (fun k ad=>by
     by_cases oD:p k=true
     ·exact absurd (hm k ((i+j)/2) Ω Ω oD) bF
     ·simpa using oD) U
    exact⟨⟨Ω,this.1.2⟩,this.2⟩
  ·obtain rfl:i=j:=Ω
   exact⟨⟨fc _,fc _⟩,J,U⟩
theorem N9{l:List ao}(ag:hg l)(v:Int):sW l v=cS l v:=by
 have bE:∀(i j:Nat) (x y:ao),i<j->l[i]? =some x->l[j]? =some y->x.v<y.v:=by intro i j x y mA ab aL;obtain⟨J,rfl⟩:=eV.1 ab;obtain⟨U,rfl⟩:=eV.1 aL;exact qo.1 ag i j J U mA
 obtain⟨p,bF⟩:∃p:Nat->Bool,p=(fun i=>match l[i]? with|some b=>decide (v<=b.v)|none=>false):=⟨_,rfl⟩;have G3:∀i b,l[i]? =some b->p i=decide (v<=b.v):=fun i b af=>by rw[bF];simp[af]
 have hm:∀k bJ,k<=bJ->bJ<l.length->p k=true->p bJ=true:=by
  intro k bJ ad oD h;have ak:l[k]? =some l[k]:=b6 Ω;have aD:l[bJ]? =some l[bJ]:=b6 oD;rw[G3 k _ ak]at h;rw[G3 bJ _ aD];simp only[eW]at h⊢;rcases Nat.lt_or_eq_of_le ad with wW|rfl
  ·have:=bE k bJ _ _ wW ak aD;omega
  ·exact h
 obtain⟨⟨_,hle⟩,hbef,haft⟩:=Pb p l.length hm l.length 0 l.length Ω Ω (fc _) (fun k ad=>Ω) (fun k J U=>Ω);have LS:nI l v=(match l[mK p 0 l.length]? with|some b=>if b.v=v then((mK p 0 l.length:Nat):Int)else-1|none=> -1):=by rw[bF];rfl
 generalize mK p 0 l.length=r at hle hbef haft LS;by_cases hex:∃(k:Nat) (b:ao),l[k]? =some b/\b.v=v
 ·obtain⟨k,b,af,UU⟩:=hex;have iV:k<l.length:=(eV.1 af).1;have gI:r<=k:=by
   rcases Nat.lt_or_ge k r with h|h
   ·have:=hbef k h;rw[G3 k b af]at this;simp at this;omega
   ·exact h
  have aO:l[r]? =some l[r]:=b6 Ω;have Ba:=haft r (fc _) Ω;rw[G3 r _ aO]at Ba;simp only[eW]at Ba;have aiR:r=k:=by
   rcases Nat.lt_or_eq_of_le gI with h|h
   ·have:=bE r k _ _ h aO af;omega
   ·exact h
  subst aiR;have LW:nI l v=r:=by rw[LS,af];simp[UU]
  have J:sW l v=some b.t:=by unfold sW;rw[LW,if_neg Ω];simp[af]
  have U:l.find? (fun b=>b.v==v)=some b:=by
   rw[List.find?_eq_some_iff_getElem];refine⟨by simp[UU],r,iV,?_,fun j ae=>?_⟩
   ·rw[b6 iV]at af;simpa using af
   ·have:=bE j r l[j] b ae (b6 Ω) af;simp;omega
  rw[J];simp[cS,U]
 ·have U:l.find? (fun b=>b.v==v)=none:=by rw[List.find?_eq_none];intro b af;obtain⟨k,ad,rfl⟩:=List.mem_iff_getElem.1 af;simp;intro e;exact hex ⟨k,l[k],b6 ad,e⟩
  have LW:nI l v= -1:=by
   rw[LS];split
   ·rename_i b af;rw[if_neg (fun e=>hex ⟨r,b,af,e⟩)]
   ·rfl
  unfold sW;rw[LW];simp[cS,U]
theorem Ue{l:List ao}(ag:hg l)(v:Int):nI l v<0↔cS l v=none:=by
 rw[<-N9 ag v];unfold sW;have J:=Ud l v;by_cases h:nI l v<0
 ·simp[h]
 ·simp only[h,if_false,false_iff];intro e;rw[Option.map_eq_none_iff,List.getElem?_eq_none_iff]at e;omega
def yr(s:List ao):Prop:= ∀b∈s,b.t.fit=true
theorem agw{l:List ao}(ag:hg l)(h:yr l)(v:Int):vc l v=(bp l v).size:=by
 unfold vc bp;rw[N9 ag];cases af:cS l v with
 |none=>simp[T.size]
 |some x=>have:=h _ (j2 af);simp only[T.fit,cy,eW]at this;simp only[jM];rw[HU,if_pos ⟨this.1,Ω⟩]
theorem apk{l:List ao}(ag:hg l)(h:yr l)(t:T):lM (vc l) t=cut (t.ap (bp l)).size:=by
 induction t with
 |var n=>simp only[lM,agw ag h,T.ap];rfl
 |pair a b dG dK=>have af:=T.size_pos (b.ap (bp l));simp only[lM,dG,dK,T.ap,T.size];unfold cut;(repeat' split)<;>omega
 |_=>simp[lM,T.ap,T.size,cut]
theorem anv{l:List ao}(ag:hg l)(h:yr l)(t:T):ui l t=decide ((t.ap (bp l)).size<=5000):=by unfold ui;rw[apk ag h];unfold cut;split<;>simp<;>omega
theorem anw{l:List ao}(ag:hg l)(t:T):EC l t=t.ap (bp l):=by unfold EC;rw[ZJ];exact uU fun v _=>by rw[N9 ag];rfl
theorem Cs(l:List ao)(t:T)(au:l.length<=1000000)(ag:hg l)(h:yr l):bC al 95 [.slice 5 .no (l.map ao.e),t.e] (.tuple [(if(t.ap (bp l)).size<=5000 then t.ap (bp l)else .nil).e,.bool (decide ((t.ap (bp l)).size<=5000))]):=by have:=aq9 l t au;rw[anv ag h,anw ag]at this;simpa using this
def FY:C:=(aa [cC 2 0,cC 3 1,a8 4 false] (aa [bS 5 1048576] (aa [aY 10 6 2,I 11 5,b2 12 21 10 11,I 5 12] (.seq (aa [I 13 5,aV 14 .lss 13 0] (aT 14 (aa [a8 4 true] .ret) .skip)) (aa [aY 15 6 3,I 16 5,b2 17 21 15 16,I 5 17] (.seq (aa [I 18 5,aV 19 .lss 18 0] (aT 19 (aa [a8 4 true] .ret) .skip)) (.seq (.drawn true 45 [aY 20 6 2,cB 21 23 20,aY 22 6 3,cB 23 23 22,b2 24 37 21 23,I 6 24]) (aa [aY 25 6 2,cB 26 23 25,cP (.alloc 7 none (.agg [.slice 4 .nil [],.int .i64 0,.slice 5 .nil [],.slice 1 .nil [],.slice 2 .nil [],.slice 2 .nil []])),bB 6 7 26] (aa [aY 27 6 3,cB 28 23 27,cP (.alloc 8 none (.agg [.slice 4 .nil [],.int .i64 0,.slice 5 .nil [],.slice 1 .nil [],.slice 2 .nil [],.slice 2 .nil []])),bB 6 8 28] (aa [aY 29 6 7,aY 30 6 8,b2 31 38 29 30,I 9 31] (.seq (aa [I 32 9,I 33 6,b5 34 (.beq true none (.t 32) (.t 33))] (aT 34 (aa [a8 4 false] .ret) .skip)) (.seq (.seq (.drawn true 45 [aY 35 6 7,aY 36 6 2,cB 37 23 36,b2 38 25 35 37,cj 39 38]) (aT 39 (aa [a8 4 false] .ret) .skip)) (.seq (.seq (.drawn true 45 [aY 40 6 8,aY 41 6 3,cB 42 23 41,b2 43 25 40 42,cj 44 43]) (aT 44 (aa [a8 4 false] .ret) .skip)) (aa [a8 4 true] .ret))))))))))))))
@[simp] def Ot:List bO:=[.tmp 4]
def Al:C:=(aa [cC 2 0,cC 3 1,a8 4 false] (.seq (aa [aY 23 6 2,cB 24 22 23,cj 25 24,I 26 25,aq 26 false (aY 27 6 3),aq 26 false (cB 28 22 27),aq 26 false (cj 29 28),cW 30 26 29] (aT 30 (aa [a8 4 false] .ret) .skip)) (aa [aE 32 0 1 2,av 33 1 32,aE 34 0 1 3,av 35 1 34,b2 36 86 33 35,I 31 36,cr 37 0 31,cr 38 1 31,I 5 37,I 6 38] (.seq (aa [I 39 6,cj 40 39] (aT 40 (aa [a8 4 false] .ret) .skip)) (.seq (aa [eO 41 1 5 2,aE 42 2 1 41,av 43 1 42,ca 44 43,bS 45 0] (e0 46 45 44 (.seq (.block 1 (aa [cf 47 1 43 45,av 48 1 47,I 8 48] (aa [eO 49 1 5 3,aY 50 5 49,c1 9 gJ,bB 5 9 50] (aa [a8 10 true] (.seq (aa [I 51 8,ca 52 51,bS 53 0] (.block 2 (.loop (aa [bk 54 .lss 53 52] (.seq (aT 54 .skip (.exit 2)) (.seq (.block 3 (aa [cf 55 5 51 53,aY 56 5 55,c1 12 jF,bB 5 12 56] (aa [I 57 5,aE 58 0 1 12,av 59 1 58,cB 60 91 59,b2 61 75 57 60,c1 13 dH,bB 4 13 61] (aa [I 62 5,eO 63 1 4 12,aY 64 4 63,b2 65 75 62 64,c1 14 dH,bB 4 14 65] (aa [I 66 10,I 67 66,aq 67 true (aY 68 4 13),aq 67 true (cB 69 92 68),dL 70 67 69,I 71 70,aq 71 true (aY 72 4 14),aq 71 true (cB 73 92 72),dL 74 71 73,I 10 74] (aa [I 75 10] (aT 75 (.region [aY 77 5 9,aY 78 4 13,aY 79 4 14,dn 80 93 [.t 77,(gd 0),.t 78,.t 79,(gd 0),(.c (.str []))],I 76 80,cr 81 0 76,cr 82 1 76,bB 5 9 81,I 10 82]) .skip))))))) (.region [aV 83 .add 53 1,I 53 83]))))))) (aa [I 84 10] (aT 84 (aa [a8 4 false] .ret) .skip))))))) (.region [aV 85 .add 45 1,I 45 85])))) (.seq (aa [eO 86 1 5 2,aE 87 3 1 86,av 88 1 87,ca 89 88,bS 90 0] (.block 4 (.loop (aa [bk 91 .lss 90 89] (.seq (aT 91 .skip (.exit 4)) (.seq (.block 5 (aa [cf 92 2 88 90,aY 93 2 92,cP (.alloc 16 none (.agg [.int .i64 0,.int .i64 0])),bB 2 16 93] (.seq (.drawn true 150 [eO 95 1 5 3,aY 96 5 95,I 97 5,aE 98 0 1 16,av 99 1 98,cB 100 91 99,b2 101 75 97 100,iq 102 dH [],aE 103 1 1 16,av 104 1 103,dn 105 93 [.t 96,(gd 2),.t 101,.t 102,.t 104,(.c (.str []))],I 94 105,cr 106 0 94,cr 107 1 94,c1 17 gJ,bB 5 17 106,I 18 107]) (aa [I 108 18,cj 109 108,I 110 109,aq 110 false (aY 111 5 17),aq 110 false (eO 112 1 5 3),aq 110 false (aY 113 5 112),aq 110 false (b2 114 94 111 113),aq 110 false (cj 115 114),cW 116 110 115] (aT 116 (aa [a8 4 false] .ret) .skip))))) (.region [aV 117 .add 90 1,I 90 117]))))))) (.seq (aa [eO 118 1 5 2,aE 119 4 1 118,av 120 1 119,ca 121 120,bS 122 0] (.block 6 (.loop (aa [bk 123 .lss 122 121] (.seq (aT 123 .skip (.exit 6)) (.seq (.block 7 (aa [cf 124 2 120 122,aY 125 2 124,cP (.alloc 20 none (.agg [.int .i64 0,.str []])),bB 2 20 125] (.seq (.drawn true 150 [eO 127 1 5 3,aY 128 5 127,I 129 5,aE 130 0 1 20,av 131 1 130,cB 132 91 131,b2 133 75 129 132,iq 134 dH [],aE 135 1 1 20,av 136 1 135,dn 137 93 [.t 128,(gd 3),.t 133,.t 134,(gd 0),.t 136],I 126 137,cr 138 0 126,cr 139 1 126,c1 21 gJ,bB 5 21 138,I 22 139]) (aa [I 140 22,cj 141 140,I 142 141,aq 142 false (aY 143 5 21),aq 142 false (eO 144 1 5 3),aq 142 false (aY 145 5 144),aq 142 false (b2 146 94 143 145),aq 142 false (cj 147 146),cW 148 142 147] (aT 148 (aa [a8 4 false] .ret) .skip))))) (.region [aV 149 .add 122 1,I 122 149]))))))) (aa [a8 4 true] .ret))))))))
@[simp] def sY:List bO:=[.tmp 4]
def yf:C:=(aa [cC 2 0,cC 3 1,a8 4 false] (.seq (aa [aY 28 6 2,cB 29 24 28,cj 30 29,I 31 30,aq 31 false (aY 32 6 3),aq 31 false (cB 33 24 32),aq 31 false (cj 34 33),cW 35 31 34] (aT 35 (aa [a8 4 false] .ret) .skip)) (aa [aE 37 0 1 2,av 38 1 37,aE 39 0 1 3,av 40 1 39,b2 41 88 38 40,I 36 41,cr 42 0 36,cr 43 1 36,I 5 42,I 6 43] (.seq (aa [I 44 6,cj 45 44,I 46 45,cb 46 false 47 5,aq 46 false (b5 48 (.mlen (.t 47))),aq 46 false (aV 49 .gtr 48 400),cW 50 46 49] (aT 50 (aa [a8 4 false] .ret) .skip)) (aa [I 51 5,cB 52 89 51,I 7 52] (.seq (aa [eO 53 1 5 2,aE 54 2 1 53,av 55 1 54,ca 56 55,bS 57 0] (e0 58 57 56 (.seq (.block 1 (aa [cf 59 1 55 57,av 60 1 59,I 9 60] (aa [eO 61 1 5 3,aY 62 5 61,c1 10 gJ,bB 5 10 62] (aa [a8 11 false] (.seq (aa [I 63 9,ca 64 63,bS 65 0] (.block 2 (.loop (aa [bk 66 .lss 65 64] (.seq (aT 66 .skip (.exit 2)) (.seq (.block 3 (aa [cf 67 5 63 65,aY 68 5 67,c1 13 jF,bB 5 13 68] (aa [I 70 7,aE 71 0 1 13,av 72 1 71,cB 73 96 72,b2 74 95 70 73,I 69 74,cr 75 0 69,cr 76 1 69,c1 14 dH,bB 4 14 75,I 15 76] (aa [I 78 7,eO 79 1 4 13,aY 80 4 79,b2 81 95 78 80,I 77 81,cr 82 0 77,cr 83 1 77,c1 16 dH,bB 4 16 82,I 17 83] (aa [aY 85 5 10,aY 86 4 14,aY 87 4 16,dn 88 12 [.t 85,.t 86,.t 87],I 84 88,cr 89 0 84,cr 90 1 84,c1 18 gJ,bB 5 18 89,I 19 90] (.seq (aa [I 91 15,cj 92 91,I 93 92,cb 93 false 94 17,aq 93 false (cj 95 94),cW 96 93 95,I 97 96,cb 97 false 98 19,aq 97 false (cj 99 98),cW 100 97 99] (aT 100 (aa [a8 11 true] (.exit 2)) .skip)) (.region [aY 101 5 18,bB 5 10 101]))))))) (.region [aV 102 .add 65 1,I 65 102]))))))) (aa [I 103 11,cj 104 103] (aT 104 (aa [a8 4 false] .ret) .skip))))))) (.region [aV 105 .add 57 1,I 57 105])))) (.seq (aa [eO 106 1 5 2,aE 107 3 1 106,av 108 1 107,ca 109 108,bS 110 0] (.block 4 (.loop (aa [bk 111 .lss 110 109] (.seq (aT 111 .skip (.exit 4)) (.seq (.block 5 (aa [cf 112 2 108 110,aY 113 2 112,cP (.alloc 21 none (.agg [.int .i64 0,.int .i64 0])),bB 2 21 113] (aa [eO 115 1 5 3,aY 116 5 115,I 117 5,aE 118 0 1 21,av 119 1 118,b5 120 (.mget .i (.agg dH) false (.t 117) (.t 119)),aE 121 1 1 21,av 122 1 121,dn 123 14 [.t 116,.t 120,.t 122],I 114 123,cr 124 0 114,cr 125 1 114,c1 22 gJ,bB 5 22 124,I 23 125] (aa [I 126 23,cj 127 126,I 128 127,aq 128 false (aY 129 5 22),aq 128 false (eO 130 1 5 3),aq 128 false (aY 131 5 130),aq 128 false (b2 132 59 129 131),aq 128 false (cj 133 132),cW 134 128 133] (aT 134 (aa [a8 4 false] .ret) .skip))))) (.region [aV 135 .add 110 1,I 110 135]))))))) (.seq (aa [eO 136 1 5 2,aE 137 4 1 136,av 138 1 137,ca 139 138,bS 140 0] (.block 6 (.loop (aa [bk 141 .lss 140 139] (.seq (aT 141 .skip (.exit 6)) (.seq (.block 7 (aa [cf 142 2 138 140,aY 143 2 142,cP (.alloc 25 none (.agg [.int .i64 0,.str []])),bB 2 25 143] (aa [eO 145 1 5 3,aY 146 5 145,I 147 5,aE 148 0 1 25,av 149 1 148,b5 150 (.mget .i (.agg dH) false (.t 147) (.t 149)),aE 151 1 1 25,av 152 1 151,dn 153 16 [.t 146,.t 150,.t 152],I 144 153,cr 154 0 144,cr 155 1 144,c1 26 gJ,bB 5 26 154,I 27 155] (aa [I 156 27,cj 157 156,I 158 157,aq 158 false (aY 159 5 26),aq 158 false (eO 160 1 5 3),aq 158 false (aY 161 5 160),aq 158 false (b2 162 59 159 161),aq 158 false (cj 163 162),cW 164 158 163] (aT 164 (aa [a8 4 false] .ret) .skip))))) (.region [aV 165 .add 140 1,I 140 165]))))))) (aa [a8 4 true] .ret)))))))))
@[simp] def rF:List bO:=[.tmp 4]
def Ku:C:=(aa [er 4 5,a8 5 false] (aa [eI 9 5 61 [],I 6 9] (aa [I 10 0,ca 11 10,I 12 1,ca 13 12,bk 14 .eql 11 13,I 7 14] (.seq (.seq (.fg false 6 (.region [bS 8 0])) (.block 0 (.loop (.seq (aa [I 15 8,I 16 0,ca 17 16,bk 18 .lss 15 17,I 19 18,cb 19 true 20 7,dL 21 19 20] (aT 21 .skip (.exit 0))) (.seq (.block 1 (.drawn true 44 [I 25 0,I 26 8,cf 27 4 25 26,aY 28 4 27,I 29 1,I 30 8,cf 31 4 29 30,aY 32 4 31,I 33 6,dn 34 173 [.t 28,.t 32,.t 33],I 24 34,cr 35 0 24,cr 36 1 24,I 6 35,I 7 36])) (.region [I 22 8,aV 23 .add 22 1,I 8 23])))))) (aa [I 37 6,I 38 7,I 39 38,cb 39 true 40 6,aq 39 true (ca 41 40),aq 39 true (aV 42 .leq 41 400),dL 43 39 42,I 4 37,I 5 43] .ret)))))
@[simp] def OK:List bO:=[.tmp 4,.tmp 5]
def FV:C:=(aa [b5 4 (.mov (.c (.junk))),a8 5 false] (aa [cP (.mkmap 8 (some 867)),I 6 8] (.seq (aa [I 9 0,ca 10 9,I 11 1,ca 12 11,bk 13 .neq 10 12] (aT 13 (aa [b5 4 (.mov (.c (.junk))),a8 5 false] .ret) .skip)) (.seq (aa [I 14 0,ca 15 14,bS 16 0] (e0 17 16 15 (.seq (.block 1 (aa [I 18 16,I 7 18] (.seq (.drawn false 32 [I 19 0,I 20 7,cf 21 4 19 20,aY 22 4 21,I 23 1,I 24 7,cf 25 4 23 24,aY 26 4 25,I 27 6,dn 28 174 [.t 22,.t 26,.t 27],cj 29 28]) (aT 29 (aa [b5 4 (.mov (.c (.junk))),a8 5 false] .ret) .skip)))) (.region [aV 30 .add 16 1,I 16 30])))) (aa [I 31 6,I 4 31,a8 5 true] .ret)))))
@[simp] def Yz:List bO:=[.tmp 4,.tmp 5]
def RN:C:=(aa [er 2 5] (aa [cP (.bslm 6 (some 868) 5 61 []),I 3 6] (.seq (aa [I 7 0,cP (.range 8 none (.t 7))] (.block 0 (.loop (aa [⟨none,.next 9 (.t 8)⟩,cr 10 0 9] (.seq (aT 10 .skip (.exit 0)) (.block 1 (aa [b5 11 (.ment (.t 8)),cr 12 0 11,cr 13 1 11,c1 5 dH,I 4 12,bB 4 5 13] (.region [I 14 3,I 15 4,aY 16 4 5,iq 17 jF [(0,1,(.t 15)),(1,4,(.t 16))],eI 18 5 61 [.t 17],cP (.appm 19 none 5 61 (.t 14) (.t 18)),I 3 19])))))))) (aa [I 20 3,cB 21 175 20] (.seq (.pub 3 (.region [I 22 3,I 2 22])) .ret)))))
@[simp] def YI:List bO:=[.tmp 2]
def qv:C:=(aa [cC 3 0,cC 4 1,er 6 5,a8 7 false] (.seq (aa [aE 13 0 1 3,av 14 1 13,aV 15 .eql 14 1] (aT 15 (aa [I 17 2,aE 18 1 1 3,av 19 1 18,b2 20 161 17 19,I 16 20,cr 21 0 16,cr 22 1 16,c1 8 dH,bB 4 8 21,I 9 22] (.seq (aa [I 23 9] (aT 23 (aa [I 24 2,aY 25 4 8,aY 26 4 4,b2 27 167 25 26,I 6 24,I 7 27] .ret) .skip)) (aa [I 28 2,aE 29 1 1 3,av 30 1 29,aY 31 4 4,iq 32 jF [(0,1,(.t 30)),(1,4,(.t 31))],b2 33 234 28 32,I 6 33,a8 7 true] .ret))) .skip)) (.seq (aa [aE 34 0 1 3,av 35 1 34,aE 36 0 1 4,av 37 1 36,bk 38 .neq 35 37,I 39 38,aq 39 false (aE 40 1 1 3),aq 39 false (av 41 1 40),aq 39 false (aE 42 1 1 4),aq 39 false (av 43 1 42),aq 39 false (bk 44 .neq 41 43),cW 45 39 44,I 46 45,aq 46 false (aE 47 2 1 3),aq 46 false (av 48 1 47),aq 46 false (aE 49 2 1 4),aq 46 false (av 50 1 49),aq 46 false (bk 51 .neq 48 50),cW 52 46 51] (aT 52 (aa [er 6 5,a8 7 false] .ret) .skip)) (aa [a8 10 true] (.seq (aa [aE 53 3 1 3,av 54 1 53,ca 55 54,bS 56 0] (e0 57 56 55 (.seq (.block 1 (aa [I 58 56,cf 59 4 54 56,aY 60 4 59,c1 12 dH,I 11 58,bB 4 12 60] (.seq (.drawn true 76 [aY 62 4 12,aE 63 3 1 4,av 64 1 63,I 65 11,cf 66 4 64 65,aY 67 4 66,I 68 2,dn 69 173 [.t 62,.t 67,.t 68],I 61 69,cr 70 0 61,cr 71 1 61,I 2 70,I 10 71]) (aa [I 72 10,cj 73 72] (aT 73 (aa [er 6 5,a8 7 false] .ret) .skip))))) (.region [aV 74 .add 56 1,I 56 74])))) (aa [I 75 2,I 6 75,a8 7 true] .ret))))))
@[simp] def aoG:List bO:=[.tmp 6,.tmp 7]
def Aj:C:=(aa [cC 3 0,cC 4 1,a8 6 false] (.seq (aa [aE 9 0 1 3,av 10 1 9,aV 11 .eql 10 1] (aT 11 (.seq (aa [I 13 2,aE 14 1 1 3,av 15 1 14,b5 16 (.mget .i (.agg dH) true (.t 13) (.t 15)),I 12 16,cr 17 0 12,cr 18 1 12,c1 7 dH,bB 4 7 17,I 8 18] (aa [I 19 8] (aT 19 (aa [aY 20 4 7,aY 21 4 4,b2 22 108 20 21,I 6 22] .ret) .skip))) (aa [I 23 2,aE 24 1 1 3,av 25 1 24,aY 26 4 4,cP (.mput .i (.t 23) (.t 25) (.t 26))] (aa [a8 6 true] .ret))) .skip)) (.seq (aa [aE 27 0 1 3,av 28 1 27,aE 29 0 1 4,av 30 1 29,bk 31 .neq 28 30,I 32 31,aq 32 false (aE 33 1 1 3),aq 32 false (av 34 1 33),aq 32 false (aE 35 1 1 4),aq 32 false (av 36 1 35),aq 32 false (bk 37 .neq 34 36),cW 38 32 37,I 39 38,aq 39 false (aE 40 2 1 3),aq 39 false (av 41 1 40),aq 39 false (aE 42 2 1 4),aq 39 false (av 43 1 42),aq 39 false (bk 44 .neq 41 43),cW 45 39 44] (aT 45 (aa [a8 6 false] .ret) .skip)) (.seq (.drawn false 73 [aE 46 0 1 3,av 47 1 46,aV 48 .neq 47 4,I 49 48,aq 49 false (aE 50 3 1 3),aq 49 false (av 51 1 50),aq 49 false (jb 52 4 51 0),aq 49 false (aY 53 4 52),aq 49 false (aE 54 3 1 4),aq 49 false (av 55 1 54),aq 49 false (jb 56 4 55 0),aq 49 false (aY 57 4 56),cb 49 false 58 2,aq 49 false (dn 59 174 [.t 53,.t 57,.t 58]),cb 49 false 60 59,aq 60 true (aE 61 3 1 3),aq 60 true (av 62 1 61),aq 60 true (jb 63 4 62 1),aq 60 true (aY 64 4 63),aq 60 true (aE 65 3 1 4),aq 60 true (av 66 1 65),aq 60 true (jb 67 4 66 1),aq 60 true (aY 68 4 67),cb 60 true 69 2,aq 60 true (dn 70 174 [.t 64,.t 68,.t 69]),aq 49 false (dL 71 60 70),cW 72 49 71,I 6 72]) .ret))))
@[simp] def zw:List bO:=[.tmp 6]
def RK:C:=(aa [cP (.box 1 (some 307) (.t 0))] (.region [av 2 1 1,b5 3 (.mkif 23 (.t 2)),b5 4 (.mkf 235 [.t 1]),b2 5 126 3 4]))
@[simp] def YF:List bO:=[]
def RL:C:=(aa [a8 5 false] (.seq (.drawn true 17 [av 6 1 2,I 7 0,cf 8 5 6 7,aE 9 0 1 8,av 10 1 9,av 11 1 2,I 12 1,cf 13 5 11 12,aE 14 0 1 13,av 15 1 14,bk 16 .lss 10 15,I 5 16]) .ret))
@[simp] def YG:List bO:=[.tmp 5]
def tb:List (Nat×dN):=[
 (3,⟨1,8,.int .i64,.int .i64 0⟩),
 (4,⟨1,1,.bool,.bool false⟩),
 (9,⟨1,16,.str,.str []⟩),
 (23,⟨1,24,.slice 61,.slice 5 .nil []⟩),
 (24,⟨1,24,.slice 23,.slice 1 .nil []⟩),
 (25,⟨1,24,.slice 104,.slice 2 .nil []⟩),
 (26,⟨1,24,.slice 106,.slice 2 .nil []⟩),
 (28,⟨5,104,.struct [(0,3),(1,23),(2,24),(3,25),(4,26)],.agg [.int .i64 0,.slice 5 .nil [],.slice 1 .nil [],.slice 2 .nil [],.slice 2 .nil []]⟩),
 (30,⟨1,24,.slice 32,.slice 4 .nil []⟩),
 (32,⟨4,56,.struct [(0,3),(1,3),(2,9),(3,30)],.agg [.int .i64 0,.int .i64 0,.str [],.slice 4 .nil []]⟩),
 (49,⟨5,104,.struct [(0,3),(1,44),(2,45),(3,46),(4,47)],.agg [.int .i64 0,.slice 5 .nil [],.slice 1 .nil [],.slice 2 .nil [],.slice 2 .nil []]⟩),
 (51,⟨6,128,.struct [(0,43),(1,49)],.agg [.slice 4 .nil [],.int .i64 0,.slice 5 .nil [],.slice 1 .nil [],.slice 2 .nil [],.slice 2 .nil []]⟩),
 (55,⟨6,128,.struct [(0,30),(1,28)],.agg [.slice 4 .nil [],.int .i64 0,.slice 5 .nil [],.slice 1 .nil [],.slice 2 .nil [],.slice 2 .nil []]⟩),
 (61,⟨5,64,.struct [(0,3),(1,32)],.agg [.int .i64 0,.int .i64 0,.int .i64 0,.str [],.slice 4 .nil []]⟩),
 (104,⟨2,16,.struct [(0,3),(1,3)],.agg [.int .i64 0,.int .i64 0]⟩),
 (106,⟨2,24,.struct [(0,3),(1,9)],.agg [.int .i64 0,.str []]⟩),
 (127,⟨1,8,.map 3 32,.junk⟩)]
theorem hn:fY al tb=true:=by kernel_rfl
theorem NS:bZ tb FY Ot 2 k2=true:=by kernel_rfl
theorem K3:al.funcs[(8:Nat)]? =some k2:=Tryz.func8
theorem Eo:bZ tb Al sY 2 Tryz.f37=true:=by kernel_rfl
theorem C0:al.funcs[(37:Nat)]? =some Tryz.f37:=Tryz.func37
theorem BM:bZ tb yf rF 2 Tryz.f38=true:=by kernel_rfl
theorem Az:al.funcs[(38:Nat)]? =some Tryz.f38:=Tryz.func38
theorem XW:bZ tb Ku OK 2 Tryz.f86=true:=by kernel_rfl
theorem T6:al.funcs[(86:Nat)]? =some Tryz.f86:=Tryz.func86
theorem NP:bZ tb FV Yz 2 Tryz.f88=true:=by kernel_rfl
theorem K0:al.funcs[(88:Nat)]? =some Tryz.f88:=Tryz.func88
theorem al3:bZ tb RN YI 1 Tryz.f89=true:=by kernel_rfl
theorem ae3:al.funcs[(89:Nat)]? =some Tryz.f89:=Tryz.func89
theorem rB:bZ tb qv aoG 3 Tryz.f173=true:=by kernel_rfl
theorem rf:al.funcs[(173:Nat)]? =some Tryz.f173:=Tryz.func173
theorem Em:bZ tb Aj zw 3 Tryz.f174=true:=by kernel_rfl
theorem CY:al.funcs[(174:Nat)]? =some Tryz.f174:=Tryz.func174
theorem al0:bZ tb RK YF 1 Tryz.f175=true:=by kernel_rfl
theorem ae0:al.funcs[(175:Nat)]? =some Tryz.f175:=Tryz.func175
theorem al1:bZ tb RL YG 3 Tryz.f235=true:=by kernel_rfl
theorem ae1:al.funcs[(235:Nat)]? =some Tryz.f235:=Tryz.func235
def lj(l:List (Int×T)):List aj:=jG (l.map fun x=>(x.1,x.2.e))
def jL(k:Int):List (Int×T)->Option T
 |[]=>none
 |(i,v)::r=>if k=i then some v else jL k r
theorem JU(k:Int):∀l:List (Int×T),uS k (l.map fun x=>(x.1,x.2.e))=(jL k l).map T.e
 |[]=>rfl
 |(i,v)::r=>by
  simp only[gM,uS,jL];split
  ·rfl
  ·exact JU k r
theorem QF(k:Int)(v:aj):∀l:List (Int×T),jL k l=none->ot k v (l.map fun x=>(x.1,x.2.e))=none
 |[],_=>rfl
 |(i,w)::r,h=>by
  simp only[jL]at h;split at h
  ·cases h
  ·rename_i cM;simp[ot,cM,QF k v r h]
theorem akS{k:Int}{t:T}{l:List (Int×T)}(h:jL k l=none):oK .i (.int .i64 k) t.e (lj l)=some (lj (l++[(k,t)])):=by simp[lj,CI,QF k _ l h]
theorem Xk{f:aI->Option (List aj)}{m:aI}{l:List (Int×T)}{z:aj}{k:Int}(hm:f m=some (lj l)):nn f .i z true (.gmap m) (.int .i64 k)=some (True,.tuple [((jL k l).map T.e).getD z,.bool (jL k l).isSome]):=by rw[Nq f m _ z true k hm,JU];cases jL k l<;>rfl
@[simp]theorem auw:lj []=jG []:=rfl
@[simp]theorem au8(m:aI)(l:List (Int×T)):xF m (lj l)=some (bP l.length [] m):=by simp[lj]
@[simp]theorem au0(l:List (Int×T)):gr (lj l)=false:=rfl
@[simp]theorem Xt(f:aI->Option (List aj))(m:aI)(l:List (Int×T))(hm:f m=some (lj l)):sS f (.gmap m)=some (True,.int .i64 l.length):=by have:=akQ f m _ hm;simpa using this
theorem akv(f:aI->Option (List aj))(eY mk:aI)(n:Nat)(seen:List Nat)(b:Nat)(l:List (Int×T))(x:Int×T)(hi:f eY=some (bP n (seen++[b]) mk))(hm:f mk=some (lj l))(ax:n=l.length)(ab:l[b]? =some x):oJ f (.ptr eY 0)=some (True,.tuple [.int .i64 x.1,x.2.e]):=by rw[Nl f eY mk n seen b _ hi hm (by simpa using ax)];simp[ab]
theorem adp{st:bu}{d:Nat}{K:bu->Prop}{eY mk:aI}{n:Nat}{seen:List Nat}{l:List (Int×T)}(hi:Pv.look eY st.b=some (bP n seen mk))(hm:Pv.look mk st.b=some (lj l))(ax:n=l.length)
  (J:(∀b,b<l.length->b∈seen)->K {st with t:=Pv.put d (.tuple [.bool false]) st.t}) (U:∀b x,l[b]? =some x->b∉seen->K {st with t:=Pv.put d (.tuple [.bool true,.int .i64 x.1,x.2.e]) st.t,b:=cA eY (bP n (seen++[b]) mk) st.b}):
  r9 st d (.ptr eY 0) K:=by
 refine KP hi hm (by simpa using ax) (fun h=>J fun b af=>h b Ω) (fun b k v af ag=>?_);simp only[tk,hf]at af;obtain⟨x,ak,aD⟩:=af;simp only[jO]at aD;obtain⟨rfl,rfl⟩:=aD;exact U b x ak ag
def fW:T->T->List (Int×T)->Bool×List (Int×T)
 | .var n,t,m=>match jL n m with
  |some x=>(decide (x=t),m)
  |none=>(true,m++[(n,t)])
 | .pair a b,.pair c d,m=>if(fW a c m).1 then fW b d (fW a c m).2 else(false,(fW a c m).2)
 |p,t,m=>(decide (p=t),m)
theorem gi(S:aI->Prop)(l:List (Int×T)):aC S (lj l):=by
 have:∀l:List (Int×T),aC S (j3 (l.map fun x=>(x.1,x.2.e))):=by
  intro l;induction l with
  |nil=>simp[j3,aC]
  |cons x r bR=>simp[j3,aC,bR]
 simp[lj,jG,aC,this,aB]
def gh(n:Nat)(l:List (Int×T)):cL:=⟨[(.obj n,lj l)],[]⟩
theorem mu(n:Nat)(l:List (Int×T)):dW (gh n l):=by unfold gh;exact dW.of ⟨by intro m;simp[Pv.look],by intro m;simp[Pv.look]⟩ (by simp[gi]) Ψ
theorem wo(n:Nat)(l a1:List (Int×T)):Same (gh n l) (gh n a1):=by refine⟨fun k=>?_,fun k=>rfl⟩;simp only[gh,Pv.look];split<;>rfl
theorem Uv(K:Nat)(p:T):∀(t:T) (m:List (Int×T)),bI al 174 [p.e,t.e,.gmap (.obj K)] (gh K m) fun r ah=>r= .bool (fW p t m).1/\ah=gh K (fW p t m).2:=by
 induction p with
 |var n=>
  intro t m;have ag:=mu K m;cases au:jL n m with
  |some x=>unfold gh at ag⊢;refine bI.mk mixed hn CY Em Ψ ag.obj fun aM cR=>?_;unfold Aj;simp[Xk (m:= .obj K) (l:=m),au];(with_reducible repeat' first|((first|apply bU|apply bY|apply bX)<;>intro h<;>try simp at h)|refine ai ?_|refine az (qU _ _) ?_|refine aA (qU _ _) ?_|simp);refine cH.at _ (.inl rfl) ag (Same.refl _) aN aN ?_;simp[cN,zw,aX,aZ,aW];simp[fW,au]
  |none=>have ep:=mu K (m++[(n,t)]);have dr:=wo K m (m++[(n,t)]);unfold gh at ag ep dr⊢;refine bI.mk mixed hn CY Em Ψ ag.obj fun aM cR=>?_;unfold Aj;simp[Xk (m:= .obj K) (l:=m),au,akS au];(with_reducible repeat' first|((first|apply bU|apply bY|apply bX)<;>intro h<;>try simp at h)|refine ai ?_|simp);refine cH.at _ (.inl rfl) ep dr aN aN ?_;simp[cN,zw,aX,aZ,aW];simp[fW,au]
 |pair a b dG dK=>
  intro t m;have ag:=mu K m;cases t with
  |pair c d=>
   unfold gh at ag⊢;refine bI.mk mixed hn CY Em Ψ ag.obj fun aM cR=>?_;unfold Aj;simp;(with_reducible repeat' first|((first|apply bU|apply bY|apply bX)<;>intro h<;>try simp at h)|refine ai ?_|simp);refine hJ.ob (dG c m) (mu K m) (mu K _) (wo K _ _) (by unfold gh;exact aN) (by unfold gh;exact aN) (by simp[inObs,gh]) ?_;unfold gh;simp[cl];(with_reducible repeat' first|((first|apply bU|apply bY|apply bX)<;>intro h<;>try simp at h)|refine ai ?_|simp)
   ·refine hJ.ob (dK d (fW a c m).2) (mu K _) (mu K _) (wo K _ _) (by unfold gh;exact aN) (by unfold gh;exact aN) (by simp[inObs,gh]) ?_;unfold gh;simp[cl];have ep:=mu K (fW b d (fW a c m).2).2;have dr:=wo K m (fW b d (fW a c m).2).2;unfold gh at ep dr;refine cH.at _ (.inl rfl) ep dr aN aN ?_;simp[cN,zw,aX,aZ,aW];simp[fW,h]
   ·have ep:=mu K (fW a c m).2;have dr:=wo K m (fW a c m).2;unfold gh at ep dr;refine cH.at _ (.inl rfl) ep dr aN aN ?_;simp[cN,zw,aX,aZ,aW];simp[fW,h]
  |_=>unfold gh at ag⊢;refine bI.mk mixed hn CY Em Ψ ag.obj fun aM cR=>?_;unfold Aj;simp;(with_reducible repeat' first|((first|apply bU|apply bY|apply bX)<;>intro h<;>try simp at h)|refine ai ?_|simp);refine cH.at _ (.inl rfl) ag (Same.refl _) aN aN ?_;simp[cN,zw,aX,aZ,aW];simp[fW]
 |_=>
  intro t m;have ag:=mu K m;unfold gh at ag⊢;cases t<;>
  (refine bI.mk mixed hn CY Em Ψ ag.obj fun aM cR=>?_;unfold Aj
   simp
   (with_reducible repeat' first|((first|apply bU|apply bY|apply bX)<;>intro h<;>try simp at h)|refine ai ?_|simp)
   all_goals refine cH.at _ (.inl rfl) ag (Same.refl _) aN aN ?_
   all_goals simp[cN,zw,aX,aZ,aW]
   all_goals simp_all[fW])
end
end Go.Proofs.YtohaalphocaebaaGreat
namespace Go.Proofs
section
open Go.Shelf
def Tryz.lays191_ren:Go.Shelf.Ren:=⟨fun|191=>242|189=>272|125=>209|257=>283|128=>258|129=>259|294=>286|295=>287|296=>288|297=>289|298=>290|299=>291|216=>292|300=>293|301=>294|328=>296|329=>297|330=>298|331=>299|332=>300|215=>301|343=>302|n=>n,fun|28=>112|0=>0|3=>3|46=>163|51=>254|53=>256|4=>4|183=>277|182=>276|131=>246|5=>5|9=>9|218=>282|222=>269|228=>285|229=>273|n=>n,fun|n=>n⟩
theorem Tryz.lays191:Go.Proofs.Lays.n191 al Tryz.lays191_ren:={
 mixed:=by kernel_rfl
 f125:=Tryz.func209.trans (fh some co)
 f128:=Tryz.func258.trans (fh some co)
 f129:=Tryz.func259.trans (fh some co)
 f189:=Tryz.func272.trans (fh some co)
 f191:=Tryz.func242.trans (fh some co)
 f215:=Tryz.func301.trans (fh some co)
 f216:=Tryz.func292.trans (fh some co)
 f257:=Tryz.func283.trans (fh some co)
 f294:=Tryz.func286.trans (fh some co)
 f295:=Tryz.func287.trans (fh some co)
 f296:=Tryz.func288.trans (fh some co)
 f297:=Tryz.func289.trans (fh some co)
 f298:=Tryz.func290.trans (fh some co)
 f299:=Tryz.func291.trans (fh some co)
 f300:=Tryz.func293.trans (fh some co)
 f301:=Tryz.func294.trans (fh some co)
 f328:=Tryz.func296.trans (fh some co)
 f329:=Tryz.func297.trans (fh some co)
 f330:=Tryz.func298.trans (fh some co)
 f331:=Tryz.func299.trans (fh some co)
 f332:=Tryz.func300.trans (fh some co)
 f343:=Tryz.func302.trans (fh some co)
 t0:=Tryz.underlying0
 a0:=Tryz.isAgg0
 z0:=Tryz.sizeOf0
 v0:=Tryz.zeroValue0
 t3:=Tryz.underlying3
 a3:=Tryz.isAgg3
 z3:=Tryz.sizeOf3
 v3:=Tryz.zeroValue3
 t4:=Tryz.underlying4
 a4:=Tryz.isAgg4
 z4:=Tryz.sizeOf4
 v4:=Tryz.zeroValue4
 t5:=Tryz.underlying5
 a5:=Tryz.isAgg5
 z5:=Tryz.sizeOf5
 v5:=Tryz.zeroValue5
 t9:=Tryz.underlying9
 a9:=Tryz.isAgg9
 z9:=Tryz.sizeOf9
 v9:=Tryz.zeroValue9
 t28:=Tryz.underlying112
 a28:=Tryz.isAgg112
 z28:=Tryz.sizeOf112
 v28:=Tryz.zeroValue112
 t46:=Tryz.underlying163
 a46:=Tryz.isAgg163
 z46:=Tryz.sizeOf163
 v46:=Tryz.zeroValue163
 t51:=Tryz.underlying254
 a51:=Tryz.isAgg254
 z51:=Tryz.sizeOf254
 v51:=Tryz.zeroValue254
 t53:=Tryz.underlying256
 a53:=Tryz.isAgg256
 z53:=Tryz.sizeOf256
 v53:=Tryz.zeroValue256
 t131:=Tryz.underlying246
 a131:=Tryz.isAgg246
 z131:=Tryz.sizeOf246
 v131:=Tryz.zeroValue246
 t182:=Tryz.underlying276
 a182:=Tryz.isAgg276
 z182:=Tryz.sizeOf276
 v182:=Tryz.zeroValue276
 t183:=Tryz.underlying277
 a183:=Tryz.isAgg277
 z183:=Tryz.sizeOf277
 v183:=Tryz.zeroValue277
 t218:=Tryz.underlying282
 a218:=Tryz.isAgg282
 z218:=Tryz.sizeOf282
 v218:=Tryz.zeroValue282
 t222:=Tryz.underlying269
 a222:=Tryz.isAgg269
 z222:=Tryz.sizeOf269
 v222:=Tryz.zeroValue269
 t228:=Tryz.underlying285
 a228:=Tryz.isAgg285
 z228:=Tryz.sizeOf285
 v228:=Tryz.zeroValue285
 t229:=Tryz.underlying273
 a229:=Tryz.isAgg273
 z229:=Tryz.sizeOf273
 v229:=Tryz.zeroValue273}
end
end Go.Proofs

namespace Go.Proofs.YtohaalphocaebaaGreat
section
open Go Go.Pv
def dM(xs:List Int):List aj:=xs.map (aj.int .i64)
theorem Za{w:World}{Z:bg}:∀{xs:List Int} {us:List Value},dR w Z 1 (dM xs) us->us=xs.map (Value.int .i64)
 |[],us,h=>by simpa[dM,dR]using h
 |x::xs,us,h=>by simp only[dM,gM,dR]at h;obtain⟨u,ct,rfl,⟨J,_,_⟩,U⟩:=h;simp only[bd]at J;subst J;rw[Za U];rfl
theorem V6(w:World)(Z:bg):∀xs:List Int,dR w Z 1 (dM xs) (xs.map (Value.int .i64))
 |[]=>by simp[dM,dR]
 |x::xs=>by simp only[dM,gM,dR];exact⟨.int .i64 x,_,rfl,⟨by simp[bd],rfl,by intro c aw;simp[pP]at aw;subst aw;rfl⟩,V6 w Z xs⟩
def nC(K:Nat)(xs:List Int):cL:=⟨[],[(.obj K,⟨xs.length,3,1,some (dM xs)⟩)]⟩
theorem ua(S:aI->Prop)(xs:List Int):aC S (dM xs):=by
 induction xs with
 |nil=>simp[dM,aC]
 |cons x r bR=>simp only[dM,gM,aC,aB];exact⟨trivial,bR⟩
theorem JG(K:Nat)(xs:List Int):dW (nC K xs):=by unfold nC;refine dW.of ⟨by intro m;simp[Pv.look],by intro m;simp[Pv.look]⟩ Ψ ?_;intro x ab ys aL;simp at ab;subst ab;simp at aL;subst aL;exact ua _ xs
def rJ(xs:List Int):List Int:=xs.mergeSort fun x y=>decide (x<=y)
theorem Zz(xs:List Int):(rJ xs).length=xs.length:=List.length_mergeSort xs
theorem ahg(K:Nat)(xs:List Int)(au:xs.length<=1000000):bI al 242 [.row 1 (.obj K) xs.length] (nC K xs) fun r ah=>r= .tuple []/\ah=nC K (rJ xs):=by
 refine bI.sem (JG K xs).obj fun w Z bf lh aO=>?_;refine .inl ⟨⟨Tryz.f242,Tryz.func242,by kernel_rfl,by kernel_rfl⟩,?_⟩;have sD:=aO.slot 0;simp only[kH,Pv.get,if_true]at sD;have ld:Pv.look (.obj K) (nC K xs).e=some ⟨xs.length,3,1,some (dM xs)⟩:=by simp[nC,Pv.look]
 obtain⟨v,us,ba,bo,b3,c9⟩:=aO.good.own (.obj K) _ ld;obtain⟨dh,oL,vS⟩:=c9 _ rfl;have rq:=Za oL;subst rq;simp only[bd]at sD;obtain⟨⟨ar2,ach,wN⟩,_,n',u,ak,aD,bh⟩:=sD;rw[ba]at ak;simp only[ea,jO]at ak;obtain⟨rfl,rfl⟩:=ak;have aF:=bh rfl;have ai7:bf= #[v]:=by
  have J:bf.size=1:=by simpa using lh
  apply Array.ext (by simpa using J);intro i U ar;simp at ar;subst ar;rw[<-aF];simp[Array.getD,J]
 have cM:v≠ .slice none 0 0:=by rw[<-aF,wN];simp
 obtain⟨g,cap,rfl,_,jn,pn,ah6,Dt,Df⟩:=Lib.holds_of_ownsRow bo cM;have aw:=Any.sort_Ints Tryz.lays191 g 0 cap xs w Df jn Ω;subst ai7;refine aw.mono ?_;rintro e w' ⟨rfl,n,os,rfl⟩;have qd:=Zz xs;have l5:=Lib.ownsRow_putRow (q:=n) (k:=xs.length) (ys:=rJ xs) bo qd (fc _);rw[hY Ω]at l5;obtain⟨cX,dI,_⟩:=aO.setRowM (w':=Sort.putRow (Value.int .i64) (Sort.ahead w n) g 0 (rJ xs).toArray) ld rfl ba (bl:=g) rfl (v':= .slice (some ⟨g,0,none⟩) xs.length cap) rfl (xs':=dM (rJ xs)) (us:=(rJ xs).map (Value.int .i64)) (.inl ⟨by simp[dM,qd],rfl⟩) rfl rfl rfl
  (fun j ae=>by simp[Sort.putRow,Sort.mapBlock,Sort.ahead,Array.getElem?_modify,lv ae]) (by simp[Sort.putRow,Sort.mapBlock,Sort.ahead]) (by simpa[dM,qd]using l5) (V6 _ _ _)
 have jv:=cX.grown (w':=Sort.grow (Sort.putRow (Value.int .i64) (Sort.ahead w n) g 0 (rJ xs).toArray) os) ⟨rfl,rfl,rfl,Ψ,fun k ad _=>Sort.heap_grow_old _ _ ad⟩;refine⟨_,_,_,_,.tuple [],nC K (rJ xs),rfl,jv,by simp[bd,cY],by simp[nC,lG],?_,?_,?_,(JG K _).obj,by simp[aB,aC],rfl,rfl⟩
 ·simp[nC,lG,inObs,Pv.look]
 ·intro k cs ad;simp[nC,Pv.look]at ad
 ·intro k o ad;have hm:=uc ad;simp[nC]at hm;obtain⟨rfl,rfl⟩:=hm;refine⟨by simp[nC,Pv.look,cA,dM,qd],.inr (by simp[ad]),fun ys aL=>?_⟩;simp at aL;subst aL;exact ua _ _
def o9(l:List Int):List aj:=jG (l.map fun x=>(x,.bool true))
theorem ni(S:aI->Prop)(l:List Int):aC S (o9 l):=by
 have:∀l:List Int,aC S (j3 (l.map fun x=>(x,.bool true))):=by
  intro l;induction l with
  |nil=>simp[j3,aC]
  |cons x r bR=>simp[j3,aC,bR,aB]
 simp[o9,jG,aC,this,aB]
def pV(v:Int)(l:List Int):List Int:=if v∈l then l else l++[v]
theorem QD(k:Int):∀l:List Int,ot k (.bool true) (l.map fun x=>(x,aj.bool true))=if k∈l then some (l.map fun x=>(x,aj.bool true))else none
 |[]=>rfl
 |i::r=>by
  by_cases h:k=i
  ·simp[ot,h]
  ·by_cases U:k∈r<;>simp[ot,h,U,QD k r]
@[simp]theorem auN(k:Int)(l:List Int):oK .i (.int .i64 k) (.bool true) (o9 l)=some (o9 (pV k l)):=by
 simp only[o9,Xv,CI,QD,pV];split<;>rename_i h
 ·split at h
  ·simp at h;subst h;simp[*]
  ·cases h
 ·split at h
  ·cases h
  ·simp[*]
@[simp]theorem ar3:o9 []=jG []:=rfl
@[simp]theorem auY(l:List Int):gr (o9 l)=false:=rfl
@[simp]theorem au7(m:aI)(l:List Int):xF m (o9 l)=some (bP l.length [] m):=by simp[o9]
theorem akt(f:aI->Option (List aj))(eY mk:aI)(n:Nat)(seen:List Nat)(b:Nat)(l:List Int)(x:Int)(hi:f eY=some (bP n (seen++[b]) mk))(hm:f mk=some (o9 l))(ax:n=l.length)(ab:l[b]? =some x):oJ f (.ptr eY 0)=some (True,.tuple [.int .i64 x,.bool true]):=by rw[Nl f eY mk n seen b _ hi hm (by simpa using ax)];simp[ab]
theorem ado{st:bu}{d:Nat}{K:bu->Prop}{eY mk:aI}{n:Nat}{seen:List Nat}{l:List Int}(hi:Pv.look eY st.b=some (bP n seen mk))(hm:Pv.look mk st.b=some (o9 l))(ax:n=l.length)
  (J:(∀b,b<l.length->b∈seen)->K {st with t:=Pv.put d (.tuple [.bool false]) st.t}) (U:∀b x,l[b]? =some x->b∉seen->K {st with t:=Pv.put d (.tuple [.bool true,.int .i64 x,.bool true]) st.t,b:=cA eY (bP n (seen++[b]) mk) st.b}):
  r9 st d (.ptr eY 0) K:=by
 refine KP hi hm (by simpa using ax) (fun h=>J fun b af=>h b Ω) (fun b k v af ag=>?_);simp only[tk,hf]at af;obtain⟨x,ak,aD⟩:=af;simp only[jO]at aD;obtain⟨rfl,rfl⟩:=aD;exact U b x ak ag
def _root_.Go.Pv.T.fold{α:Type}(f:Int->α->α):T->α->α
 | .var n,a=>f n a
 | .pair x y,a=>y.fold f (x.fold f a)
 |_,a=>a
theorem Uo{α:Type}(S:α->cL)(dy:∀a,dW (S a))(dr:∀a b,Same (S a) (S b))(g:Nat)(di:List aj)(aw:∀a,aC (inObs (S a)) di)(cF:c6 di=di)(f:Int->α->α)(aK:∀v a,bI al g (.int .i64 v::di) (S a) fun r ah=>r= .tuple []/\ah=S (f v a))(t:T):
  ∀a,bI al 129 [t.e,.func g di] (S a) fun r ah=>r= .tuple []/\ah=S (t.fold f a):=by
 have ax:∀a m,Pv.look (.loc m) (S a).b=none:=fun a=>(dy a).obj.1;have hu:∀a m cs,cA (.loc m) cs (S a).b=(S a).b++[(.loc m,cs)]:=fun a m cs=>kg (ax a m);have ay:∀a m,aI.loc m∉c2 (S a):=fun a=>j9 (dy a).obj;induction t with
 |pair x y mF oH=>intro a;have ag:=dy a;refine bI.mk mixed gj u9 vN Ψ ag.obj fun aM cR=>?_;unfold tw;simp[hu,ay,cK,ax,cF];(with_reducible repeat' first|refine ai ?_|simp[hu,ay,cK,ax]);refine cV.ob (mF a) ag aN aN (by simp[aw]) ?_;rintro r ah ⟨rfl,rfl⟩;refine⟨dr _ _,?_⟩;simp[gW,im,cl,ax];(with_reducible repeat' first|refine ai ?_|simp[hu,ay,cK,ax]);rw[cF];refine cV.ob (oH (x.fold f a)) (dy (x.fold f a)) aN aN (by simp[aw]) ?_;rintro r ah ⟨rfl,rfl⟩;refine⟨dr _ _,?_⟩;simp[gW,im,cl,ax];refine cH.at (S (y.fold f (x.fold f a))) (.inr rfl) (dy _) (dr _ _) aN aN ?_;simp[cN,uk,aX,aZ,aW];simp[T.fold]
 |var n=>intro a;have ag:=dy a;refine bI.mk mixed gj u9 vN Ψ ag.obj fun aM cR=>?_;unfold tw;simp[hu,ay,cK,ax,cF];(with_reducible repeat' first|refine ai ?_|simp[hu,ay,cK,ax]);refine cV.ob (aK n a) ag aN aN (by simp[aw]) ?_;rintro r ah ⟨rfl,rfl⟩;refine⟨dr _ _,?_⟩;simp[gW,im,cl,ax,cK];refine cH.at (S (f n a)) (.inr rfl) (dy _) (dr _ _) aN aN ?_;simp[cN,uk,aX,aZ,aW];simp[T.fold]
 |_=>intro a;have ag:=dy a;refine bI.mk mixed gj u9 vN Ψ ag.obj fun aM cR=>?_;unfold tw;simp[hu,ay,cK,ax,cF];(with_reducible repeat' first|refine ai ?_|simp[hu,ay,cK,ax]);refine cH.at (S a) (.inr rfl) ag (Same.refl _) aN aN ?_;simp[cN,uk,aX,aZ,aW];simp[T.fold]
def uN(l:List Int):cL:=⟨[(.obj 304,o9 l)],[]⟩
theorem Qk(l:List Int):dW (uN l):=by unfold uN;exact dW.of ⟨by intro m;simp[Pv.look],by intro m;simp[Pv.look]⟩ (by simp[ni,aC,aB,inObs,Pv.look]) Ψ
def J8:C:=(aa [cC 1 0,a8 2 false] (.seq (.seq (.fz false 1 (.region [av 6 1 1,cB 7 100 6,cj 8 7])) (aT 8 (aa [a8 2 false] .ret) .skip)) (.seq (aa [av 9 1 1,ca 10 9,bS 11 0] (e0 12 11 10 (.seq (.block 1 (aa [cf 13 5 9 11,aY 14 5 13,c1 4 jF,bB 5 4 14] (aa [cP (.alloc 5 (some 731) (.bool false)),cP (.store 1 (.t 5) (.c (.bool true)))] (aa [eO 15 1 4 4,aY 16 4 15,b5 17 (.mkf 133 [.t 1,.t 5]),b2 18 129 16 17] (aa [av 19 1 5,cj 20 19,I 21 20,aq 21 false (eO 22 1 4 4),aq 21 false (aE 23 0 1 22),aq 21 false (av 24 1 23),aq 21 false (aV 25 .eql 24 1),cb 21 false 26 25,aq 26 true (eO 27 1 4 4),aq 26 true (aE 28 1 1 27),aq 26 true (av 29 1 28),aq 26 true (aE 30 0 1 4),aq 26 true (av 31 1 30),aq 26 true (bk 32 .geq 29 31),aq 21 false (dL 33 26 32),cW 34 21 33] (aT 34 (aa [a8 2 false] .ret) .skip)))))) (.region [aV 35 .add 11 1,I 11 35])))) (aa [a8 2 true] .ret))))
@[simp] def anK:List bO:=[.tmp 2]
def Rs:C:=(aa [er 2 5] (aa [eI 6 5 61 [],I 3 6] (.seq (aa [I 7 0,ca 8 7,bS 9 0] (e0 10 9 8 (.seq (.block 1 (aa [cf 11 5 7 9,aY 12 5 11,c1 5 jF,bB 5 5 12] (.drawn true 24 [I 13 3,aE 14 0 1 5,av 15 1 14,eO 16 1 4 5,aY 17 4 16,cB 18 200 17,iq 19 jF [(0,1,(.t 15)),(1,4,(.t 18))],eI 20 5 61 [.t 19],h6 21 5 61 13 20,I 3 21]))) (.region [aV 22 .add 9 1,I 9 22])))) (aa [I 23 3,I 2 23] .ret))))
@[simp] def anP:List bO:=[.tmp 2]
def Q5:C:=(aa [er 4 5,a8 5 false] (.seq (aa [I 8 0,cB 9 55 8,cj 10 9,I 11 10,cb 11 false 12 1,aq 11 false (cB 13 55 12),aq 11 false (cj 14 13),cW 15 11 14] (aT 15 (aa [er 4 5,a8 5 false] .ret) .skip)) (aa [I 17 1,cB 18 201 17,I 16 18,cr 19 0 16,cr 20 1 16,I 6 19,I 7 20] (aa [I 21 0,I 22 6,I 23 7,dn 24 118 [.t 21,.t 22,.t 23],cr 25 0 24,cr 26 1 24,I 4 25,I 5 26] .ret))))
@[simp] def Yj:List bO:=[.tmp 4,.tmp 5]
def Ra:C:=(aa [er 4 5] (.seq (aa [I 8 0,cB 9 55 8,cj 10 9,I 11 10,cb 11 false 12 1,aq 11 false (cB 13 55 12),aq 11 false (cj 14 13),cW 15 11 14] (aT 15 (aa [er 4 5] .ret) .skip)) (aa [eI 16 5 61 [],I 5 16] (.seq (aa [I 17 1,ca 18 17,bS 19 0] (e0 20 19 18 (.seq (.block 1 (aa [cf 21 5 17 19,aY 22 5 21,c1 7 jF,bB 5 7 22] (aa [I 23 0,aE 24 0 1 7,av 25 1 24,b2 26 134 23 25,aV 27 .lss 26 0] (aT 27 (.drawn true 39 [I 28 5,aE 29 0 1 7,av 30 1 29,eO 31 1 4 7,aY 32 4 31,cB 33 200 32,iq 34 jF [(0,1,(.t 30)),(1,4,(.t 33))],eI 35 5 61 [.t 34],h6 36 5 61 28 35,I 5 36]) .skip)))) (.region [aV 37 .add 19 1,I 19 37])))) (aa [I 38 5,I 4 38] .ret)))))
@[simp] def anI:List bO:=[.tmp 4]
def J9:C:=(aa [av 4 1 1,I 5 0,b2 6 134 4 5,aV 7 .geq 6 0] (aT 7 (.region [cP (.store 1 (.t 2) (.c (.bool false)))]) .skip))
@[simp] def Oi:List bO:=[]
def Kd:C:=(aa [a8 4 false] (.seq (aa [I 6 0,ca 7 6,I 8 1,ca 9 8,bk 10 .neq 7 9] (aT 10 (aa [a8 4 false] .ret) .skip)) (.seq (aa [I 11 0,ca 12 11,bS 13 0] (e0 14 13 12 (.seq (.block 1 (aa [I 15 13,I 5 15] (.seq (.drawn true 42 [I 16 0,I 17 5,cf 18 5 16 17,aE 19 0 1 18,av 20 1 19,I 21 1,I 22 5,cf 23 5 21 22,aE 24 0 1 23,av 25 1 24,bk 26 .neq 20 25,I 27 26,cb 27 false 28 0,cb 27 false 29 5,aq 27 false (cf 30 5 28 29),aq 27 false (eO 31 1 4 30),aq 27 false (aY 32 4 31),cb 27 false 33 1,cb 27 false 34 5,aq 27 false (cf 35 5 33 34),aq 27 false (eO 36 1 4 35),aq 27 false (aY 37 4 36),aq 27 false (b2 38 108 32 37),aq 27 false (cj 39 38),cW 40 27 39]) (aT 40 (aa [a8 4 false] .ret) .skip)))) (.region [aV 41 .add 13 1,I 13 41])))) (aa [a8 4 true] .ret))))
@[simp] def Yu:List bO:=[.tmp 4]
def Rv:C:=(aa [er 2 4,er 3 4] (aa [eI 8 4 32 [],I 4 8] (aa [eI 9 4 32 [],I 5 9] (.seq (aa [I 10 0,ca 11 10,bS 12 0] (e0 13 12 11 (.seq (.block 1 (aa [cf 14 5 10 12,aY 15 5 14,c1 7 jF,bB 5 7 15] (aa [I 16 4,aE 17 0 1 7,av 18 1 17,cB 19 96 18,eI 20 4 32 [.t 19],h6 21 4 32 16 20,I 4 21] (.region [I 22 5,eO 23 1 4 7,aY 24 4 23,eI 25 4 32 [.t 24],h6 26 4 32 22 25,I 5 26])))) (.region [aV 27 .add 12 1,I 12 27])))) (aa [I 28 4,I 29 5,I 2 28,I 3 29] .ret)))))
@[simp] def Yw:List bO:=[.tmp 2,.tmp 3]
def RB:C:=(aa [bS 4 0] (.seq (aa [bS 5 0] (.block 0 (.loop (.seq (aa [I 8 5,I 9 0,ca 10 9,bk 11 .lss 8 10,I 12 11,cb 12 true 13 5,cb 12 true 14 1,aq 12 true (ca 15 14),aq 12 true (bk 16 .lss 13 15),dL 17 12 16] (aT 17 .skip (.exit 0))) (.seq (.block 1 (.seq (.seq (.drawn true 53 [I 20 0,I 21 5,cf 22 5 20 21,aE 23 0 1 22,av 24 1 23,I 25 1,I 26 5,cf 27 5 25 26,aE 28 0 1 27,av 29 1 28,b2 30 232 24 29,I 6 30]) (aa [I 31 6,aV 32 .neq 31 0] (aT 32 (aa [I 33 6,I 4 33] .ret) .skip))) (.seq (.drawn true 53 [I 34 0,I 35 5,cf 36 5 34 35,eO 37 1 4 36,aY 38 4 37,I 39 1,I 40 5,cf 41 5 39 40,eO 42 1 4 41,aY 43 4 42,b2 44 170 38 43,I 7 44]) (aa [I 45 7,aV 46 .neq 45 0] (aT 46 (aa [I 47 7,I 4 47] .ret) .skip))))) (.region [I 18 5,aV 19 .add 18 1,I 5 19])))))) (aa [I 48 0,ca 49 48,I 50 1,ca 51 50,b2 52 232 49 51,I 4 52] .ret)))
@[simp] def ED:List bO:=[.tmp 4]
def Ry:C:=(aa [a8 4 false] (.seq (aa [I 11 0,ca 12 11,bS 13 0] (e0 14 13 12 (.seq (.block 1 (aa [cf 15 5 11 13,aY 16 5 15,c1 6 jF,bB 5 6 16] (aa [I 18 1,aE 19 0 1 6,av 20 1 19,cB 21 96 20,b2 22 95 18 21,I 17 22,cr 23 0 17,cr 24 1 17,c1 7 dH,bB 4 7 23,I 8 24] (aa [I 26 1,eO 27 1 4 6,aY 28 4 27,b2 29 95 26 28,I 25 29,cr 30 0 25,cr 31 1 25,c1 9 dH,bB 4 9 30,I 10 31] (aa [I 32 8,cj 33 32,I 34 33,cb 34 false 35 10,aq 34 false (cj 36 35),cW 37 34 36,I 38 37,aq 38 false (aY 39 4 7),aq 38 false (aY 40 4 9),aq 38 false (b2 41 108 39 40),aq 38 false (cj 42 41),cW 43 38 42] (aT 43 (aa [a8 4 false] .ret) .skip)))))) (.region [aV 44 .add 13 1,I 13 44])))) (aa [a8 4 true] .ret)))
@[simp] def Ol:List bO:=[.tmp 4]
def uA:List (Nat×dN):=[
 (3,⟨1,8,.int .i64,.int .i64 0⟩),
 (4,⟨1,1,.bool,.bool false⟩),
 (23,⟨1,24,.slice 61,.slice 5 .nil []⟩),
 (30,⟨1,24,.slice 32,.slice 4 .nil []⟩),
 (32,⟨4,56,.struct [(0,3),(1,3),(2,9),(3,30)],.agg [.int .i64 0,.int .i64 0,.str [],.slice 4 .nil []]⟩),
 (61,⟨5,64,.struct [(0,3),(1,32)],.agg [.int .i64 0,.int .i64 0,.int .i64 0,.str [],.slice 4 .nil []]⟩)]
theorem rQ:fY al uA=true:=by kernel_rfl
theorem XF:bZ uA J8 anK 1 Tryz.f55=true:=by kernel_rfl
theorem TP:al.funcs[(55:Nat)]? =some Tryz.f55:=Tryz.func55
theorem alI:bZ uA Rs anP 1 Tryz.f119=true:=by kernel_rfl
theorem aeI:al.funcs[(119:Nat)]? =some Tryz.f119:=Tryz.func119
theorem alk:bZ uA Q5 Yj 2 Tryz.f122=true:=by kernel_rfl
theorem aem:al.funcs[(122:Nat)]? =some Tryz.f122:=Tryz.func122
theorem alq:bZ uA Ra anI 2 Tryz.f123=true:=by kernel_rfl
theorem aer:al.funcs[(123:Nat)]? =some Tryz.f123:=Tryz.func123
theorem XG:bZ uA J9 Oi 3 Tryz.f133=true:=by kernel_rfl
theorem TQ:al.funcs[(133:Nat)]? =some Tryz.f133:=Tryz.func133
theorem XK:bZ uA Kd Yu 2 Tryz.f135=true:=by kernel_rfl
theorem TU:al.funcs[(135:Nat)]? =some Tryz.f135:=Tryz.func135
theorem alL:bZ uA Rv Yw 1 Tryz.f201=true:=by kernel_rfl
theorem aeL:al.funcs[(201:Nat)]? =some Tryz.f201:=Tryz.func201
theorem alR:bZ uA RB ED 2 Tryz.f204=true:=by kernel_rfl
theorem aeR:al.funcs[(204:Nat)]? =some Tryz.f204:=Tryz.func204
theorem alO:bZ uA Ry Ol 2 Tryz.f205=true:=by kernel_rfl
theorem aeO:al.funcs[(205:Nat)]? =some Tryz.f205:=Tryz.func205
def RO:C:=(aa [c1 2 dH] (aa [I 3 0,iq 4 dH [(0,1,(gd 1)),(1,1,(.t 3))],bB 4 2 4] .ret))
@[simp] def anW:List bO:=[.cell 2 true 4]
def Rz:C:=(aa [b5 0 (.mov (.c (.nilp)))] (aa [cP (.mkmap 1 (some 702)),cP (.mkmap 2 (some 703)),cP (.mkmap 3 (some 704)),cP (.mkmap 4 (some 705)),cP (.mkmap 5 (some 706)),cP (.mkmap 6 (some 707)),b5 7 (.build [.junk,.junk,.junk,.junk,.junk,.junk] [(0,1,(.t 1)),(1,1,(.t 2)),(2,1,(.t 3)),(3,1,(.t 4)),(4,1,(.t 5)),(5,1,(.t 6))]),cC 8 7,I 0 8] (.fz true 0 .ret)))
@[simp] def YA:List bO:=[.tmp 0]
def Ro:C:=(aa [bS 4 0] (.seq (aa [I 8 0,fK 9 8,aE 10 0 1 9,av 11 1 10,I 12 1,b5 13 (.mget .i (.int .i64 0) true (.t 11) (.t 12)),I 7 13,cr 14 0 7,cr 15 1 7,I 5 14,I 6 15] (aa [I 16 6,cj 17 16] (aT 17 (.region [I 18 0,fK 19 18,aE 20 0 1 19,av 21 1 20,I 22 1,I 23 1,cP (.mput .i (.t 21) (.t 22) (.t 23))]) .skip))) (.seq (.block 0 (.loop (.seq (aa [I 24 0,fK 25 24,aE 26 0 1 25,av 27 1 26,I 28 1,b5 29 (.mget .i (.int .i64 0) false (.t 27) (.t 28)),I 30 1,bk 31 .neq 29 30] (aT 31 .skip (.exit 0))) (.block 1 (.seq (.drawn true 55 [I 32 0,fK 33 32,aE 34 0 1 33,av 35 1 34,I 36 1,I 37 0,fK 38 37,aE 39 0 1 38,av 40 1 39,I 41 0,fK 42 41,aE 43 0 1 42,av 44 1 43,I 45 1,b5 46 (.mget .i (.int .i64 0) false (.t 44) (.t 45)),b5 47 (.mget .i (.int .i64 0) false (.t 40) (.t 46)),cP (.mput .i (.t 35) (.t 36) (.t 47))]) (.region [I 48 0,fK 49 48,aE 50 0 1 49,av 51 1 50,I 52 1,b5 53 (.mget .i (.int .i64 0) false (.t 51) (.t 52)),I 1 53])))))) (aa [I 54 1,I 4 54] .ret))))
@[simp] def Yr:List bO:=[.tmp 4]
def Rk:C:=(aa [cC 2 0,cC 3 1] (.fz false 2 (.region [aY 4 4 3,b5 5 (.mkf 243 [.t 2]),b2 6 129 4 5])))
@[simp] def Yo:List bO:=[]
def wz:C:=(aa [cC 4 1,cC 5 2,a8 6 false] (.seq (.block 0 (aa [aE 12 0 1 4,av 13 1 12,aV 14 .eql 13 1,I 15 14,aq 15 true (aE 16 0 1 5),aq 15 true (av 17 1 16),aq 15 true (aV 18 .eql 17 1),dL 19 15 18,I 11 19] (aT 11 (aa [I 20 0,aE 21 1 1 4,av 22 1 21,b2 23 196 20 22,I 7 23] (aa [I 24 0,aE 25 1 1 5,av 26 1 25,b2 27 196 24 26,I 8 27] (.seq (aa [I 28 7,I 29 8,bk 30 .eql 28 29] (aT 30 (aa [a8 6 true] .ret) .skip)) (.seq (aa [I 31 8,I 32 7,bk 33 .lss 31 32] (aT 33 (.region [I 34 8,I 35 7,I 7 34,I 8 35]) .skip)) (aa [I 36 0,fK 37 36,aE 38 0 1 37,av 39 1 38,I 40 8,I 41 7,cP (.mput .i (.t 39) (.t 40) (.t 41))] (.seq (aa [I 42 0,fK 43 42,aE 44 2 1 43,av 45 1 44,I 46 8,b5 47 (.mget .i (.bool false) false (.t 45) (.t 46)),cj 48 47] (aT 48 (aa [I 49 0,fK 50 49,aE 51 2 1 50,av 52 1 51,I 53 7,b5 54 (.mget .i (.bool false) false (.t 52) (.t 53)),cj 55 54,I 56 55,cb 56 false 57 0,cb 56 false 58 0,aq 56 false (fK 59 58),aq 56 false (aE 60 1 1 59),aq 56 false (av 61 1 60),cb 56 false 62 7,xZ 56 false 63 (.mget .i (.agg dH) false (.t 61) (.t 62)),cb 56 false 64 7,ys 56 false (.mkmap 65 (some 715)),aq 56 false (dn 66 244 [.t 57,.t 63,.t 64,.t 65]),aq 56 false (cj 67 66),cW 68 56 67,I 6 68] .ret) .skip)) (aa [I 69 0,fK 70 69,aE 71 1 1 70,av 72 1 71,I 73 8,b5 74 (.mget .i (.agg dH) false (.t 72) (.t 73)),c1 9 dH,bB 4 9 74] (.seq (aa [I 75 0,fK 76 75,aE 77 2 1 76,av 78 1 77,I 79 7,b5 80 (.mget .i (.bool false) false (.t 78) (.t 79)),cj 81 80] (aT 81 (aa [I 82 0,I 83 7,aY 84 4 9,dn 85 245 [.t 82,.t 83,.t 84],I 6 85] .ret) .skip)) (.seq (.drawnW [715,716] 198 [I 86 0,aY 87 4 9,I 88 7,cP (.mkmap 89 (some 715)),dn 90 244 [.t 86,.t 87,.t 88,.t 89],cj 91 90,I 92 91,cb 92 true 93 0,cb 92 true 94 0,aq 92 true (fK 95 94),aq 92 true (aE 96 1 1 95),aq 92 true (av 97 1 96),cb 92 true 98 7,xZ 92 true 99 (.mgetB .i (.agg dH) false (.t 97) (.t 98)),cb 92 true 100 7,ys 92 true (.mkmap 101 (some 716)),aq 92 true (dn 102 244 [.t 93,.t 99,.t 100,.t 101]),aq 92 true (cj 103 102),dL 104 92 103,I 105 104,cb 105 true 106 0,cb 105 true 107 0,aq 105 true (fK 108 107),aq 105 true (aE 109 1 1 108),aq 105 true (av 110 1 109),cb 105 true 111 7,xZ 105 true 112 (.mgetB .i (.agg dH) false (.t 110) (.t 111)),aq 105 true (aY 113 4 9),aq 105 true (dn 114 198 [.t 106,.t 112,.t 113]),dL 115 105 114,I 6 115]) .ret))))))))) (aa [aE 117 0 1 4,av 118 1 117,aV 119 .eql 118 1,I 116 119] (aT 116 (aa [I 120 0,aE 121 1 1 4,av 122 1 121,b2 123 196 120 122,I 10 123] (.seq (aa [I 124 0,fK 125 124,aE 126 2 1 125,av 127 1 126,I 128 10,b5 129 (.mget .i (.bool false) false (.t 127) (.t 128)),cj 130 129] (aT 130 (aa [I 131 0,I 132 10,aY 133 4 5,dn 134 245 [.t 131,.t 132,.t 133],I 6 134] .ret) .skip)) (.seq (.drawn false 198 [I 135 0,I 136 0,fK 137 136,aE 138 1 1 137,av 139 1 138,I 140 10,b5 141 (.mgetB .i (.agg dH) false (.t 139) (.t 140)),aY 142 4 5,dn 143 198 [.t 135,.t 141,.t 142],I 6 143]) .ret))) (aa [aE 145 0 1 5,av 146 1 145,aV 147 .eql 146 1,I 144 147] (aT 144 (aa [I 148 0,aY 149 4 5,aY 150 4 4,dn 151 198 [.t 148,.t 149,.t 150],I 6 151] .ret) (aa [aE 153 0 1 4,av 154 1 153,aE 155 0 1 5,av 156 1 155,bk 157 .neq 154 156,I 158 157,aq 158 false (aE 159 1 1 4),aq 158 false (av 160 1 159),aq 158 false (aE 161 1 1 5),aq 158 false (av 162 1 161),aq 158 false (bk 163 .neq 160 162),cW 164 158 163,I 165 164,aq 165 false (aE 166 2 1 4),aq 165 false (av 167 1 166),aq 165 false (aE 168 2 1 5),aq 165 false (av 169 1 168),aq 165 false (bk 170 .neq 167 169),cW 171 165 170,I 152 171] (aT 152 (aa [a8 6 false] .ret) (aa [aE 173 0 1 4,av 174 1 173,aV 175 .eql 174 4,I 172 175] (aT 172 (.seq (.drawn false 198 [I 176 0,aE 177 3 1 4,av 178 1 177,jb 179 4 178 0,aY 180 4 179,aE 181 3 1 5,av 182 1 181,jb 183 4 182 0,aY 184 4 183,dn 185 198 [.t 176,.t 180,.t 184],I 186 185,cb 186 true 187 0,aq 186 true (aE 188 3 1 4),aq 186 true (av 189 1 188),aq 186 true (jb 190 4 189 1),aq 186 true (aY 191 4 190),aq 186 true (aE 192 3 1 5),aq 186 true (av 193 1 192),aq 186 true (jb 194 4 193 1),aq 186 true (aY 195 4 194),aq 186 true (dn 196 198 [.t 187,.t 191,.t 195]),dL 197 186 196,I 6 197]) .ret) .skip))))))))))) (aa [a8 6 true] .ret)))
@[simp] def oM:List bO:=[.tmp 6]
def Rl:C:=(.region [av 3 1 1,I 4 0,b2 5 196 3 4])
@[simp] def Yp:List bO:=[]
def Rm:C:=(aa [cC 4 0,cC 5 1,cC 6 2,cC 7 3,a8 8 false] (aa [cP (.alloc 9 (some 712) (.bool false)),cP (.store 1 (.t 9) (.c (.bool false)))] (.seq (.fz false 7 (.fz false 6 (.fz false 4 (.region [aY 10 4 5,b5 11 (.mkf 273 [.t 4,.t 9,.t 6,.t 7]),b2 12 129 10 11])))) (aa [av 13 1 9,I 8 13] .ret))))
@[simp] def Yq:List bO:=[.tmp 8]
def Rj:C:=(aa [cC 5 2,a8 6 false] (.seq (.drawn true 24 [I 7 0,fK 8 7,aE 9 1 1 8,av 10 1 9,I 11 1,aY 12 4 5,cP (.mput .i (.t 10) (.t 11) (.t 12))]) (aa [I 13 0,fK 14 13,aE 15 2 1 14,av 16 1 15,I 17 1,cP (.mput .i (.t 16) (.t 17) (.c (.bool true)))] (aa [I 18 0,aY 19 4 5,I 20 1,cP (.mkmap 21 (some 715)),dn 22 244 [.t 18,.t 19,.t 20,.t 21],cj 23 22,I 6 23] .ret))))
@[simp] def Yn:List bO:=[.tmp 6]
def Ai:C:=(aa [cC 2 0,a8 4 false] (.seq (.seq (.fz false 2 (.region [av 6 1 2,fK 7 6,aE 8 3 1 7,av 9 1 8,I 10 1,b5 11 (.mget .i (.int .i64 0) false (.t 9) (.t 10)),aV 12 .eql 11 2])) (aT 12 (aa [a8 4 true] .ret) .skip)) (.seq (aa [av 13 1 2,fK 14 13,aE 15 3 1 14,av 16 1 15,I 17 1,b5 18 (.mget .i (.int .i64 0) false (.t 16) (.t 17)),aV 19 .eql 18 1] (aT 19 (aa [a8 4 false] .ret) .skip)) (aa [av 20 1 2,fK 21 20,aE 22 3 1 21,av 23 1 22,I 24 1,cP (.mput .i (.t 23) (.t 24) (gd 1))] (aa [av 25 1 2,fK 26 25,aE 27 4 1 26,av 28 1 27,I 29 1,cP (.mput .i (.t 28) (.t 29) (gd 1))] (.seq (aa [av 30 1 2,fK 31 30,aE 32 2 1 31,av 33 1 32,I 34 1,b5 35 (.mget .i (.bool false) false (.t 33) (.t 34))] (aT 35 (aa [cP (.alloc 5 (some 712) (.bool false)),cP (.store 1 (.t 5) (.c (.bool true)))] (aa [av 36 1 2,fK 37 36,aE 38 1 1 37,av 39 1 38,I 40 1,b5 41 (.mget .i (.agg dH) false (.t 39) (.t 40)),b5 42 (.mkf 274 [.t 5,.t 2]),b2 43 129 41 42] (.seq (aa [av 44 1 5,cj 45 44] (aT 45 (aa [a8 4 false] .ret) .skip)) (.drawn false 64 [av 46 1 2,fK 47 46,aE 48 4 1 47,av 49 1 48,I 50 1,av 51 1 2,fK 52 51,aE 53 1 1 52,av 54 1 53,I 55 1,b5 56 (.mgetB .i (.agg dH) false (.t 54) (.t 55)),b5 57 (.mkf 275 [.t 2]),b2 58 239 56 57,cP (.mput .i (.t 49) (.t 50) (.t 58))])))) .skip)) (aa [av 59 1 2,fK 60 59,aE 61 3 1 60,av 62 1 61,I 63 1,cP (.mput .i (.t 62) (.t 63) (gd 2))] (aa [a8 4 true] .ret))))))))
@[simp] def BY:List bO:=[.tmp 4]
def FR:C:=(aa [cC 2 0,c1 4 dH] (.seq (.seq (.fz false 2 (.region [av 9 1 2,fK 10 9,aE 11 5 1 10,av 12 1 11,I 13 1,b5 14 (.mget .i (.agg dH) true (.t 12) (.t 13)),I 8 14,cr 15 0 8,cr 16 1 8,c1 5 dH,bB 4 5 15,I 6 16])) (aa [I 17 6] (aT 17 (aa [aY 18 4 5,bB 4 4 18] .ret) .skip))) (aa [I 19 1,cB 20 96 19,c1 7 dH,bB 4 7 20] (.seq (aa [av 21 1 2,fK 22 21,aE 23 2 1 22,av 24 1 23,I 25 1,b5 26 (.mget .i (.bool false) false (.t 24) (.t 25))] (aT 26 (.region [av 27 1 2,fK 28 27,aE 29 1 1 28,av 30 1 29,I 31 1,b5 32 (.mget .i (.agg dH) false (.t 30) (.t 31)),b5 33 (.mkf 276 [.t 2]),b2 34 153 32 33,bB 4 7 34]) .skip)) (.seq (.drawn true 42 [av 35 1 2,fK 36 35,aE 37 5 1 36,av 38 1 37,I 39 1,aY 40 4 7,cP (.mput .i (.t 38) (.t 39) (.t 40))]) (aa [aY 41 4 7,bB 4 4 41] .ret))))))
@[simp] def Ij:List bO:=[.cell 4 true 4]
def Rn:C:=(aa [av 7 1 1,I 8 0,b2 9 196 7 8,I 6 9] (.seq (aa [av 10 1 2,I 11 10,cb 11 false 12 6,aq 11 false (av 13 1 3),aq 11 false (bk 14 .eql 12 13),cW 15 11 14] (aT 15 (aa [cP (.store 1 (.t 2) (.c (.bool true)))] .ret) .skip)) (aa [av 16 1 4,I 17 6,b5 18 (.mget .i (.bool false) false (.t 16) (.t 17)),cj 19 18,I 20 19,aq 20 true (av 21 1 1),aq 20 true (fK 22 21),aq 20 true (aE 23 2 1 22),aq 20 true (av 24 1 23),cb 20 true 25 6,aq 20 true (b5 26 (.mget .i (.bool false) false (.t 24) (.t 25))),dL 27 20 26] (aT 27 (aa [av 28 1 4,I 29 6,cP (.mput .i (.t 28) (.t 29) (.c (.bool true)))] (.drawn false 40 [av 30 1 1,av 31 1 1,fK 32 31,aE 33 1 1 32,av 34 1 33,I 35 6,b5 36 (.mgetB .i (.agg dH) false (.t 34) (.t 35)),av 37 1 3,av 38 1 4,dn 39 244 [.t 30,.t 36,.t 37,.t 38],bB 1 2 39])) .skip))))
@[simp] def BX:List bO:=[]
def Kb:C:=(.seq (.drawn false 13 [b5 4 (.loadB false 1 (.t 1)),I 5 4,aq 5 true (av 6 1 2),aq 5 true (av 7 1 2),cb 5 true 8 0,aq 5 true (b2 9 196 7 8),aq 5 true (b2 10 246 6 9),aq 5 true (cj 11 10),dL 12 5 11]) (aT 12 (.region [cP (.store 1 (.t 1) (.c (.bool false)))]) .skip))
@[simp] def Ik:List bO:=[]
def Rr:C:=(aa [bS 3 0] (.seq (.drawn false 12 [av 4 1 1,fK 5 4,aE 6 4 1 5,av 7 1 6,av 8 1 1,I 9 0,b2 10 196 8 9,b5 11 (.mgetB .i (.int .i64 0) false (.t 7) (.t 10)),I 3 11]) .ret))
@[simp] def Yt:List bO:=[.tmp 3]
def Rq:C:=(aa [c1 3 dH,a8 4 false] (.seq (.drawn false 10 [av 5 1 1,av 6 1 1,I 7 0,b2 8 196 6 7,b2 9 247 5 8,bB 4 3 9,a8 4 true]) .ret))
@[simp] def Ys:List bO:=[.cell 3 true 4,.tmp 4]
def pK:List (Nat×dN):=[
 (3,⟨1,8,.int .i64,.int .i64 0⟩),
 (4,⟨1,1,.bool,.bool false⟩),
 (9,⟨1,16,.str,.str []⟩),
 (30,⟨1,24,.slice 32,.slice 4 .nil []⟩),
 (32,⟨4,56,.struct [(0,3),(1,3),(2,9),(3,30)],.agg [.int .i64 0,.int .i64 0,.str [],.slice 4 .nil []]⟩),
 (127,⟨1,8,.map 3 32,.junk⟩),
 (154,⟨1,8,.map 3 4,.junk⟩),
 (182,⟨1,8,.map 3 3,.junk⟩),
 (204,⟨1,8,.other,.nilp⟩),
 (245,⟨6,48,.struct [(0,182),(1,127),(2,154),(3,182),(4,182),(5,127)],.agg [.junk,.junk,.junk,.junk,.junk,.junk]⟩)]
theorem jU:fY al pK=true:=by kernel_rfl
theorem al4:bZ pK RO anW 1 Tryz.f96=true:=by kernel_rfl
theorem ae4:al.funcs[(96:Nat)]? =some Tryz.f96:=Tryz.func96
theorem alP:bZ pK Rz YA 0 Tryz.f195=true:=by kernel_rfl
theorem aeP:al.funcs[(195:Nat)]? =some Tryz.f195:=Tryz.func195
theorem alE:bZ pK Ro Yr 2 Tryz.f196=true:=by kernel_rfl
theorem aeE:al.funcs[(196:Nat)]? =some Tryz.f196:=Tryz.func196
theorem alA:bZ pK Rk Yo 2 Tryz.f197=true:=by kernel_rfl
theorem aeA:al.funcs[(197:Nat)]? =some Tryz.f197:=Tryz.func197
theorem zo:bZ pK wz oM 3 Tryz.f198=true:=by kernel_rfl
theorem yn:al.funcs[(198:Nat)]? =some Tryz.f198:=Tryz.func198
theorem alB:bZ pK Rl Yp 2 Tryz.f243=true:=by kernel_rfl
theorem aeB:al.funcs[(243:Nat)]? =some Tryz.f243:=Tryz.func243
theorem alC:bZ pK Rm Yq 4 Tryz.f244=true:=by kernel_rfl
theorem aeC:al.funcs[(244:Nat)]? =some Tryz.f244:=Tryz.func244
theorem alz:bZ pK Rj Yn 3 Tryz.f245=true:=by kernel_rfl
theorem aez:al.funcs[(245:Nat)]? =some Tryz.f245:=Tryz.func245
theorem El:bZ pK Ai BY 2 Tryz.f246=true:=by kernel_rfl
theorem CX:al.funcs[(246:Nat)]? =some Tryz.f246:=Tryz.func246
theorem NM:bZ pK FR Ij 2 Tryz.f247=true:=by kernel_rfl
theorem KX:al.funcs[(247:Nat)]? =some Tryz.f247:=Tryz.func247
theorem alD:bZ pK Rn BX 5 Tryz.f273=true:=by kernel_rfl
theorem aeD:al.funcs[(273:Nat)]? =some Tryz.f273:=Tryz.func273
theorem XI:bZ pK Kb Ik 3 Tryz.f274=true:=by kernel_rfl
theorem TS:al.funcs[(274:Nat)]? =some Tryz.f274:=Tryz.func274
theorem alH:bZ pK Rr Yt 2 Tryz.f275=true:=by kernel_rfl
theorem aeH:al.funcs[(275:Nat)]? =some Tryz.f275:=Tryz.func275
theorem alG:bZ pK Rq Ys 2 Tryz.f276=true:=by kernel_rfl
theorem aeG:al.funcs[(276:Nat)]? =some Tryz.f276:=Tryz.func276
end
section
open Go Go.Pv
section
variable {α:Type} (S:α->cL) (dy:∀a,dW (S a)) (dr:∀a b,Same (S a) (S b)) (g:Nat) (di:List aj) (aw:∀a,aC (inObs (S a)) di) (cF:c6 di=di)
include dy dr aw cF in
theorem Up(hv:α->Prop)(f:Int->α->Option α)(aK:∀v a bs,hv a->f v a=some bs->hv bs/\bI al g (.int .i64 v::di) (S a) fun r ah=>r= .tuple []/\ah=S bs)(t:T):
  ∀a bs,hv a->t.foldO f a=some bs->hv bs/\bI al 129 [t.e,.func g di] (S a) fun r ah=>r= .tuple []/\ah=S bs:=by
 have ax:∀a m,Pv.look (.loc m) (S a).b=none:=fun a=>(dy a).obj.1;have hu:∀a m cs,cA (.loc m) cs (S a).b=(S a).b++[(.loc m,cs)]:=fun a m cs=>kg (ax a m);have ay:∀a m,aI.loc m∉c2 (S a):=fun a=>j9 (dy a).obj;induction t with
 |pair x y mF oH=>intro a bs hi he;have ag:=dy a;simp only[T.foldO,kK]at he;obtain⟨bH,J,U⟩:=he;obtain⟨i1,g1⟩:=mF a bH hi J;obtain⟨i2,g2⟩:=oH bH bs i1 U;refine⟨i2,?_⟩;refine bI.mk mixed gj u9 vN Ψ ag.obj fun aM cR=>?_;unfold tw;simp[hu,ay,cK,ax,cF];(with_reducible repeat' first|refine ai ?_|simp[hu,ay,cK,ax]);refine cV.ob g1 ag aN aN (by simp[aw]) ?_;rintro r ah ⟨rfl,rfl⟩;refine⟨dr _ _,?_⟩;simp[gW,im,cl,ax];(with_reducible repeat' first|refine ai ?_|simp[hu,ay,cK,ax]);rw[cF];refine cV.ob g2 (dy bH) aN aN (by simp[aw]) ?_;rintro r ah ⟨rfl,rfl⟩;refine⟨dr _ _,?_⟩;simp[gW,im,cl,ax];refine cH.at (S bs) (.inr rfl) (dy _) (dr _ _) aN aN ?_;simp[cN,uk,aX,aZ,aW]
 |var n=>intro a bs hi he;have ag:=dy a;simp only[T.foldO]at he;obtain⟨i1,g1⟩:=aK n a bs hi he;refine⟨i1,?_⟩;refine bI.mk mixed gj u9 vN Ψ ag.obj fun aM cR=>?_;unfold tw;simp[hu,ay,cK,ax,cF];(with_reducible repeat' first|refine ai ?_|simp[hu,ay,cK,ax]);refine cV.ob g1 ag aN aN (by simp[aw]) ?_;rintro r ah ⟨rfl,rfl⟩;refine⟨dr _ _,?_⟩;simp[gW,im,cl,ax,cK];refine cH.at (S bs) (.inr rfl) (dy _) (dr _ _) aN aN ?_;simp[cN,uk,aX,aZ,aW]
 |_=>intro a bs hi he;have ag:=dy a;simp only[T.foldO,ea]at he;subst he;refine⟨hi,?_⟩;refine bI.mk mixed gj u9 vN Ψ ag.obj fun aM cR=>?_;unfold tw;simp[hu,ay,cK,ax,cF];(with_reducible repeat' first|refine ai ?_|simp[hu,ay,cK,ax]);refine cH.at (S a) (.inr rfl) ag (Same.refl _) aN aN ?_;simp[cN,uk,aX,aZ,aW]
include dy dr aw cF in
theorem Ll(f:Int->α->Option α)(aK:∀v a bs,f v a=some bs->bI al g (.int .i64 v::di) (S a) fun r ah=>r= .tuple []/\ah=S bs)(t:T)(a bs:α)(h:t.foldO f a=some bs):bI al 129 [t.e,.func g di] (S a) fun r ah=>r= .tuple []/\ah=S bs:=(Up S dy dr g di aw cF (fun _=>True) f (fun v a bs _ h=>⟨trivial,aK v a bs h⟩) t a bs trivial h).2
include dy dr aw cF in
theorem agT(f:Int->α->Option (T×α))(aK:∀v a p,f v a=some p->bI al g (.int .i64 v::di) (S a) fun r ah=>r= .tuple [p.1.e,.bool true]/\ah=S p.2)(t:T):
  ∀a p,t.mapO f a=some p->bI al 153 [t.e,.func g di] (S a) fun r ah=>r=p.1.e/\ah=S p.2:=by
 have ax:∀a m,Pv.look (.loc m) (S a).b=none:=fun a=>(dy a).obj.1;have cM:∀a m,Pv.look (.loc m) (S a).e=none:=fun a=>(dy a).obj.2;have hu:∀a m cs,cA (.loc m) cs (S a).b=(S a).b++[(.loc m,cs)]:=fun a m cs=>kg (ax a m);have ay:∀a m,aI.loc m∉c2 (S a):=fun a=>j9 (dy a).obj;have kD:∀a m p r,cA (.loc m) p ((S a).b++r)=(S a).b++cA (.loc m) p r:=fun a m p r=>Co (ax a m);induction t with
 |pair x y mF oH=>intro a p he;have ag:=dy a;simp only[T.mapO,kK,hf]at he;obtain⟨cX,J,dI,U,rfl⟩:=he;refine bI.mk mixed gj AA BN Ψ ag.obj fun aM cR=>?_;unfold yg;simp[hu,ay,cK,ax,cM,cF,kD];(with_reducible repeat' first|refine ai ?_|simp[hu,ay,cK,ax,cM,kD]);refine hJ.ob (mF a cX J) ag (dy cX.2) (dr _ _) aN aN (by simp[aw]) ?_;simp[gW,im,cl,ax,cF];(with_reducible repeat' first|refine ai ?_|simp[hu,ay,cK,ax,cM,kD]);refine hJ.ob (oH cX.2 dI U) (dy cX.2) (dy dI.2) (dr _ _) aN aN (by simp[aw,cF]) ?_;simp[gW,im,cl,ax,cF];(with_reducible repeat' first|refine ai ?_|refine az (Jq _ _) ?_|refine aA (Jq _ _) ?_|simp[cK,ax,kD]);refine cH.at (S dI.2) (.inl rfl) (dy _) (dr _ _) aN aN ?_;simp[cN,zv,aX,aZ,aW,cK,ax]
 |var n=>
  intro a p he;have ag:=dy a;simp only[T.mapO]at he;refine bI.mk mixed gj AA BN Ψ ag.obj fun aM cR=>?_;unfold yg;simp[hu,ay,cK,ax,cF,kD];(with_reducible repeat' first|refine ai ?_|simp[hu,ay,cK,ax,kD]);refine cV.ob (aK n a p he) ag aN aN (by simp[aw]) ?_;rintro r ah ⟨rfl,rfl⟩;refine⟨dr _ _,?_⟩;simp[gW,im,cl,ax,hu,ay,cK];(with_reducible repeat' first|refine ai ?_|refine az (uD _) ?_|refine aA (uD _) ?_|simp[hu,ay,cK,ax,kD]);all_goals refine cH.at (S p.2) (.inl rfl) (dy _) (dr _ _) aN aN ?_
  all_goals simp[cN,zv,aX,aZ,aW,cK,ax]
 |_=>intro a p he;have ag:=dy a;simp only[T.mapO,ea]at he;subst he;refine bI.mk mixed gj AA BN Ψ ag.obj fun aM cR=>?_;unfold yg;simp[hu,ay,cK,ax,cF,kD];(with_reducible repeat' first|refine ai ?_|simp[hu,ay,cK,ax,kD]);refine cH.at (S a) (.inl rfl) ag (Same.refl _) aN aN ?_;simp[cN,zv,aX,aZ,aW,cK,ax]
include dy dr aw cF in
theorem ag9(hv:α->Prop)(f:Int->α->Option (Int×α))(Dr:∀v a p,hv a->f v a=some p->hv p.2/\0<=p.1/\p.1<=1000000)(aK:∀v a p,hv a->f v a=some p->bI al g (.int .i64 v::di) (S a) fun r ah=>r= .int .i64 p.1/\ah=S p.2)(t:T):
  ∀a p,hv a->t.sizeO f a=some p->hv p.2/\(0<=p.1/\p.1<=5001)/\bI al 239 [t.e,.func g di] (S a) fun r ah=>r= .int .i64 p.1/\ah=S p.2:=by
 have ax:∀a m,Pv.look (.loc m) (S a).b=none:=fun a=>(dy a).obj.1;have hu:∀a m cs,cA (.loc m) cs (S a).b=(S a).b++[(.loc m,cs)]:=fun a m cs=>kg (ax a m);have ay:∀a m,aI.loc m∉c2 (S a):=fun a=>j9 (dy a).obj;induction t with
 |pair x y mF oH=>
  intro a p hi he;have ag:=dy a;simp only[T.sizeO,kK]at he;obtain⟨cX,J,U⟩:=he;obtain⟨i1,bV,g1⟩:=mF a cX hi J;by_cases GI:5000<cX.1
  ·rw[if_pos GI]at U;cases U;refine⟨i1,bV,?_⟩;refine bI.mk mixed gj yo zp Ψ ag.obj fun aM cR=>?_;unfold wA;simp[hu,ay,cK,ax,cF];(with_reducible repeat' first|refine ai ?_|simp[hu,ay,cK,ax]);refine cV.ob g1 ag aN aN (by simp[aw]) ?_;rintro r ah ⟨rfl,rfl⟩;refine⟨dr _ _,?_⟩;simp[gW,im,cl,ax];((with_reducible repeat' first|((first|apply bU|apply bY|apply bX)<;>intro h<;>try simp at h)|refine ai ?_|simp[hu,ay,cK,ax])<;>(try contradiction));all_goals first|omega|(refine cH.at (S p.2) (.inl rfl) (dy _) (dr _ _) aN aN ?_;simp[cN,vU,aX,aZ,aW])
  ·rw[if_neg GI,hf]at U;obtain⟨dI,U,rfl⟩:=U;obtain⟨i2,b7,g2⟩:=oH cX.2 dI i1 U;refine⟨i2,by simp only;split<;>omega,?_⟩;refine bI.mk mixed gj yo zp Ψ ag.obj fun aM cR=>?_;unfold wA;simp[hu,ay,cK,ax,cF];(with_reducible repeat' first|((first|apply bU|apply bY|apply bX)<;>intro h<;>try simp at h)|refine ai ?_|simp[hu,ay,cK,ax]);refine cV.ob g1 ag aN aN (by simp[aw]) ?_;rintro r ah ⟨rfl,rfl⟩;refine⟨dr _ _,?_⟩;simp[gW,im,cl,ax];((with_reducible repeat' first|refine ai ?_|simp[hu,ay,cK,ax]|((first|apply bU|apply bY|apply bX)<;>intro h<;>try simp at h))<;>(try exact cz));all_goals first|omega|skip
   rw[cF];refine cV.ob g2 (dy cX.2) aN aN (by simp[aw]) ?_;rintro r s2 ⟨rfl,rfl⟩;refine⟨dr _ _,?_⟩;simp[gW,im,cl,ax];(with_reducible repeat' first|refine ai ?_|simp[hu,ay,cK,ax]);refine cH.at (S dI.2) (.inl rfl) (dy _) (dr _ _) aN aN ?_;simp[cN,vU,aX,aZ,aW]
 |var n=>intro a p hi he;have ag:=dy a;simp only[T.sizeO,hf]at he;obtain⟨cX,J,rfl⟩:=he;have af:=Dr n a cX hi J;refine⟨af.1,by simp only;split<;>omega,?_⟩;refine bI.mk mixed gj yo zp Ψ ag.obj fun aM cR=>?_;unfold wA;simp[hu,ay,cK,ax,cF];(with_reducible repeat' first|refine ai ?_|simp[hu,ay,cK,ax]);refine cV.ob (aK n a cX hi J) ag aN aN (by simp[aw]) ?_;rintro r ah ⟨rfl,rfl⟩;refine⟨dr _ _,?_⟩;simp[gW,im,cl,ax];refine cH.at (S cX.2) (.inl rfl) (dy _) (dr _ _) aN aN ?_;simp[cN,vU,aX,aZ,aW]
 |_=>intro a p hi he;have ag:=dy a;simp only[T.sizeO,ea]at he;subst he;refine⟨hi,Ψ,?_⟩;refine bI.mk mixed gj yo zp Ψ ag.obj fun aM cR=>?_;unfold wA;simp[hu,ay,cK,ax,cF];(with_reducible repeat' first|refine ai ?_|simp[hu,ay,cK,ax]);refine cH.at (S a) (.inl rfl) ag (Same.refl _) aN aN ?_;simp[cN,vU,aX,aZ,aW]
end
end
end Go.Proofs.YtohaalphocaebaaGreat
namespace Go.Pv
section
open Go Go.RowKit
section
variable {P:cI} {ob:List aI} {st:bu} {Q:Exit->bu->Prop} {c:C} {α:Type}
theorem dO(ck:List Nat)(cs:Nat->α->List (Nat×aj))(n:Nat)(fl:Nat->α->Prop)(a0:α)(hw:jj ob st (qh st ck (cs 0 a0)))(br:fl 0 a0)(wQ:∀a,fl n a->(∀i,eo (get i (qh st ck (cs n a)).t))->c8 P ob c (bK ob (zZ (fun i a=>qh st ck (cs i a)) n fl) 0 Q) (qh st ck (cs n a)))
  (j8:∀i a,i<n->fl i a->(∀j,eo (get j (qh st ck (cs i a)).t))->c8 P ob c (bK ob (zZ (fun i a=>qh st ck (cs i a)) n fl) (n-i) Q) (qh st ck (cs i a))):c8 P ob (.loop c) Q st:=
 gA (fun i a=>qh st ck (cs i a)) n fl a0 hw br wQ j8
theorem u5(ck:List Nat)(cs:α->List (Nat×aj))(nx:α->Nat)(fl:α->Prop)(a0:α)(hw:jj ob st (qh st ck (cs a0)))(br:fl a0)
  (j8:∀a,fl a->(∀j,eo (get j (qh st ck (cs a)).t))->c8 P ob c (bK ob (Cx (fun a=>qh st ck (cs a)) nx fl) (nx a) Q) (qh st ck (cs a))):c8 P ob (.loop c) Q st:=
 pc (fun a=>qh st ck (cs a)) nx fl a0 hw br j8
end
attribute [simp] akN
end
end Go.Pv
namespace Go.Proofs.YtohaalphocaebaaGreat
section
open Go Go.Pv
theorem M6{α β:Type}(k:aI):∀{l:List (aI×α)} {a1:List (aI×β)},l.map (·.1)=a1.map (·.1)->(Pv.look k l).isSome=(Pv.look k a1).isSome
 |[],[],_=>rfl
 |[],_::_,h=>by simp at h
 |_::_,[],h=>by simp at h
 |(i,x)::r,(j,y)::eZ,h=>by
  simp only[gM,oW]at h;simp only[Pv.look];obtain⟨rfl,h⟩:=h;split
  ·rfl
  ·exact M6 k h
theorem _root_.Go.Pv.Same.keys{s ah:cL}(af:s.b.map (·.1)=ah.b.map (·.1))(he:s.e.map (·.1)=ah.e.map (·.1)):Same s ah:=⟨fun k=>M6 k af,fun k=>M6 k he⟩
section
variable {α:Type} (e:α->aj)
def sN(l:List (Int×α)):List aj:=jG (l.map fun x=>(x.1,e x.2))
theorem Qx(k:Int):∀l:List (Int×α),uS k (l.map fun x=>(x.1,e x.2))=(c7 k l).map e
 |[]=>rfl
 |(i,v)::r=>by
  simp only[gM,uS,c7];split
  ·rfl
  ·exact Qx k r
theorem QG(k:Int)(v:α):∀l:List (Int×α),ot k (e v) (l.map fun x=>(x.1,e x.2))=if(c7 k l).isSome then some ((eU k v l).map fun x=>(x.1,e x.2))else none
 |[]=>rfl
 |(i,w)::r=>by
  simp only[gM,ot,c7,eU];by_cases h:k=i
  ·subst h;simp
  ·simp only[h,if_false,QG k v r];cases (c7 k r).isSome<;>simp
theorem Jb{k:Int}{v:α}:∀{l:List (Int×α)},c7 k l=none->eU k v l=l++[(k,v)]
 |[],_=>rfl
 |(i,w)::r,h=>by
  simp only[c7]at h;split at h
  ·cases h
  ·rename_i cM;simp[eU,cM,Jb h]
theorem Nv(k:Int)(v:α)(l:List (Int×α)):oK .i (.int .i64 k) (e v) (sN e l)=some (sN e (eU k v l)):=by
 simp only[sN,Xv,CI,QG];cases h:c7 k l with
 |some w=>simp
 |none=>simp[Jb h]
theorem Np(f:aI->Option (List aj))(m:aI)(l:List (Int×α))(z:aj)(ok:Bool)(k:Int)(hm:f m=some (sN e l)):nn f .i z ok (.gmap m) (.int .i64 k)=some (True,if ok then .tuple [((c7 k l).map e).getD z,.bool (c7 k l).isSome]else((c7 k l).map e).getD z):=by rw[Nq f m _ z ok k hm,Qx];cases c7 k l<;>rfl
@[simp]theorem au4(l:List (Int×α)):gr (sN e l)=false:=rfl
theorem MV(S:aI->Prop)(he:∀x,aB S (e x))(l:List (Int×α)):aC S (sN e l):=by
 have:∀l:List (Int×α),aC S (j3 (l.map fun x=>(x.1,e x.2))):=by
  intro l;induction l with
  |nil=>simp[j3,aC]
  |cons x r bR=>simp[j3,aC,bR,he]
 simp[sN,jG,aC,this,aB]
end
def lJ:List (Int×Int)->List aj:=sN (aj.int .i64)
def qg:List (Int×Bool)->List aj:=sN aj.bool
def ue:List (Int×T)->List aj:=sN T.e
@[simp]theorem au1(l):gr (lJ l)=false:=rfl
@[simp]theorem auZ(l):gr (qg l)=false:=rfl
@[simp]theorem au3(l):gr (ue l)=false:=rfl
@[simp]theorem atO(S:aI->Prop)(l):aC S (lJ l)=True:=eq_true (MV _ S (fun _=>by simp) l)
@[simp]theorem atN(S:aI->Prop)(l):aC S (qg l)=True:=eq_true (MV _ S (fun _=>by simp) l)
@[simp]theorem atP(S:aI->Prop)(l):aC S (ue l)=True:=eq_true (MV _ S (fun _=>by simp) l)
@[simp]theorem auP(k v:Int)(l):oK .i (.int .i64 k) (.int .i64 v) (lJ l)=some (lJ (eU k v l)):=Nv _ k v l
@[simp]theorem auO(k:Int)(v:Bool)(l):oK .i (.int .i64 k) (.bool v) (qg l)=some (qg (eU k v l)):=Nv _ k v l
@[simp]theorem auR(k:Int)(v:T)(l):oK .i (.int .i64 k) v.e (ue l)=some (ue (eU k v l)):=Nv _ k v l
def Ed(ck:jY)(z:aj)(ok:Bool)(o:Option (List aj))(k:aj):Option (Prop×aj):=nn (fun _=>o) ck z ok (.gmap (.loc 0)) k
@[simp]theorem auM(f:aI->Option (List aj))(ck:jY)(z:aj)(ok:Bool)(m:aI)(k:aj):nn f ck z ok (.gmap m) k=Ed ck z ok (f m) k:=by simp only[Ed,Xj]
theorem akB(f:aI->Option (List aj))(m:aI)(l:List (Int×Int))(ok:Bool)(k:Int)(hm:f m=some (lJ l)):nn f .i (.int .i64 0) ok (.gmap m) (.int .i64 k)=some (True,if ok then .tuple [.int .i64 (il l k),.bool (c7 k l).isSome]else .int .i64 (il l k)):=by rw[Np _ f m l _ ok k hm];unfold il;cases c7 k l<;>rfl
theorem akA(f:aI->Option (List aj))(m:aI)(l:List (Int×Bool))(ok:Bool)(k:Int)(hm:f m=some (qg l)):nn f .i (.bool false) ok (.gmap m) (.int .i64 k)=some (True,if ok then .tuple [.bool ((c7 k l).getD false),.bool (c7 k l).isSome]else .bool ((c7 k l).getD false)):=by rw[Np _ f m l _ ok k hm];cases c7 k l<;>rfl
def ZV:aj:= .agg [.int .i64 0,.int .i64 0,.str [],.slice 4 .nil []]
def xO(o:Option T):aj:=(o.map T.e).getD ZV
theorem akC(f:aI->Option (List aj))(m:aI)(l:List (Int×T))(ok:Bool)(k:Int)(hm:f m=some (ue l)):nn f .i (.agg [.int .i64 0,.int .i64 0,.str [],.slice 4 .nil []]) ok (.gmap m) (.int .i64 k)=some (True,if ok then .tuple [xO (c7 k l),.bool (c7 k l).isSome]else xO (c7 k l)):=by rw[Np _ f m l _ ok k hm];rfl
@[simp]theorem auK(l:List (Int×Int))(ok:Bool)(k:Int):Ed .i (.int .i64 0) ok (some (lJ l)) (.int .i64 k)=some (True,if ok then .tuple [.int .i64 (il l k),.bool (c7 k l).isSome]else .int .i64 (il l k)):=akB _ _ l ok k rfl
@[simp]theorem auJ(l:List (Int×Bool))(ok:Bool)(k:Int):Ed .i (.bool false) ok (some (qg l)) (.int .i64 k)=some (True,if ok then .tuple [.bool ((c7 k l).getD false),.bool (c7 k l).isSome]else .bool ((c7 k l).getD false)):=akA _ _ l ok k rfl
@[simp]theorem auL(l:List (Int×T))(ok:Bool)(k:Int):Ed .i (.agg [.int .i64 0,.int .i64 0,.str [],.slice 4 .nil []]) ok (some (ue l)) (.int .i64 k)=some (True,if ok then .tuple [xO (c7 k l),.bool (c7 k l).isSome]else xO (c7 k l)):=akC _ _ l ok k rfl
@[simp]theorem av3(o:Option T):dz (xO o)=(o.getD .nil).e:=by cases o<;>simp[xO,ZV,dz,c6]
@[simp]theorem auy:[aj.hdm 0 []]=jG []:=rfl
def aH:aj:= .eptr (.agg [.gmap (.obj 702),.gmap (.obj 703),.gmap (.obj 704),.gmap (.obj 705),.gmap (.obj 706),.gmap (.obj 707)])
def aG(c:bA):List (aI×List aj):=[(.obj 702,lJ c.up),(.obj 703,ue c.shape),(.obj 704,qg c.shaped),(.obj 705,lJ c.color),(.obj 706,lJ c.size),(.obj 707,ue c.full)]
def aP(c:bA):cL:=⟨aG c,[]⟩
theorem cm(c:bA):dW (aP c):=by unfold aP aG;exact dW.of ⟨by intro m;simp[Pv.look],by intro m;simp[Pv.look]⟩ Ψ Ψ
theorem Fw(c cw:bA):Same (aP c) (aP cw):=by
 refine⟨fun k=>?_,fun k=>rfl⟩;simp only[aP,aG,Pv.look];repeat' split
 all_goals rfl
theorem se(c:bA)(v r:Int)(cw:bA)(he:rt c v=some (r,cw)):bI al 196 [aH,.int .i64 v] (aP c) fun eZ ah=>eZ= .int .i64 r/\ah=aP cw:=by
 have ag:=cm c;have ep:=cm cw;have dr:=Fw c cw;simp only[rt,hf,jO]at he;obtain⟨⟨dC,m1⟩,he,rfl,rfl⟩:=he;unfold aP aG at ag ep dr⊢;simp only at ep dr⊢;unfold aH;refine bI.mk mixed jU aeE alE Ψ ag.obj fun aM cR=>?_;unfold Ro;simp;(with_reducible repeat' first|((first|apply bU|apply bY|apply bX)<;>intro h<;>try simp at h)|refine ai ?_|simp);all_goals
  refine pc (α:=Nat×Int×List (Int×Int)) (fun a=>⟨[(0,aH),(1,.int .i64 a.2.1)],[(.obj 702,lJ a.2.2),(.obj 703,ue c.shape),(.obj 704,qg c.shaped),(.obj 705,lJ c.color),(.obj 706,lJ c.size),(.obj 707,ue c.full)],[],0,[.obj 702,.obj 703,.obj 704,.obj 705,.obj 706,.obj 707]⟩) (fun a=>a.1) (fun a=>xH a.1 a.2.2 a.2.1=some (dC,m1)) (v.toNat+1,v,Ab v c.up) (by simp[Ab,h,aH];exact⟨by simp[fresh,aC,aB,bP,inObs,Pv.look,aH],dD (by simp[fresh,aC,aB,bP,inObs,Pv.look,aH]),dE (by simp[fresh,aC,aB,dt,inObs,Pv.look,aH]),Ψ⟩) he ?_
  rintro⟨n,u,m⟩ ae af
  simp only at ae af⊢
  cases n with
  |zero=>simp[xH]at ae
  |succ n=>
   simp only[xH]at ae
   simp[aH]
   (with_reducible repeat' first|((first|apply bU|apply bY|apply bX)<;>intro h<;>try simp at h)|refine ai ?_|simp)
   ·rw[if_neg h]at ae
    refine bK.whl (n,il (eU u (il m (il m u)) m) u,eU u (il m (il m u)) m) (Nat.lt_succ_self n) ae ?_
    simp[aH]
    exact⟨by simp[fresh,aC,aB,bP,inObs,Pv.look,aH],dD (by simp[fresh,aC,aB,bP,inObs,Pv.look,aH]),dE (by simp[fresh,aC,aB,dt,inObs,Pv.look,aH]),Ψ⟩
   ·rw[if_pos h]at ae
    cases ae
    refine cH.at _ (.inl rfl) ep dr aN aN ?_
    simp[cN,Yr,aX,aZ,aW]
end
section
open Go Go.Pv
theorem agW(c:bA)(v r:Int)(cw:bA)(he:rt c v=some (r,cw)):bI al 243 [.int .i64 v,.eptr aH] (aP c) fun eZ ah=>eZ= .tuple []/\ah=aP cw:=by have ag:=cm c;simp only[aP,aG]at ag⊢;refine bI.mk mixed jU aeB alB Ψ ag.obj fun aM cR=>?_;unfold Rl;simp[aH];(refine cV.ob (se c v r cw he) bv bi bi dl ?_;rintro r ah ⟨rfl,rfl⟩;refine⟨(Same.keys ci ci),?_⟩;simp[cl,aP,aG,aH]);(refine cH.at (aP cw) Ψ bv (Same.keys ci ci) bi bi ?_;simp[cN,Yp,aX,aZ,aW,inObs,Pv.look,aP,aG,aH])
theorem Lo(c:bA)(t:T)(cw:bA)(he:By t c=some cw):bI al 197 [aH,t.e] (aP c) fun eZ ah=>eZ= .tuple []/\ah=aP cw:=by
 have ag:=cm c;have key:=Ll aP cm Fw 243 [.eptr aH] (fun a=>by simp[aP,aG,aH,inObs,Pv.look]) rfl (fun(v:Int) (c:bA)=>(rt c v).map Prod.snd) (fun v a bs h=>by rw[hf]at h;obtain⟨⟨r,bM⟩,J,rfl⟩:=h;exact agW a v r bM J) t c cw he
 simp only[aP,aG]at ag⊢;refine bI.mk mixed jU aeA alA Ψ ag.obj fun aM cR=>?_;unfold Rk;simp[aH];(refine cV.ob (key) bv bi bi dl ?_;rintro r ah ⟨rfl,rfl⟩;refine⟨(Same.keys ci ci),?_⟩;simp[cl,aP,aG,aH]);(refine cH.at (aP cw) Ψ bv (Same.keys ci ci) bi bi ?_;simp[cN,Yo,aX,aZ,aW,inObs,Pv.look,aP,aG,aH])
def eQ(K:Nat)(a:bA×List (Int×Bool)):cL:=⟨aG a.1++[(.obj K,qg a.2)],[]⟩
def gv(K:Nat)(a:uM):cL:=⟨aG a.c++[(.obj K,qg a.seen),(.obj 712,[.bool a.found])],[]⟩
def zm(K:Nat):Prop:=K=715\/K=716
theorem iE{K:Nat}(c5:zm K)(a):dW (eQ K a):=by unfold eQ aG;rcases c5 with rfl|rfl;all_goals exact dW.of ⟨by intro m;simp[Pv.look],by intro m;simp[Pv.look]⟩ Ψ Ψ
theorem qq{K:Nat}(c5:zm K)(a):dW (gv K a):=by unfold gv aG;rcases c5 with rfl|rfl;all_goals exact dW.of ⟨by intro m;simp[Pv.look],by intro m;simp[Pv.look]⟩ Ψ Ψ
theorem JF{K:Nat}(a b):Same (gv K a) (gv K b):=by
 refine⟨fun k=>?_,fun k=>rfl⟩;simp only[gv,aG,bW,b9,Pv.look];repeat' split
 all_goals rfl
theorem ag3{K:Nat}(c5:zm K)(n:Nat)(x:Int)(wZ:∀t c seen a,qj n x t c seen=some a->bI al 244 [aH,t.e,.int .i64 x,.gmap (.obj K)] (eQ K (c,seen)) fun r ah=>r= .bool a.found/\ah=eQ K (a.c,a.seen))
  (v:Int) (a bs:uM) (he:xG (qj n x) x v a=some bs):bI al 273 [.int .i64 v,.eptr aH,.ptr (.obj 712) 0,.eptr (.int .i64 x),.eptr (.gmap (.obj K))] (gv K a) fun r ah=>r= .tuple []/\ah=gv K bs:=by
 have ag:=qq c5 a;simp only[xG,kK]at he;obtain⟨⟨r,bM⟩,J,U⟩:=he;simp only at U;have ad:=c5;rcases ad with rfl|rfl;all_goals
  simp only[gv,aG,bW,b9]at ag⊢
  refine bI.mk mixed jU aeD alD Ψ ag.obj fun aM cR=>?_;unfold Rn
  simp[aH]
  (refine cV.ob (se a.c v r bM J) bv bi bi dl ?_;rintro r ah ⟨rfl,rfl⟩;refine⟨(Same.keys ci ci),?_⟩;simp[cl,aP,aG,aH])
  obtain⟨ac,uv,JS⟩:=a
  cases JS with
  |true=>
   simp at U;subst U
   (with_reducible repeat' first|refine ai ?_|simp)
   (refine cH.at (gv _ ⟨bM,uv,true⟩) Ψ (by first|exact qq _|exact qq ‹_› _) (Same.keys (by simp[gv,aG,aH]) (by simp[gv,aG,aH])) ge ge ?_;simp[cN,BX,aX,aZ,aW,inObs,Pv.look,gv,aG,aH])
  |false=>
   by_cases ab:r=x
   ·simp[ab]at U;subst U
    (with_reducible repeat' first|refine ai ?_|simp[ab])
    (refine cH.at (gv _ ⟨bM,uv,true⟩) Ψ (by first|exact qq _|exact qq ‹_› _) (Same.keys (by simp[gv,aG,aH]) (by simp[gv,aG,aH])) ge ge ?_;simp[cN,BX,aX,aZ,aW,inObs,Pv.look,gv,aG,aH])
   ·have iJ:(r==x)=false:=by simp[ab]
    simp only[ab,ho,or_self,if_false]at U
    cases Bd:(c7 r uv).getD false with
    |true=>
     simp[Bd]at U;subst U
     (with_reducible repeat' first|refine ai ?_|simp[iJ,Bd])
     (refine cH.at (gv _ ⟨bM,uv,false⟩) Ψ (by first|exact qq _|exact qq ‹_› _) (Same.keys (by simp[gv,aG,aH]) (by simp[gv,aG,aH])) ge ge ?_;simp[cN,BX,aX,aZ,aW,inObs,Pv.look,gv,aG,aH])
    |false=>
     cases gX:bM.shd r with
     |false=>
      have Ml:(c7 r bM.shaped).getD false=false:=gX
      simp[Bd,gX]at U;subst U
      (with_reducible repeat' first|refine ai ?_|simp[iJ,Bd,Ml])
      (refine cH.at (gv _ ⟨bM,uv,false⟩) Ψ (by first|exact qq _|exact qq ‹_› _) (Same.keys (by simp[gv,aG,aH]) (by simp[gv,aG,aH])) ge ge ?_;simp[cN,BX,aX,aZ,aW,inObs,Pv.look,gv,aG,aH])
     |true=>
      have Ml:(c7 r bM.shaped).getD false=true:=gX
      simp[Bd,gX]at U
      have aO:=wZ _ _ _ _ U
      (with_reducible repeat' first|refine ai ?_|simp[iJ,Bd,Ml])
      (refine hJ.ob (aO) d9 d9 (Same.keys (by simp[eQ,aG,aH]) (by simp[eQ,aG,aH])) (by simp only[eQ,aG,aH,bW,b9];exact aN) (by simp only[eQ,aG,aH,bW,b9];exact aN) (by simp[inObs,Pv.look,eQ,aG,aH]) ?_;simp[cl,eQ,aG,aH])
      (with_reducible repeat' first|refine ai ?_|simp)
      (refine cH.at (gv _ bs) Ψ (by first|exact qq _|exact qq ‹_› _) (Same.keys (by simp[gv,aG,aH]) (by simp[gv,aG,aH])) ge ge ?_;simp[cN,BX,aX,aZ,aW,inObs,Pv.look,gv,aG,aH])
theorem Gx{K:Nat}(c5:zm K)(x:Int)(n:Nat):∀(t:T) (c:bA) (seen:List (Int×Bool)) (a:uM),qj n x t c seen=some a->bI al 244 [aH,t.e,.int .i64 x,.gmap (.obj K)] (eQ K (c,seen)) fun r ah=>r= .bool a.found/\ah=eQ K (a.c,a.seen):=by
 induction n with
 |zero=>intro t c seen a h;simp[qj]at h
 |succ n bR=>
  intro t c seen a h;simp only[qj]at h;have ag:=iE c5 (c,seen);have key:=Ll (gv K) (qq c5) JF 273 [.eptr aH,.ptr (.obj 712) 0,.eptr (.int .i64 x),.eptr (.gmap (.obj K))] (fun a=>by rcases c5 with rfl|rfl<;>simp[gv,aG,aH,inObs,Pv.look]) rfl (xG (qj n x) x) (fun v a bs h=>ag3 c5 n x bR v a bs h) t ⟨c,seen,false⟩ a h;have ad:=c5;rcases ad with rfl|rfl;all_goals
   simp only[eQ,aG,bW,b9]at ag⊢
   refine bI.mk mixed jU aeC alC Ψ ag.obj fun aM cR=>?_;unfold Rm
   simp[aH]
   refine cV.new key (qq c5 _) ge ge (by simp[inObs,Pv.look,gv,aG,aH]) ?_
   rintro r ah ⟨rfl,rfl⟩
   refine⟨fun m hm=>.inl ⟨?_,JF _ _⟩,?_⟩
   ·exact((JF _ _).inObs _).2 hm
   simp[cl,gv,aG]
   (with_reducible repeat' first|refine ai ?_|simp)
   (refine cH.at (eQ _ (a.c,a.seen)) Ψ d9 (Same.keys (by simp[eQ,aG,aH]) (by simp[eQ,aG,aH])) (by simp only[eQ,aG,aH,bW,b9];exact aN) (by simp only[eQ,aG,aH,bW,b9];exact aN) ?_;simp[cN,Yq,aX,aZ,aW,inObs,Pv.look,eQ,aG,aH])
@[simp]theorem M8:qg []=jG []:=rfl
@[simp]theorem av7(t:T):xO (some t)=t.e:=rfl
@[simp]theorem av6:xO none= .agg [.int .i64 0,.int .i64 0,.str [],.slice 4 .nil []]:=rfl
theorem Us(n:Nat)(x:Int)(t:T)(c:bA)(p:Bool×bA)(he:vF n x t c=some p):bI al 245 [aH,.int .i64 x,t.e] (aP c) fun r ah=>r= .bool p.1/\ah=aP p.2:=by have ag:=cm c;simp only[vF,hf]at he;obtain⟨a,J,rfl⟩:=he;have c5:zm 715:= .inl rfl;have key:=Gx c5 x n t (c.know x t) [] a J;simp only[aP,aG]at ag⊢;refine bI.mk mixed jU aez alz Ψ ag.obj fun aM cR=>?_;unfold Rj;simp[aH];(refine cV.ob (key) d9 (by simp only[eQ,aG,aH,bA.know,bW,b9];exact aN) (by simp only[eQ,aG,aH,bA.know,bW,b9];exact aN) (by simp[inObs,Pv.look,eQ,aG,aH,bA.know]) ?_;rintro r ah ⟨rfl,rfl⟩;refine⟨(Same.keys (by simp[eQ,aG,aH,bA.know]) (by simp[eQ,aG,aH,bA.know])),?_⟩;simp[cl,eQ,aG,aH,bA.know]);(refine cH.at (aP a.c) Ψ bv (Same.keys ci ci) bi bi ?_;simp[cN,Yn,aX,aZ,aW,inObs,Pv.look,aP,aG,aH])
theorem Uq(n:Nat):∀(a b:T) (c:bA) (p:Bool×bA),gO n a b c=some p->bI al 198 [aH,a.e,b.e] (aP c) fun r ah=>r= .bool p.1/\ah=aP p.2:=by
 induction n with
 |zero=>intro a b c p h;simp[gO]at h
 |succ n bR=>
  intro a b c p he;have ag:=cm c;have DT:∀i j,a= .var i->b= .var j->bI al 198 [aH,a.e,b.e] (aP c) fun r ah=>r= .bool p.1/\ah=aP p.2:=by
   rintro i j rfl rfl;simp only[gO,kK]at he;obtain⟨⟨x,bM⟩,J,⟨y,cp⟩,U,ar⟩:=he;simp only at U ar;simp only[aP,aG]at ag⊢;refine bI.mk mixed jU yn zo Ψ ag.obj fun aM cR=>?_;unfold wz;simp[aH];(refine cV.ob (se c i x bM J) bv bi bi dl ?_;rintro r ah ⟨rfl,rfl⟩;refine⟨(Same.keys ci ci),?_⟩;simp[cl,aP,aG,aH]);(with_reducible repeat' first|refine ai ?_|simp);(refine cV.ob (se bM j y cp U) bv bi bi dl ?_;rintro r ah ⟨rfl,rfl⟩;refine⟨(Same.keys ci ci),?_⟩;simp[cl,aP,aG,aH]);by_cases ib:x=y
   ·rw[if_pos ib]at ar;cases ar;(with_reducible repeat' first|refine ai ?_|simp[ib]);(refine cH.at (aP cp) Ψ bv (Same.keys ci ci) bi bi ?_;simp[cN,oM,aX,aZ,aW,inObs,Pv.look,aP,aG,aH])
   ·rw[if_neg ib]at ar;have Bk:(x==y)=false:=by simp[ib]
    have UL:zm 715:= .inl rfl;have ahF:zm 716:= .inr rfl;obtain⟨u,v,Bh,a6⟩:∃u v,((u=y/\v=x/\y<x)\/(u=x/\v=y/\¬y<x))/\r8 (gO n) n u v (cp.join u v)=some p:=by
     by_cases bE:y<x
     ·rw[if_pos bE]at ar;exact⟨y,x,.inl ⟨rfl,rfl,bE⟩,ar⟩
     ·rw[if_neg bE]at ar;exact⟨x,y,.inr ⟨rfl,rfl,bE⟩,ar⟩
    clear ar;obtain⟨d,aR⟩:∃d,d=cp.join u v:=⟨_,rfl⟩;have fD:d.up=eU v u cp.up:=by rw[aR];rfl
    have e2:d.shape=cp.shape:=by rw[aR];rfl
    have gR:d.shaped=cp.shaped:=by rw[aR];rfl
    have hU:d.color=cp.color:=by rw[aR];rfl
    have hV:d.size=cp.size:=by rw[aR];rfl
    have hW:d.full=cp.full:=by rw[aR];rfl
    rw[<-aR]at a6;simp only[r8]at a6;cases aF:d.shd v with
    |false=>
     have mE:(c7 v cp.shaped).getD false=false:=by rw[<-gR];exact aF
     rw[if_pos aF]at a6;cases hu:d.shd u with
     |false=>
      have sE:(c7 u cp.shaped).getD false=false:=by rw[<-gR];exact hu
      rw[if_pos hu]at a6;cases a6;rcases Bh with⟨rfl,rfl,bE⟩|⟨rfl,rfl,bE⟩;all_goals
       (with_reducible repeat' first|refine ai ?_|simp[Bk,bE,mE,sE])
       (refine cH.at (aP d) Ψ bv (Same.keys (by simp[aP,aG,aH,fD,e2,gR,hU,hV,hW]) (by simp[aP,aG,aH,fD,e2,gR,hU,hV,hW])) (by simp only[aP,aG,aH,fD,e2,gR,hU,hV,hW,bW,b9];exact aN) (by simp only[aP,aG,aH,fD,e2,gR,hU,hV,hW,bW,b9];exact aN) ?_;simp[cN,oM,aX,aZ,aW,inObs,Pv.look,aP,aG,aH,fD,e2,gR,hU,hV,hW])
     |true=>
      have sE:(c7 u cp.shaped).getD false=true:=by rw[<-gR];exact hu
      rw[if_neg (by simp[hu]),hf]at a6;obtain⟨a,b0,rfl⟩:=a6;have key:=Gx UL u n _ _ _ _ b0;rw[show d.shp u=(c7 u cp.shape).getD .nil from by rw[<-e2];rfl]at key;rcases Bh with⟨rfl,rfl,bE⟩|⟨rfl,rfl,bE⟩;all_goals
       (with_reducible repeat' first|refine ai ?_|simp[Bk,bE,mE,sE])
       (refine cV.ob (key) d9 go go (by simp[inObs,Pv.look,eQ,aG,aH,fD,e2,gR,hU,hV,hW]) ?_;rintro r ah ⟨rfl,rfl⟩;refine⟨(Same.keys (by simp[eQ,aG,aH,fD,e2,gR,hU,hV,hW]) (by simp[eQ,aG,aH,fD,e2,gR,hU,hV,hW])),?_⟩;simp[cl,eQ,aG,aH,fD,e2,gR,hU,hV,hW])
       (with_reducible repeat' first|refine ai ?_|simp)
       (refine cH.at (aP a.c) Ψ bv (Same.keys ci ci) bi bi ?_;simp[cN,oM,aX,aZ,aW,inObs,Pv.look,aP,aG,aH])
    |true=>
     have mE:(c7 v cp.shaped).getD false=true:=by rw[<-gR];exact aF
     rw[if_neg (by simp[aF])]at a6;rw[show d.shp v=(c7 v cp.shape).getD .nil from by rw[<-e2];rfl]at a6;cases hu:d.shd u with
     |false=>
      have sE:(c7 u cp.shaped).getD false=false:=by rw[<-gR];exact hu
      rw[if_pos hu]at a6;have key:=Us n u _ d p a6;cases aJ:c7 v cp.shape;all_goals
       rw[aJ]at key
       simp only[jM,kv]at key
       rcases Bh with⟨rfl,rfl,bE⟩|⟨rfl,rfl,bE⟩
       all_goals
        (with_reducible repeat' first|refine ai ?_|simp[Bk,bE,mE,sE,aJ])
        (refine cV.ob (key) bv (by simp only[aP,aG,aH,fD,e2,gR,hU,hV,hW,bW,b9];exact aN) (by simp only[aP,aG,aH,fD,e2,gR,hU,hV,hW,bW,b9];exact aN) (by simp[inObs,Pv.look,aP,aG,aH,fD,e2,gR,hU,hV,hW]) ?_;rintro r ah ⟨rfl,rfl⟩;refine⟨(Same.keys (by simp[aP,aG,aH,fD,e2,gR,hU,hV,hW]) (by simp[aP,aG,aH,fD,e2,gR,hU,hV,hW])),?_⟩;simp[cl,aP,aG,aH,fD,e2,gR,hU,hV,hW])
        (with_reducible repeat' first|refine ai ?_|simp)
        (refine cH.at (aP p.2) Ψ bv (Same.keys ci ci) bi bi ?_;simp[cN,oM,aX,aZ,aW,inObs,Pv.look,aP,aG,aH])
     |true=>
      have sE:(c7 u cp.shaped).getD false=true:=by rw[<-gR];exact hu
      rw[if_neg (by simp[hu]),kK]at a6;obtain⟨a,b0,df⟩:=a6;have key:=Gx UL u n _ _ _ _ b0;obtain⟨o,aJ⟩:∃o,c7 v cp.shape=o:=⟨_,rfl⟩;rw[aJ]at key df;obtain⟨ac,uv,JS⟩:=a;cases JS with
      |true=>
       simp at df;subst df;cases o;all_goals
        simp only[jM,kv]at key
        rcases Bh with⟨rfl,rfl,bE⟩|⟨rfl,rfl,bE⟩
        all_goals
         (with_reducible repeat' first|refine ai ?_|simp[Bk,bE,mE,sE,aJ])
         (refine hJ.ob (key) d9 d9 (Same.keys (by simp[eQ,aG,aH,fD,e2,gR,hU,hV,hW]) (by simp[eQ,aG,aH,fD,e2,gR,hU,hV,hW])) go go (by simp[inObs,Pv.look,eQ,aG,aH,fD,e2,gR,hU,hV,hW]) ?_;simp[cl,eQ,aG,aH,fD,e2,gR,hU,hV,hW])
         (with_reducible repeat' first|refine ai ?_|simp)
         (refine cH.at (aP ac) Ψ bv (Same.keys ci ci) bi bi ?_;simp[cN,oM,aX,aZ,aW,inObs,Pv.look,aP,aG,aH])
      |false=>
       simp only[ho,if_false,kK]at df;obtain⟨b,eB,oB⟩:=df;have xe:=Gx ahF u n _ _ _ _ eB;rw[show ac.shp u=(c7 u ac.shape).getD .nil from rfl]at xe;obtain⟨J0,ar7,ab0⟩:=b;cases ab0 with
       |true=>
        simp at oB;subst oB;cases o;all_goals
         simp only[jM,kv]at key
         rcases Bh with⟨rfl,rfl,bE⟩|⟨rfl,rfl,bE⟩
         all_goals
          (with_reducible repeat' first|refine ai ?_|simp[Bk,bE,mE,sE,aJ])
          (refine hJ.ob (key) d9 d9 (Same.keys (by simp[eQ,aG,aH,fD,e2,gR,hU,hV,hW]) (by simp[eQ,aG,aH,fD,e2,gR,hU,hV,hW])) go go (by simp[inObs,Pv.look,eQ,aG,aH,fD,e2,gR,hU,hV,hW]) ?_;simp[cl,eQ,aG,aH,fD,e2,gR,hU,hV,hW])
          (with_reducible repeat' first|refine ai ?_|simp)
          (refine hJ.ob (xe) d9 d9 (Same.keys (by simp[eQ,aG,aH]) (by simp[eQ,aG,aH])) (by simp only[eQ,aG,aH,bW,b9];exact aN) (by simp only[eQ,aG,aH,bW,b9];exact aN) (by simp[inObs,Pv.look,eQ,aG,aH]) ?_;simp[cl,eQ,aG,aH])
          (with_reducible repeat' first|refine ai ?_|simp)
          (refine cH.at (aP J0) Ψ bv (Same.keys ci ci) bi bi ?_;simp[cN,oM,aX,aZ,aW,inObs,Pv.look,aP,aG,aH])
       |false=>
        simp only[ho,if_false]at oB;have MQ:=bR _ _ _ _ oB;rw[show J0.shp u=(c7 u J0.shape).getD .nil from rfl]at MQ;cases o;all_goals
         simp only[jM,kv]at key MQ
         rcases Bh with⟨rfl,rfl,bE⟩|⟨rfl,rfl,bE⟩
         all_goals
          (with_reducible repeat' first|refine ai ?_|simp[Bk,bE,mE,sE,aJ])
          (refine hJ.ob (key) d9 d9 (Same.keys (by simp[eQ,aG,aH,fD,e2,gR,hU,hV,hW]) (by simp[eQ,aG,aH,fD,e2,gR,hU,hV,hW])) go go (by simp[inObs,Pv.look,eQ,aG,aH,fD,e2,gR,hU,hV,hW]) ?_;simp[cl,eQ,aG,aH,fD,e2,gR,hU,hV,hW])
          (with_reducible repeat' first|refine ai ?_|simp)
          (refine hJ.ob (xe) d9 d9 (Same.keys (by simp[eQ,aG,aH]) (by simp[eQ,aG,aH])) (by simp only[eQ,aG,aH,bW,b9];exact aN) (by simp only[eQ,aG,aH,bW,b9];exact aN) (by simp[inObs,Pv.look,eQ,aG,aH]) ?_;simp[cl,eQ,aG,aH])
          (with_reducible repeat' first|refine ai ?_|simp)
          (refine hJ.ob (MQ) bv bv (Same.keys ci ci) bi bi dl ?_;simp[cl,aP,aG,aH])
          (with_reducible repeat' first|refine ai ?_|simp)
          (refine cH.at (aP p.2) Ψ bv (Same.keys ci ci) bi bi ?_;simp[cN,oM,aX,aZ,aW,inObs,Pv.look,aP,aG,aH])
  have aF:∀i,a= .var i->b.kind≠1->bI al 198 [aH,a.e,b.e] (aP c) fun r ah=>r= .bool p.1/\ah=aP p.2:=by
   rintro i rfl af;have wP:((rt c i).bind fun p=>if p.2.shd p.1=false then vF n p.1 b p.2 else gO n (p.2.shp p.1) b p.2)=some p:=by cases b<;>first|exact he|simp at af
   simp only[kK]at wP;obtain⟨⟨x,bM⟩,J,U⟩:=wP;simp only at U;have gb:(b.kind==1)=false:=by simp[af]
   simp only[aP,aG]at ag⊢;refine bI.mk mixed jU yn zo Ψ ag.obj fun aM cR=>?_;unfold wz;simp[aH];(with_reducible repeat' first|refine ai ?_|simp[gb,af]);(refine cV.ob (se c i x bM J) bv bi bi dl ?_;rintro r ah ⟨rfl,rfl⟩;refine⟨(Same.keys ci ci),?_⟩;simp[cl,aP,aG,aH]);cases ab:bM.shd x with
   |false=>have iJ:(c7 x bM.shaped).getD false=false:=ab;rw[if_pos ab]at U;(with_reducible repeat' first|refine ai ?_|simp[iJ]);(refine cV.ob (Us n x b bM p U) bv bi bi dl ?_;rintro r ah ⟨rfl,rfl⟩;refine⟨(Same.keys ci ci),?_⟩;simp[cl,aP,aG,aH]);(refine cH.at (aP p.2) Ψ bv (Same.keys ci ci) bi bi ?_;simp[cN,oM,aX,aZ,aW,inObs,Pv.look,aP,aG,aH])
   |true=>have iJ:(c7 x bM.shaped).getD false=true:=ab;rw[if_neg (by simp[ab])]at U;have key:=bR _ _ _ _ U;(with_reducible repeat' first|refine ai ?_|simp[iJ]);(refine hJ.ob (key) bv bv (Same.keys ci ci) bi bi dl ?_;simp[cl,aP,aG,aH]);(with_reducible repeat' first|refine ai ?_|simp);(refine cH.at (aP p.2) Ψ bv (Same.keys ci ci) bi bi ?_;simp[cN,oM,aX,aZ,aW,inObs,Pv.look,aP,aG,aH])
  cases a with
  |var i=>
   cases b with
   |var j=>exact DT i j rfl rfl
   |_=>exact aF i rfl Ψ
  |pair bH a2=>
   cases b with
   |var j=>simp only[gO]at he;have key:=bR _ _ _ _ he;simp only[aP,aG]at ag⊢;refine bI.mk mixed jU yn zo Ψ ag.obj fun aM cR=>?_;unfold wz;simp[aH];(refine cV.ob (key) bv bi bi dl ?_;rintro r ah ⟨rfl,rfl⟩;refine⟨(Same.keys ci ci),?_⟩;simp[cl,aP,aG,aH]);(refine cH.at (aP p.2) Ψ bv (Same.keys ci ci) bi bi ?_;simp[cN,oM,aX,aZ,aW,inObs,Pv.look,aP,aG,aH])
   |pair bV b7=>
    simp only[gO,kK]at he;obtain⟨⟨f1,bM⟩,J,U⟩:=he;have key:=bR _ _ _ _ J;simp only[aP,aG]at ag⊢;refine bI.mk mixed jU yn zo Ψ ag.obj fun aM cR=>?_;unfold wz;simp[aH];(with_reducible repeat' first|refine ai ?_|simp);(refine hJ.ob (key) bv bv (Same.keys ci ci) bi bi dl ?_;simp[cl,aP,aG,aH]);cases f1 with
    |false=>simp at U;subst U;(with_reducible repeat' first|refine ai ?_|simp);(refine cH.at (aP bM) Ψ bv (Same.keys ci ci) bi bi ?_;simp[cN,oM,aX,aZ,aW,inObs,Pv.look,aP,aG,aH])
    |true=>simp at U;have xe:=bR _ _ _ _ U;(with_reducible repeat' first|refine ai ?_|simp);(refine hJ.ob (xe) bv bv (Same.keys ci ci) bi bi dl ?_;simp[cl,aP,aG,aH]);(with_reducible repeat' first|refine ai ?_|simp);(refine cH.at (aP p.2) Ψ bv (Same.keys ci ci) bi bi ?_;simp[cN,oM,aX,aZ,aW,inObs,Pv.look,aP,aG,aH])
   |_=>simp[gO]at he;subst he;simp only[aP,aG]at ag⊢;refine bI.mk mixed jU yn zo Ψ ag.obj fun aM cR=>?_;unfold wz;simp[aH];(refine cH.at (aP c) Ψ bv (Same.keys ci ci) bi bi ?_;simp[cN,oM,aX,aZ,aW,inObs,Pv.look,aP,aG,aH])
  |_=>
   cases b with
   |var j=>simp only[gO]at he;have key:=bR _ _ _ _ he;simp only[aP,aG]at ag⊢;refine bI.mk mixed jU yn zo Ψ ag.obj fun aM cR=>?_;unfold wz;simp[aH];(refine cV.ob (key) bv bi bi dl ?_;rintro r ah ⟨rfl,rfl⟩;refine⟨(Same.keys ci ci),?_⟩;simp[cl,aP,aG,aH]);(refine cH.at (aP p.2) Ψ bv (Same.keys ci ci) bi bi ?_;simp[cN,oM,aX,aZ,aW,inObs,Pv.look,aP,aG,aH])
   |_=>
    simp[gO]at he;subst he;simp only[aP,aG]at ag⊢;refine bI.mk mixed jU yn zo Ψ ag.obj fun aM cR=>?_;unfold wz;simp[aH];((with_reducible repeat' first|refine ai ?_|simp|((first|apply bU|apply bY|apply bX)<;>intro h<;>try simp at h))<;>(try exact cz));all_goals(refine cH.at (aP c) Ψ bv (Same.keys ci ci) bi bi ?_;simp[cN,oM,aX,aZ,aW,inObs,Pv.look,aP,aG,aH])
    all_goals simp_all
def mO(c:bA):Prop:= ∀x,0<=c.sz x/\c.sz x<=5001
theorem mO.rt{c:bA}(h:mO c){v r:Int}{cw:bA}(he:rt c v=some (r,cw)):mO cw:=by simp only[Pv.rt,hf,jO]at he;obtain⟨p,_,_,rfl⟩:=he;exact h
theorem mO.put{c:bA}(h:mO c){x k:Int}(ad:0<=k/\k<=5001)(m:List (Int×Int)):mO {c with size:=eU x k c.size,color:=m}:=fun z=>by
 show 0<=(c7 z (eU x k c.size)).getD 0/\(c7 z (eU x k c.size)).getD 0<=5001;rw[n9];split
 ·exact ad
 ·exact h z
theorem aho(c:bA)(v:Int)(p:Int×bA)(he:zI v c=some p):bI al 275 [.int .i64 v,.eptr aH] (aP c) fun r ah=>r= .int .i64 p.1/\ah=aP p.2:=by have ag:=cm c;simp only[zI,hf]at he;obtain⟨⟨r,bM⟩,J,rfl⟩:=he;simp only[aP,aG]at ag⊢;refine bI.mk mixed jU aeH alH Ψ ag.obj fun aM cR=>?_;unfold Rr;simp[aH];(refine hJ.ob (se c v r bM J) bv bv (Same.keys ci ci) bi bi dl ?_;simp[cl,aP,aG,aH]);(with_reducible repeat' first|refine ai ?_|simp);(refine cH.at (aP bM) Ψ bv (Same.keys ci ci) bi bi ?_;simp[cN,Yt,aX,aZ,aW,inObs,Pv.look,aP,aG,aH]);all_goals rfl
def gE(a:bA×Bool):cL:=⟨aG a.1++[(.obj 712,[.bool a.2])],[]⟩
theorem q3(a):dW (gE a):=by unfold gE aG;exact dW.of ⟨by intro m;simp[Pv.look],by intro m;simp[Pv.look]⟩ Ψ Ψ
theorem abw(a b):Same (gE a) (gE b):=Same.keys (by simp[gE,aG]) (by simp[gE,aG])
theorem ahn(n:Nat)(wZ:∀x c p,qW n x c=some p->mO c->mO p.2/\bI al 246 [aH,.int .i64 x] (aP c) fun r ah=>r= .bool p.1/\ah=aP p.2)
  (v:Int) (a bs:bA×Bool) (bz:mO a.1) (he:zT (qW n) v a=some bs):mO bs.1/\bI al 274 [.int .i64 v,.ptr (.obj 712) 0,.eptr aH] (gE a) fun r ah=>r= .tuple []/\ah=gE bs:=by
 have ag:=q3 a;obtain⟨c,f⟩:=a;cases f with
 |false=>simp[zT]at he;subst he;refine⟨bz,?_⟩;simp only[gE,aG,bW,b9]at ag⊢;refine bI.mk mixed jU TS XI Ψ ag.obj fun aM cR=>?_;unfold Kb;simp[aH];(with_reducible repeat' first|refine ai ?_|simp);(refine cH.at (gE (c,false)) Ψ (by first|exact q3 _|exact q3 ‹_› _) (Same.keys (by simp[gE,aG,aH]) (by simp[gE,aG,aH])) (by simp only[gE,aG,aH,bW,b9];exact aN) (by simp only[gE,aG,aH,bW,b9];exact aN) ?_;simp[cN,Ik,aX,aZ,aW,inObs,Pv.look,gE,aG,aH])
 |true=>
  simp only[zT,if_true,kK,hf]at he;obtain⟨⟨r,bM⟩,J,⟨f2,cp⟩,U,rfl⟩:=he;obtain⟨z2,key⟩:=wZ _ _ _ U (bz.rt J);refine⟨z2,?_⟩;simp only[gE,aG,bW,b9]at ag⊢;refine bI.mk mixed jU TS XI Ψ ag.obj fun aM cR=>?_;unfold Kb;simp[aH];(with_reducible repeat' first|refine ai ?_|simp);(refine hJ.ob (se c v r bM J) bv bv (Same.keys ci ci) bi bi dl ?_;simp[cl,aP,aG,aH]);(with_reducible repeat' first|refine ai ?_|simp);(refine hJ.ob (key) bv bv (Same.keys ci ci) bi bi dl ?_;simp[cl,aP,aG,aH]);cases f2 with
  |true=>(with_reducible repeat' first|refine ai ?_|simp);(refine cH.at (gE (cp,true)) Ψ (by first|exact q3 _|exact q3 ‹_› _) (Same.keys (by simp[gE,aG,aH]) (by simp[gE,aG,aH])) (by simp only[gE,aG,aH,bW,b9];exact aN) (by simp only[gE,aG,aH,bW,b9];exact aN) ?_;simp[cN,Ik,aX,aZ,aW,inObs,Pv.look,gE,aG,aH])
  |false=>(with_reducible repeat' first|refine ai ?_|simp);(refine cH.at (gE (cp,false)) Ψ (by first|exact q3 _|exact q3 ‹_› _) (Same.keys (by simp[gE,aG,aH]) (by simp[gE,aG,aH])) (by simp only[gE,aG,aH,bW,b9];exact aN) (by simp only[gE,aG,aH,bW,b9];exact aN) ?_;simp[cN,Ik,aX,aZ,aW,inObs,Pv.look,gE,aG,aH])
theorem ahm(n:Nat):∀(x:Int) (c:bA) (p:Bool×bA),qW n x c=some p->mO c->mO p.2/\bI al 246 [aH,.int .i64 x] (aP c) fun r ah=>r= .bool p.1/\ah=aP p.2:=by
 induction n with
 |zero=>intro x c p h;simp[qW]at h
 |succ n bR=>
  intro x c p he bz;have ag:=cm c;simp only[qW]at he;by_cases U:c.col x=2
  ·rw[if_pos U]at he;cases he;have Dd:il c.color x=2:=U;refine⟨bz,?_⟩;simp only[aP,aG]at ag⊢;refine bI.mk mixed jU CX El Ψ ag.obj fun aM cR=>?_;unfold Ai;simp[aH];(with_reducible repeat' first|refine ai ?_|simp[Dd]);(refine cH.at (aP c) Ψ bv (Same.keys ci ci) bi bi ?_;simp[cN,BY,aX,aZ,aW,inObs,Pv.look,aP,aG,aH])
  rw[if_neg U]at he;have Dd:(il c.color x==2)=false:=by simp;exact U
  by_cases J:c.col x=1
  ·rw[if_pos J]at he;cases he;have oA:il c.color x=1:=J;refine⟨bz,?_⟩;simp only[aP,aG]at ag⊢;refine bI.mk mixed jU CX El Ψ ag.obj fun aM cR=>?_;unfold Ai;simp[aH];(with_reducible repeat' first|refine ai ?_|simp[oA]);(refine cH.at (aP c) Ψ bv (Same.keys ci ci) bi bi ?_;simp[cN,BY,aX,aZ,aW,inObs,Pv.look,aP,aG,aH])
  rw[if_neg J]at he;have oA:(il c.color x==1)=false:=by simp;exact J
  have VS:mO (c.grey x):=bz.put Ω _;cases mD:(c.grey x).shd x with
  |false=>rw[if_pos mD]at he;cases he;have tT:(c7 x c.shaped).getD false=false:=mD;refine⟨VS,?_⟩;simp only[aP,aG]at ag⊢;refine bI.mk mixed jU CX El Ψ ag.obj fun aM cR=>?_;unfold Ai;simp[aH];(with_reducible repeat' first|refine ai ?_|simp[Dd,oA,tT]);(refine cH.at (aP ((c.grey x).black x)) Ψ bv (Same.keys (by simp[aP,aG,aH,bA.grey,bA.black]) (by simp[aP,aG,aH,bA.grey,bA.black])) (by simp only[aP,aG,aH,bA.grey,bA.black,bW,b9];exact aN) (by simp only[aP,aG,aH,bA.grey,bA.black,bW,b9];exact aN) ?_;simp[cN,BY,aX,aZ,aW,inObs,Pv.look,aP,aG,aH,bA.grey,bA.black])
  |true=>
   rw[if_neg (by simp[mD]),kK]at he;have tT:(c7 x c.shaped).getD false=true:=mD;obtain⟨⟨e,f⟩,ar,a6⟩:=he;simp only at a6;obtain⟨aa7,key⟩:=Up gE q3 abw 274 [.ptr (.obj 712) 0,.eptr aH] (fun a=>by simp[gE,aG,aH,inObs,Pv.look]) rfl (fun a=>mO a.1) (zT (qW n)) (fun v a bs bz h=>ahn n bR v a bs bz h) _ _ _ VS ar;rw[show(c.grey x).shp x=(c7 x c.shape).getD .nil from rfl]at key;cases f with
   |false=>simp at a6;subst a6;refine⟨aa7,?_⟩;simp only[aP,aG]at ag⊢;refine bI.mk mixed jU CX El Ψ ag.obj fun aM cR=>?_;unfold Ai;simp[aH];(with_reducible repeat' first|refine ai ?_|simp[Dd,oA,tT]);(refine cV.ob (key) (by first|exact q3 _|exact q3 ‹_› _) (by simp only[gE,aG,aH,bA.grey,bW,b9];exact aN) (by simp only[gE,aG,aH,bA.grey,bW,b9];exact aN) (by simp[inObs,Pv.look,gE,aG,aH,bA.grey]) ?_;rintro r ah ⟨rfl,rfl⟩;refine⟨(Same.keys (by simp[gE,aG,aH,bA.grey]) (by simp[gE,aG,aH,bA.grey])),?_⟩;simp[cl,gE,aG,aH,bA.grey]);(with_reducible repeat' first|refine ai ?_|simp);(refine cH.at (aP e) Ψ bv (Same.keys ci ci) bi bi ?_;simp[cN,BY,aX,aZ,aW,inObs,Pv.look,aP,aG,aH])
   |true=>
    rw[if_neg Ψ,hf]at a6;obtain⟨⟨k,aD⟩,b0,rfl⟩:=a6;obtain⟨z2,b7,xe⟩:=ag9 aP cm Fw 275 [.eptr aH] (fun a=>by simp[aP,aG,aH,inObs,Pv.look]) rfl mO zI (fun v a p bz h=>by simp only[zI,hf]at h;obtain⟨⟨r,bM⟩,J,rfl⟩:=h;exact⟨bz.rt J,(bz.rt J r).1,Int.le_trans (bz.rt J r).2 Ω⟩) (fun v a p _ h=>aho a v p h) _ _ _ aa7 b0
    rw[show bA.shp e x=(c7 x e.shape).getD .nil from rfl]at xe;refine⟨z2.put b7 _,?_⟩;simp only[aP,aG]at ag⊢;refine bI.mk mixed jU CX El Ψ ag.obj fun aM cR=>?_;unfold Ai;simp[aH];(with_reducible repeat' first|refine ai ?_|simp[Dd,oA,tT]);(refine cV.ob (key) (by first|exact q3 _|exact q3 ‹_› _) (by simp only[gE,aG,aH,bA.grey,bW,b9];exact aN) (by simp only[gE,aG,aH,bA.grey,bW,b9];exact aN) (by simp[inObs,Pv.look,gE,aG,aH,bA.grey]) ?_;rintro r ah ⟨rfl,rfl⟩;refine⟨(Same.keys (by simp[gE,aG,aH,bA.grey]) (by simp[gE,aG,aH,bA.grey])),?_⟩;simp[cl,gE,aG,aH,bA.grey]);(with_reducible repeat' first|refine ai ?_|simp);(refine hJ.ob (xe) bv bv (Same.keys ci ci) bi bi dl ?_;simp[cl,aP,aG,aH]);(with_reducible repeat' first|refine ai ?_|simp);(refine cH.at (aP (({aD with size:=eU x k aD.size}:bA).black x)) Ψ bv (Same.keys (by simp[aP,aG,aH,bA.black]) (by simp[aP,aG,aH,bA.black])) (by simp only[aP,aG,aH,bA.black,bW,b9];exact aN) (by simp only[aP,aG,aH,bA.black,bW,b9];exact aN) ?_;simp[cN,BY,aX,aZ,aW,inObs,Pv.look,aP,aG,aH,bA.black])
theorem ahk(n:Nat)(wZ:∀x c p,qV n x c=some p->bI al 247 [aH,.int .i64 x] (aP c) fun r ah=>r=p.1.e/\ah=aP p.2)
  (v:Int) (c:bA) (p:T×bA) (he:Ct (qV n) v c=some p):bI al 276 [.int .i64 v,.eptr aH] (aP c) fun r ah=>r= .tuple [p.1.e,.bool true]/\ah=aP p.2:=by
 have ag:=cm c;simp only[Ct,kK]at he;obtain⟨⟨r,bM⟩,J,U⟩:=he;have key:=wZ _ _ _ U;simp only[aP,aG]at ag⊢;refine bI.mk mixed jU aeG alG Ψ ag.obj fun aM cR=>?_;unfold Rq;simp[aH];(with_reducible repeat' first|refine ai ?_|simp);(refine hJ.ob (se c v r bM J) bv bv (Same.keys ci ci) bi bi dl ?_;simp[cl,aP,aG,aH]);(with_reducible repeat' first|refine ai ?_|simp);(refine hJ.ob (key) bv bv (Same.keys ci ci) bi bi dl ?_;simp[cl,aP,aG,aH]);(with_reducible repeat' first|refine ai ?_|simp);(refine cH.at (aP p.2) Ψ bv (Same.keys ci ci) bi bi ?_;simp[cN,Ys,aX,aZ,aW,inObs,Pv.look,aP,aG,aH])
theorem kI(n:Int):bC al 96 [.int .i64 n] (T.var n).e:=by refine bc jU ae4 al4 fun aM=>?_;unfold RO;exact bQ
theorem ahj(n:Nat):∀(x:Int) (c:bA) (p:T×bA),qV n x c=some p->bI al 247 [aH,.int .i64 x] (aP c) fun r ah=>r=p.1.e/\ah=aP p.2:=by
 induction n with
 |zero=>intro x c p h;simp[qV]at h
 |succ n bR=>
  intro x c p he;have ag:=cm c;simp only[qV]at he;cases aK:c7 x c.full with
  |some t=>rw[aK]at he;cases he;simp only[aP,aG]at ag⊢;refine bI.mk mixed jU KX NM Ψ ag.obj fun aM cR=>?_;unfold FR;simp[aH];(with_reducible repeat' first|refine ai ?_|simp[aK]);(refine cH.at (aP c) Ψ bv (Same.keys ci ci) bi bi ?_;simp[cN,Ij,aX,aZ,aW,inObs,Pv.look,aP,aG,aH])
  |none=>
   rw[aK]at he;simp only at he;cases mD:c.shd x with
   |false=>have tT:(c7 x c.shaped).getD false=false:=mD;rw[if_pos mD]at he;cases he;simp only[aP,aG]at ag⊢;refine bI.mk mixed jU KX NM Ψ ag.obj fun aM cR=>?_;unfold FR;simp[aH];(with_reducible repeat' first|refine ai ?_|refine az (kI _) ?_|refine aA (kI _) ?_|simp[aK,tT]);(refine cH.at (aP {c with full:=eU x (.var x) c.full}) Ψ bv (Same.keys ci ci) bi bi ?_;simp[cN,Ij,aX,aZ,aW,inObs,Pv.look,aP,aG,aH])
   |true=>have tT:(c7 x c.shaped).getD false=true:=mD;rw[if_neg (by simp[mD]),hf]at he;obtain⟨⟨t,bM⟩,J,rfl⟩:=he;have key:=agT aP cm Fw 276 [.eptr aH] (fun a=>by simp[aP,aG,aH,inObs,Pv.look]) rfl (Ct (qV n)) (fun v a p h=>ahk n bR v a p h) _ _ _ J;rw[show c.shp x=(c7 x c.shape).getD .nil from rfl]at key;simp only[aP,aG]at ag⊢;refine bI.mk mixed jU KX NM Ψ ag.obj fun aM cR=>?_;unfold FR;simp[aH];(with_reducible repeat' first|refine ai ?_|refine az (kI _) ?_|refine aA (kI _) ?_|simp[aK,tT]);(refine cV.ob (key) bv bi bi dl ?_;rintro r ah ⟨rfl,rfl⟩;refine⟨(Same.keys ci ci),?_⟩;simp[cl,aP,aG,aH]);(with_reducible repeat' first|refine ai ?_|simp);(refine cH.at (aP {bM with full:=eU x t bM.full}) Ψ bv (Same.keys ci ci) bi bi ?_;simp[cN,Ij,aX,aZ,aW,inObs,Pv.look,aP,aG,aH])
theorem agX:bI al 195 [] ⟨[],[]⟩ fun r ah=>r=aH/\ah=aP bA.new:=by have ag:dW ⟨[],[]⟩:=dW.of zk Ψ Ψ;refine bI.mk mixed jU aeP alP Ψ ag.obj fun aM cR=>?_;unfold Rz;simp;refine cH.new (aP bA.new) (.inl rfl) (cm _) ⟨trivial,trivial⟩ (by simp only[aP,aG,bA.new];exact aN) (by simp only[aP,aG,bA.new];exact aN) ?_;simp[cN,YA,aX,aZ,aW,inObs,Pv.look,aP,aG,aH]
theorem ZA{a b:List Int}(h:a.Perm b):rJ a=rJ b:=by
 have aJ:∀a b c:Int,(decide (a<=b))=true->(decide (b<=c))=true->(decide (a<=c))=true:=by intro a b c;simp;omega
 have w5:∀a b:Int,(decide (a<=b)||decide (b<=a))=true:=by intro a b;simp;omega
 have J:=List.pairwise_mergeSort aJ w5 a;have U:=List.pairwise_mergeSort aJ w5 b;refine P8 (le:=fun x y:Int=>(decide (x<=y))=true) (fun x y _ _ J U=>by simp at J U;omega) J U ?_;exact(List.mergeSort_perm a _).trans (h.trans (List.mergeSort_perm b _).symm)
def ajz(l:List Int)(k:Nat)(st:bu):Prop:=∃(seen:List Nat) (xs:List Int),seen.Nodup/\(∀b∈seen,b<l.length)/\k=l.length-seen.length/\xs=seen.filterMap (fun b=>l[b]?)/\xs.length=seen.length/\st=⟨[(3,.row 1 (.obj 306) xs.length),(7,.ptr (.loc 0) 0)],[(.obj 304,o9 l),(.loc 0,bP l.length seen (.obj 304))],[(.obj 306,⟨xs.length,3,1,some (dM xs)⟩)],1,[.obj 306,.obj 304]⟩
@[simp]theorem atx(xs:List Int):(dM xs).length=xs.length:=by simp[dM]
@[simp]theorem avX(xs:List Int):c6 (dM xs)=dM xs:=by
 induction xs with
 |nil=>rfl
 |cons x r bR=>simp only[dM,gM,c6,dz]at bR⊢;rw[bR]
@[simp]theorem aty:dM []=[]:=rfl
theorem MF(xs:List Int)(x:Int):dM xs++[aj.int .i64 x]=dM (xs++[x]):=by simp[dM]
theorem ahi(l:List Int)(au:l.length<=1000000):bI al 189 [.gmap (.obj 304)] (uN l) fun r ah=>r= .slice 1 .no (dM (rJ l))/\ah=uN l:=by
 have ag:=Qk l;unfold uN at ag⊢;refine bI.mk mixed gj ae2 al2 Ψ ag.obj fun aM cR=>?_;unfold RM;simp;refine tD (ajz l) l.length _ ⟨by simp[fresh,aC,aB,bP,inObs,Pv.look,ni,ua],dD (by simp[fresh,aC,aB,bP,inObs,Pv.look,ni,ua]),dE (by simp[fresh,aC,aB,dt,inObs,Pv.look,ni,ua]),Ψ⟩ ⟨[],[],Ψ,Ψ,Ψ,Ψ,Ψ,rfl⟩ ?_;rintro k st ⟨seen,xs,aR,bE,ad,gY,jB,rfl⟩ p9 cR;clear p9 cR;have hle:=ET aR bE;simp;refine ado (mk:= .obj 304) (seen:=seen) (l:=l) Ψ Ψ rfl (fun k8=>?_) (fun b x ab af=>?_)
 ·simp;have sB:=IU aR bE k8;rw[<-gY]at sB;refine cV.ob (ahg 306 xs Ω) (JG 306 xs) (by unfold nC;exact aN) (by unfold nC;exact aN) (by simp[nC,inObs,Pv.look]) ?_;rintro r ah ⟨rfl,rfl⟩;refine⟨⟨fun _=>rfl,fun k=>by simp only[nC,Pv.look];split<;>rfl⟩,?_⟩;unfold nC;simp[cl,Zz];refine cH.at _ (.inl rfl) ag (Same.refl _) aN aN ?_;simp[cN,YH,aX,aZ,aW];rw[ZA sB];simp[aB,ua]
 ·have wY:∀f:aI->Option (List aj),f (.loc 0)=some (bP l.length (seen++[b]) (.obj 304))->f (.obj 304)=some (o9 l)->oJ f (.ptr (.loc 0) 0)=some (True,.tuple [.int .i64 x,.bool true]):=fun f J U=>akt f (.loc 0) (.obj 304) l.length seen b l x J U rfl ab;have fw:b<l.length:=(eV.1 ab).1;have qd:=IW aR bE fw af;simp[wY,MF];refine⟨by unfold lim;omega,?_⟩;refine bK.next (l.length-(seen.length+1)) Ω ⟨seen++[b],xs++[x],HV aR af,(by simp;intro c aw;rcases aw with aw|rfl;exact bE c aw;exact fw),Ψ,by rw[List.filterMap_append,<-gY];simp[ab],by simp[jB],rfl⟩ ⟨by simp[fresh,aC,aB,bP,inObs,Pv.look,ni,ua],dD (by simp[fresh,aC,aB,bP,inObs,Pv.look,ni,ua]),dE (by simp[fresh,aC,aB,dt,inObs,Pv.look,ni,ua]),Ψ⟩
@[simp]theorem atM(S:aI->Prop)(xs:List Int):aC S (dM xs)=True:=eq_true (ua S xs)
@[simp]theorem asr:cells .junk=[.junk]:=rfl
def RJ:C:=(aa [er 6 5,a8 7 false] (aa [dn 12 195 [],I 8 12] (.seq (aa [I 13 0,ca 14 13,bS 15 0] (e0 16 15 14 (.seq (.block 1 (aa [cf 17 5 13 15,aY 18 5 17,c1 10 jF,bB 5 10 18] (aa [I 19 8,aE 20 0 1 10,av 21 1 20,b2 22 196 19 21] (aa [I 23 8,eO 24 1 4 10,aY 25 4 24,b2 26 197 23 25] (.seq (.drawn false 69 [I 27 8,aE 28 0 1 10,av 29 1 28,cB 30 96 29,eO 31 1 4 10,aY 32 4 31,dn 33 198 [.t 27,.t 30,.t 32],cj 34 33]) (aT 34 (aa [er 6 5,a8 7 false] .ret) .skip)))))) (.region [aV 35 .add 15 1,I 15 35])))) (.seq (aa [I 36 1,ca 37 36,bS 38 0] (.block 2 (.loop (aa [bk 39 .lss 38 37] (.seq (aT 39 .skip (.exit 2)) (.seq (.block 3 (aa [I 40 38,I 11 40] (aa [I 41 8,I 42 1,I 43 11,cf 44 4 42 43,aY 45 4 44,b2 46 197 41 45] (aa [I 47 8,I 48 2,I 49 11,cf 50 4 48 49,aY 51 4 50,b2 52 197 47 51] (.seq (.drawn false 69 [I 53 8,I 54 1,I 55 11,cf 56 4 54 55,aY 57 4 56,I 58 2,I 59 11,cf 60 4 58 59,aY 61 4 60,dn 62 198 [.t 53,.t 57,.t 61],cj 63 62]) (aT 63 (aa [er 6 5,a8 7 false] .ret) .skip)))))) (.region [aV 64 .add 38 1,I 38 64]))))))) (aa [I 65 8,cB 66 199 65,cr 67 0 66,cr 68 1 66,I 6 67,I 7 68] .ret)))))
@[simp] def Oq:List bO:=[.tmp 6,.tmp 7]
def Rp:C:=(aa [er 2 5,a8 3 false] (aa [cP (.mkmap 12 (some 304)),I 4 12] (.seq (aa [I 13 0,fK 14 13,aE 15 0 1 14,av 16 1 15,cP (.range 17 none (.t 16))] (.block 0 (.loop (aa [⟨none,.next 18 (.t 17)⟩,cr 19 0 18] (.seq (aT 19 .skip (.exit 0)) (.block 1 (aa [b5 20 (.ment (.t 17)),cr 21 0 20,I 5 21] (.region [I 22 4,I 23 5,cP (.mput .i (.t 22) (.t 23) (.c (.bool true)))])))))))) (aa [I 24 4,cB 25 189 24,I 6 25] (aa [cP (.bslm 26 none 5 61 []),I 7 26] (.seq (aa [I 27 6,ca 28 27,bS 29 0] (.block 2 (.loop (aa [bk 30 .lss 29 28] (.seq (aT 30 .skip (.exit 2)) (.seq (.block 3 (aa [cf 31 1 27 29,av 32 1 31,I 9 32] (aa [I 33 0,I 34 9,b2 35 196 33 34,I 10 35] (.seq (aa [I 36 0,I 37 10,b2 38 246 36 37,cj 39 38] (aT 39 (aa [er 2 5,a8 3 false] .ret) .skip)) (.seq (aa [I 40 10,I 41 9,bk 42 .eql 40 41,I 43 42,cb 43 true 44 0,aq 43 true (fK 45 44),aq 43 true (aE 46 2 1 45),aq 43 true (av 47 1 46),cb 43 true 48 10,aq 43 true (b5 49 (.mget .i (.bool false) false (.t 47) (.t 48))),aq 43 true (cj 50 49),dL 51 43 50] (aT 51 (.exit 3) .skip)) (aa [I 52 7,I 53 9,iq 54 jF [(0,1,(.t 53))],eI 55 5 61 [.t 54],cP (.appm 56 none 5 61 (.t 52) (.t 55)),I 7 56] (aa [I 57 0,fK 58 57,aE 59 4 1 58,av 60 1 59,I 61 10,b5 62 (.mget .i (.int .i64 0) false (.t 60) (.t 61)),aV 63 .gtr 62 5000,I 64 63,cb 64 false 65 7,aq 64 false (ca 66 65),aq 64 false (aV 67 .gtr 66 400),cW 68 64 67] (aT 68 (aa [er 2 5,a8 3 false] .ret) .skip)))))))) (.region [aV 69 .add 29 1,I 29 69]))))))) (.seq (aa [I 70 7,ca 71 70,bS 72 0] (.block 4 (.loop (aa [bk 73 .lss 72 71] (.seq (aT 73 .skip (.exit 4)) (.seq (.block 5 (aa [I 74 72,I 11 74] (.region [I 75 7,I 76 11,I 77 0,I 78 0,I 79 7,I 80 11,cf 81 5 79 80,aE 82 0 1 81,av 83 1 82,b2 84 196 78 83,b2 85 247 77 84,cB 86 200 85,cf 87 5 75 76,eO 88 1 4 87,bB 4 88 86]))) (.region [aV 89 .add 72 1,I 72 89]))))))) (.seq (.pub 7 (.region [I 90 7,I 2 90,a8 3 true])) .ret))))))))
@[simp] def Ii:List bO:=[.tmp 2,.tmp 3]
def PB:List (Nat×dN):=[
 (3,⟨1,8,.int .i64,.int .i64 0⟩),
 (4,⟨1,1,.bool,.bool false⟩),
 (23,⟨1,24,.slice 61,.slice 5 .nil []⟩),
 (30,⟨1,24,.slice 32,.slice 4 .nil []⟩),
 (32,⟨4,56,.struct [(0,3),(1,3),(2,9),(3,30)],.agg [.int .i64 0,.int .i64 0,.str [],.slice 4 .nil []]⟩),
 (61,⟨5,64,.struct [(0,3),(1,32)],.agg [.int .i64 0,.int .i64 0,.int .i64 0,.str [],.slice 4 .nil []]⟩),
 (112,⟨1,24,.slice 3,.slice 1 .nil []⟩),
 (154,⟨1,8,.map 3 4,.junk⟩),
 (182,⟨1,8,.map 3 3,.junk⟩),
 (245,⟨6,48,.struct [(0,182),(1,127),(2,154),(3,182),(4,182),(5,127)],.agg [.junk,.junk,.junk,.junk,.junk,.junk]⟩)]
theorem Z3:fY al PB=true:=by kernel_rfl
theorem alZ:bZ PB RJ Oq 3 Tryz.f118=true:=by kernel_rfl
theorem aeZ:al.funcs[(118:Nat)]? =some Tryz.f118:=Tryz.func118
theorem alF:bZ PB Rp Ii 1 Tryz.f199=true:=by kernel_rfl
theorem aeF:al.funcs[(199:Nat)]? =some Tryz.f199:=Tryz.func199
def fR(o:Option (List ao)):aj:= .tuple [.slice 5 .no ((o.getD []).map ao.e),.bool o.isSome]
theorem akw(f:aI->Option (List aj))(eY mk:aI)(n:Nat)(seen:List Nat)(b:Nat)(l:List (Int×Int))(x:Int×Int)(hi:f eY=some (bP n (seen++[b]) mk))(hm:f mk=some (lJ l))(ax:n=l.length)(ab:l[b]? =some x):oJ f (.ptr eY 0)=some (True,.tuple [.int .i64 x.1,.int .i64 x.2]):=by rw[Nl f eY mk n seen b _ hi hm (by simpa using ax)];simp[ab]
theorem adq{st:bu}{d:Nat}{K:bu->Prop}{eY mk:aI}{n:Nat}{seen:List Nat}{l:List (Int×Int)}(hi:Pv.look eY st.b=some (bP n seen mk))(hm:Pv.look mk st.b=some (lJ l))(ax:n=l.length)
  (J:(∀b,b<l.length->b∈seen)->K {st with t:=Pv.put d (.tuple [.bool false]) st.t}) (U:∀b x,l[b]? =some x->b∉seen->K {st with t:=Pv.put d (.tuple [.bool true,.int .i64 x.1,.int .i64 x.2]) st.t,b:=cA eY (bP n (seen++[b]) mk) st.b}):
  r9 st d (.ptr eY 0) K:=by
 refine KP hi hm (by simpa using ax) (fun h=>J fun b af=>h b Ω) (fun b k v af ag=>?_);simp only[tk,hf]at af;obtain⟨x,ak,aD⟩:=af;simp only[jO]at aD;obtain⟨rfl,rfl⟩:=aD;exact U b x ak ag
@[simp]theorem au9(m:aI)(l:List (Int×Int)):xF m (lJ l)=some (bP l.length [] m):=by simp[lJ,sN]
def ov(v:Int):aj:= .agg [.int .i64 v,.int .i64 0,.int .i64 0,.str [],.slice 4 .nil []]
@[simp]theorem ajU(S:aI->Prop)(l:List Int):aC S (l.map ov)=True:=by
 apply eq_true;induction l with
 |nil=>simp[aC]
 |cons x r bR=>simp only[gM,aC];exact⟨by simp[ov,aB,aC],bR⟩
@[simp]theorem at1(S:aI->Prop)(v:Int):aB S (ov v)=True:=by simp[ov,aB,aC]
@[simp]theorem avl(v:Int):eT (ov v)=true:=rfl
@[simp]theorem asa(v:Int):cells (ov v)=[.int .i64 v,.int .i64 0,.int .i64 0,.str [],.slice 4 .nil []]:=rfl
theorem aoV(v:Int)(f:Nat)(cs:List aj):nr (ov v) f cs= .agg (oN [.int .i64 v,.int .i64 0,.int .i64 0,.str [],.slice 4 .nil []] f cs):=rfl
theorem kl{S:aI->Prop}:∀{a b:List aj},aC S (a++b)↔(aC S a/\aC S b)
 |[],b=>by simp[aC]
 |x::a,b=>by simp[aC,kl (a:=a),and_assoc]
@[simp]theorem atL(S:aI->Prop)(k:Nat)(l:List Int):aC S (ny k (l.map ov))=True:=by rw[<-List.map_drop];exact ajU S _
@[simp]theorem auh(S:aI->Prop)(o:Option (List ao)):aB S (fR o)=True:=by simp[fR]
theorem JZ(l:List Int)(v:Int):l.map ov++[.agg [.int .i64 v,.int .i64 0,.int .i64 0,.str [],.slice 4 .nil []]]=(l++[v]).map ov:=by simp[ov]
def ajv(c:bA)(k:Nat)(st:bu):Prop:=∃(seen:List Nat) (xs:List Int),seen.Nodup/\(∀b∈seen,b<c.up.length)/\k=c.up.length-seen.length/\xs=seen.filterMap (fun b=>(c.up[b]?).map (·.1))/\xs.length=seen.length/\st=⟨[(0,aH),(4,.gmap (.obj 304)),(17,.ptr (.loc 0) 0)],aG c++[(.obj 304,o9 xs),(.loc 0,bP c.up.length seen (.obj 702))],[],1,[.obj 304,.obj 702,.obj 703,.obj 704,.obj 705,.obj 706,.obj 707]⟩
theorem ao7{c:bA}{seen:List Nat}(aR:seen.Nodup)(bE:∀b∈seen,b<c.up.length)(k8:∀b,b<c.up.length->b∈seen):(seen.filterMap fun b=>(c.up[b]?).map (·.1)).Perm (cx c.up):=by have:=IU (l:=cx c.up) aR (by simpa[cx]using bE) (by simpa[cx]using k8);simpa[cx]using this
theorem ao8{c:bA}(ax:(cx c.up).Nodup){seen:List Nat}{b:Nat}(af:b∉seen){x:Int×Int}(ab:c.up[b]? =some x):x.1∉seen.filterMap fun b=>(c.up[b]?).map (·.1):=by
 intro hm;rw[List.mem_filterMap]at hm;obtain⟨b4,J,U⟩:=hm;obtain⟨y,ar,a6⟩:=hf.1 U;have ak:(cx c.up)[b]? =some x.1:=by simp[cx,ab]
 have aD:(cx c.up)[b4]? =some x.1:=by simp[cx,ar,a6]
 have bE:=(eV.1 ak).1;have wW:=(eV.1 aD).1;have f1:=(eV.1 ak).2;have f2:=(eV.1 aD).2;rcases Nat.lt_trichotomy b b4 with h|h|h
 ·exact qo.1 ax b b4 bE wW h (f1.trans f2.symm)
 ·subst h;exact af J
 ·exact qo.1 ax b4 b wW bE h (f2.trans f1.symm)
theorem ahb(n:Nat)(c:bA)(o:Option (List ao))(he:EZ n (rK (cx c.up)) c=some o)(oE:(cx c.up).Nodup)(hlen:c.up.length<=1000000)(bz:mO c):bI al 199 [aH] (aP c) fun r ah=>r=fR o/\∃cw,ah=aP cw:=by
 have ag:=cm c;simp only[aP,aG]at ag⊢;refine bI.mk mixed Z3 aeF alF Ψ ag.obj fun aM cR=>?_;unfold Rp;simp[aH];have Dy:∀S:aI->Prop,aC S (jG []):=fun S=>ni S [];refine tD (ajv c) c.up.length _ ⟨by simp[fresh,aC,aB,bP,inObs,Pv.look,ni,aH,aG,Dy],dD (by simp[fresh,aC,aB,bP,inObs,Pv.look,ni,aH,aG,Dy]),dE (by simp[fresh,aC,aB,dt,inObs,Pv.look,ni,aH,aG,Dy]),Ψ⟩ ⟨[],[],Ψ,Ψ,Ψ,Ψ,Ψ,rfl⟩ ?_;rintro k st ⟨seen,xs,aR,bE,ad,gY,jB,rfl⟩ p9 cR;clear p9 cR;have hle:=ET aR bE;simp[aG,aH];refine adq (mk:= .obj 702) (seen:=seen) (l:=c.up) Ψ Ψ rfl (fun k8=>?_) (fun b x ab af=>?_);rotate_left
 ·have wY:∀f:aI->Option (List aj),f (.loc 0)=some (bP c.up.length (seen++[b]) (.obj 702))->f (.obj 702)=some (lJ c.up)->oJ f (.ptr (.loc 0) 0)=some (True,.tuple [.int .i64 x.1,.int .i64 x.2]):=fun f J U=>akw f (.loc 0) (.obj 702) c.up.length seen b c.up x J U rfl ab;have fw:b<c.up.length:=(eV.1 ab).1;have qd:=IW aR bE fw af;have kS:=ao8 oE af ab;rw[<-gY]at kS;simp[wY,pV,kS];refine bK.next (c.up.length-(seen.length+1)) Ω ⟨seen++[b],xs++[x.1],HV aR af,(by simp;intro c aw;rcases aw with aw|rfl;exact bE c aw;exact fw),Ψ,by rw[List.filterMap_append,<-gY];simp[ab],by simp[jB],rfl⟩ ⟨by simp[fresh,aC,aB,bP,inObs,Pv.look,ni,aH,aG],dD (by simp[fresh,aC,aB,bP,inObs,Pv.look,ni,aH,aG]),dE (by simp[fresh,aC,aB,dt,inObs,Pv.look,ni,aH,aG]),Ψ⟩
 ·simp;have sB:=ao7 aR bE k8;rw[<-gY]at sB;have ajg:xs.length<=1000000:=Ω
  refine cV.ob (ahi xs ajg) (Qk _) (by simp only[uN];exact aN) (by simp only[uN];exact aN) (by simp[inObs,uN,Pv.look]) ?_;rintro r ah ⟨rfl,rfl⟩;refine⟨Same.refl _,?_⟩;have Bf:rJ xs=rK (cx c.up):=ZA sB;rw[Bf];obtain⟨bf,lh⟩:∃bf,bf=rK (cx c.up):=⟨_,rfl⟩;rw[<-lh]at he⊢;simp[uN,cl];simp only[EZ,kK]at he;obtain⟨res,AY,pk⟩:=he;have qD:bf.length<=1000000:=by rw[lh,(E3 _).length_eq];simpa[cx]using hlen
  refine gA (α:=bA×List Int) (fun i a=>⟨[(0,aH),(27,.slice 1 .no (dM bf)),(28,.int .i64 bf.length),(7,.row 5 (.loc 1) a.2.length),(29,.int .i64 i)],aG a.1,[(.loc 1,⟨a.2.length,61,5,some (a.2.map ov)⟩)],2,[.obj 702,.obj 703,.obj 704,.obj 705,.obj 706,.obj 707]⟩) bf.length (fun i a=>s7 n (bf.drop i) a.1 a.2=some res/\mO a.1/\a.2.length<=400) (c,[]) (by simp[aH,aG];exact⟨by simp[fresh,aC,aB,bP,inObs,Pv.look,ni,aH,aG],dD (by simp[fresh,aC,aB,bP,inObs,Pv.look,ni,aH,aG]),dE (by simp[fresh,aC,aB,dt,inObs,Pv.look,ni,aH,aG]),Ψ⟩) ⟨by simpa using AY,bz,Ψ⟩ ?_ ?_
  ·rintro⟨bM,out⟩ ⟨J,U,ar⟩ af;simp only at J U ar af⊢;simp[s7]at J;subst J;simp only[hf]at pk;obtain⟨⟨L,ack⟩,ahX,rfl⟩:=pk;simp[aH,aG];refine gA (α:=bA×List ao) (fun j a=>⟨[(0,aH),(7,.row 5 (.loc 1) out.length),(71,.int .i64 out.length),(72,.int .i64 j)],aG a.1,[(.loc 1,⟨out.length,61,5,some (a.2.map ao.e++(out.drop j).map ov)⟩)],2,[.obj 702,.obj 703,.obj 704,.obj 705,.obj 706,.obj 707]⟩) out.length (fun j a=>a.2.length=j/\∃rest,zJ n (out.drop j) a.1=some (rest,ack)/\a.2++rest=L) (bM,[]) (by simp[aH,aG];exact⟨by simp[fresh,aC,aB,bP,inObs,Pv.look,aH,aG],dD (by simp[fresh,aC,aB,bP,inObs,Pv.look,aH,aG]),dE (by simp[fresh,aC,aB,dt,inObs,Pv.look,aH,aG]),Ψ⟩) ⟨rfl,L,by simpa using ahX,rfl⟩ ?_ ?_
   ·rintro⟨cp,done⟩ ⟨a6,rest,b0,df⟩ af;simp only at a6 b0 df af⊢;simp[zJ]at b0;obtain⟨rfl,rfl⟩:=b0;simp at df;subst df;simp[aH,aG,a6];refine cH.at (aP cp) Ψ (cm _) (Same.keys (by simp[aP,aG]) (by simp[aP,aG])) (by simp only[aP,aG];exact aN) (by simp only[aP,aG];exact aN) ?_;simp[cN,Ii,aX,aZ,aW,aP,aG,fR];exact⟨cp,Ψ⟩
   ·rintro j ⟨cp,done⟩ ae ⟨a6,rest,b0,df⟩ af;simp only at a6 b0 df af⊢;obtain⟨v,aF⟩:∃v,out[j]? =some v:=⟨_,b6 ae⟩;have aR:out.drop j=v::out.drop (j+1):=by rw[lR ae];rw[b6 ae]at aF;cases aF;rfl
    rw[aR]at b0;simp only[zJ,kK,hf,jO]at b0;obtain⟨⟨x,dc⟩,eB,⟨t,h2⟩,oB,⟨aoS,asA⟩,tH,rfl,rfl⟩:=b0;simp only at oB tH;have key:=ahj n x dc _ oB;rw[aR];have hz:∀R,(done.map ao.e++ov v::R)[j]? =some (ov v):=fun R=>by rw[List.getElem?_append_right d7];simp[a6]
    have w2:∀R x,(done.map ao.e++ov v::R).set j x=done.map ao.e++x::R:=fun R x=>by rw[List.set_append_right _ _ d7];simp[a6]
    simp[aH,aG];(with_reducible repeat' first|refine ai ?_|simp[hz,ae]);(refine cV.ob (se cp v x dc eB) bv bi bi dl ?_;rintro r ah ⟨rfl,rfl⟩;refine⟨(Same.keys ci ci),?_⟩;simp[cl,aP,aG,aH]);(with_reducible repeat' first|refine ai ?_|simp);(refine cV.ob (key) bv bi bi dl ?_;rintro r ah ⟨rfl,rfl⟩;refine⟨(Same.keys ci ci),?_⟩;simp[cl,aP,aG,aH]);(with_reducible repeat' first|refine ai ?_|refine az (uD _) ?_|refine aA (uD _) ?_|simp[hz,w2,ae,aoV,-nr]);refine bK.rng (h2,done++[⟨v,t⟩]) ae ⟨by simp[a6],aoS,tH,by simpa using df⟩ ?_;simp[aH,aG];exact⟨by simp[fresh,aC,aB,bP,inObs,Pv.look,aH,aG,kl],dD (by simp[fresh,aC,aB,bP,inObs,Pv.look,aH,aG,kl]),dE (by simp[fresh,aC,aB,dt,inObs,Pv.look,aH,aG,kl]),Ψ⟩
  ·rintro i ⟨bM,out⟩ hi ⟨J,U,ar⟩ af;simp only at J U ar af⊢;obtain⟨v,aF⟩:∃v,bf[i]? =some v:=⟨_,b6 hi⟩;have aR:bf.drop i=v::bf.drop (i+1):=by rw[lR hi];rw[b6 hi]at aF;cases aF;rfl
   rw[aR]at J;simp only[s7,kK]at J;obtain⟨⟨x,cp⟩,a6,⟨f,dc⟩,b0,df⟩:=J;simp only at b0 df;obtain⟨z3,key⟩:=ahm n x cp _ b0 (U.rt a6);have aid:∀h,(dM bf)[i]'h= .int .i64 v:=fun h=>by rw[b6 hi]at aF;simp only[ea]at aF;simp[dM,aF]
   simp[aH,aG];(with_reducible repeat' first|refine ai ?_|simp[aid,hi]);(refine cV.ob (se bM v x cp a6) bv bi bi dl ?_;rintro r ah ⟨rfl,rfl⟩;refine⟨(Same.keys ci ci),?_⟩;simp[cl,aP,aG,aH]);(with_reducible repeat' first|refine ai ?_|simp);(refine cV.ob (key) bv bi bi dl ?_;rintro r ah ⟨rfl,rfl⟩;refine⟨(Same.keys ci ci),?_⟩;simp[cl,aP,aG,aH]);cases f with
   |false=>simp at df;subst df;simp at pk;subst pk;(with_reducible repeat' first|refine ai ?_|simp);refine cH.at (aP dc) Ψ (cm _) (Same.keys (by simp[aP,aG]) (by simp[aP,aG])) (by simp only[aP,aG];exact aN) (by simp only[aP,aG];exact aN) ?_;simp[cN,Ii,aX,aZ,aW,aP,aG,fR];exact⟨dc,Ψ⟩
   |true=>
    simp only[Bool.true_eq_false,if_false]at df;by_cases aw:x=v/\dc.shd x=false
    ·rw[if_pos aw]at df;obtain⟨ajh,mD⟩:=aw;subst ajh;have tT:(c7 x dc.shaped).getD false=false:=mD;(with_reducible repeat' first|refine ai ?_|simp[tT]);refine bK.rng (dc,out) hi ⟨df,z3,ar⟩ ?_;exact⟨by simp[fresh,aC,aB,bP,inObs,Pv.look,aH,aG],dD (by simp[fresh,aC,aB,bP,inObs,Pv.look,aH,aG]),dE (by simp[fresh,aC,aB,dt,inObs,Pv.look,aH,aG]),Ψ⟩
    ·rw[if_neg aw]at df;have Vy:(x==v)=false\/((x==v)=true/\(c7 x dc.shaped).getD false=true):=by
      by_cases e:x=v
      ·right;refine⟨by simp[e],?_⟩;cases aD:dc.shd x with
       |false=>exact absurd ⟨e,aD⟩ aw
       |true=>exact aD
      ·left;simp[e]
     by_cases au:5000<dc.sz x\/400<out.length+1
     ·rw[if_pos au]at df;cases df;simp at pk;subst pk;have nR:(decide (5000<il dc.size x))=true\/(decide (5000<il dc.size x)=false/\400<out.length+1):=by
       by_cases e:5000<il dc.size x
       ·left;simp[e]
       ·right;exact⟨by simp[e],au.resolve_left e⟩
      have A8:True:=trivial;have j7:True:=trivial;rcases Vy with bF|⟨bF,A8⟩;all_goals
       rcases nR with bn|⟨bn,j7⟩
       all_goals
        ((with_reducible repeat' first|refine ai ?_|simp[bF,A8,bn,j7]|((first|apply bU|apply bY|apply bX)<;>intro h<;>try simp at h))<;>(try exact cz))
        refine cH.at (aP dc) Ψ (cm _) (Same.keys (by simp[aP,aG]) (by simp[aP,aG])) (by simp only[aP,aG];exact aN) (by simp only[aP,aG];exact aN) ?_
        simp[cN,Ii,aX,aZ,aW,aP,aG,fR]
        exact⟨dc,Ψ⟩
     ·rw[if_neg au]at df;have bn:decide (5000<il dc.size x)=false:=by simp;exact Int.not_lt.1 fun h=>au (.inl h)
      have j7:¬400<out.length+1:=fun h=>au (.inr h);have A8:True:=trivial;rcases Vy with bF|⟨bF,A8⟩;all_goals
       ((with_reducible repeat' first|refine ai ?_|simp[bF,A8,bn,j7]|((first|apply bU|apply bY|apply bX)<;>intro h<;>try simp at h))<;>(try exact cz))
       all_goals first|(refine⟨by unfold lim;omega,?_⟩)|skip
       ((with_reducible repeat' first|refine ai ?_|simp[bF,A8,bn,j7]|((first|apply bU|apply bY|apply bX)<;>intro h<;>try simp at h))<;>(try exact cz))
       refine bK.rng (dc,out++[v]) hi ⟨df,z3,by simp;omega⟩ ?_
       exact⟨by simp[fresh,aC,aB,bP,inObs,Pv.look,aH,aG,JZ,kl],dD (by simp[fresh,aC,aB,bP,inObs,Pv.look,aH,aG,JZ,kl]),dE (by simp[fresh,aC,aB,dt,inObs,Pv.look,aH,aG,JZ,kl]),Ψ⟩
theorem Py:∀{a b:T},a.tm=b.tm->a=b:=by
 intro a;induction a with
 |pair x y mF oH=>intro b h;cases b<;>simp[T.tm]at h;rw[mF h.1,oH h.2]
 |_=>intro b h;cases b<;>simp[T.tm]at h⊢ <;>exact h
def abD(l:List c3):Prop:= ∃s:List ao,l=s.map ao.b/\qO s/\hg s/\hR s
def JM(l:List c3):Prop:= ∃s:List ao,l=s.map ao.b/\qO s/\fU s/\hR s
theorem QS:∀{l:List c3},(∀b∈l,b.t.fits=true)->∃s:List ao,l=s.map ao.b/\yr s
 |[],_=>⟨[],rfl,fun b af=>by simp at af⟩
 |b::l,h=>by
  obtain⟨s,J,U⟩:=QS (l:=l) fun c aw=>h c (by simp[aw]);obtain⟨x,ar,a6⟩:=bL.fits_ex (h b Ψ);refine⟨⟨b.v,x⟩::s,by rw[J];simp[ao.b,ar],fun c aw=>?_⟩;rcases fT.1 aw with rfl|aw
  ·exact a6
  ·exact U c aw
theorem Js{l:List c3}:Aa l↔abD l:=by
 constructor
 ·rintro⟨J,U⟩;obtain⟨s,rfl,ah1⟩:=QS (l:=l) fun b af=>by obtain⟨i,hi,e⟩:=og af;exact(U i hi b (by rw[b6 hi,e])).2.2
  have U8:∀b∈s,b.t.ok=true/\b.t.size<=5000:=fun b af=>by have:=ah1 b af;simpa[T.fit]using this
  refine⟨s,rfl,fun b af=>⟨?_,(U8 b af).1⟩,?_,by simpa using J,fun b af=>(U8 b af).2⟩
  ·obtain⟨i,hi,e⟩:=og af;have:=(U i (by simpa using hi) b.b (by simp[b6 hi,e])).1;exact this
  ·rw[hg,qo];have j8:∀i (h:i+1<s.length),s[i].v<s[i+1].v:=fun i h=>by have:=(U (i+1) (by simpa using h) s[i+1].b (by simp[b6 h])).2.1 s[i].b Ω (by simp[b6 (show i<s.length by omega)]);exact this
   have:∀(d i:Nat) (h:i+d+1<s.length),s[i].v<s[i+d+1].v:=by
    intro d;induction d with
    |zero=>intro i h;exact j8 i h
    |succ d bR=>intro i h;have bH:=bR i Ω;have a2:=j8 (i+d+1) Ω;simp only[Nat.add_assoc]at bH a2⊢;omega
   intro i j hi ae mA;have:=this (j-i-1) i Ω;simpa[show i+(j-i-1)+1=j from by omega]using this
 ·rintro⟨s,rfl,ay,bD,aK⟩;refine⟨by simpa using aK.1,fun i hi b af=>?_⟩;simp only[tk,hf]at af;obtain⟨c,aw,rfl⟩:=af;have hm:=dV aw;refine⟨(ay c hm).1,fun d br aR=>?_,?_⟩
  ·simp only[tk,hf]at aR;obtain⟨e,he,rfl⟩:=aR;obtain⟨J,ak⟩:=eV.1 he;obtain⟨U,aD⟩:=eV.1 aw;have:=qo.1 bD (i-1) i J U Ω;rw[ak,aD]at this;exact this
  ·show c.t.tm.fits=true;rw[bL.fits_T];simp[T.fit,(ay c hm).2,aK.2 c hm]
def wD(s:List ao)(v:Int)(f:Bool):Bool:=if 0<=nI s v then false else f
def mP(s:List ao)(b:ao):Bool:=b.t.fold (wD s) true&& !(b.t.kind==1&&decide (b.v<=b.t.int))
theorem Ug{s:List ao}(bD:hg s)(t:T):∀f:Bool,t.fold (wD s) f=true↔f=true/\∀w,t.occ w=true->cS s w=none:=by
 induction t with
 |var n=>
  intro f;simp only[T.fold,T.occ,eb,wD];have:=Ue bD n;by_cases h:0<=nI s n
  ·rw[if_pos h];constructor
   ·intro h;cases h
   ·rintro⟨_,U⟩;have:=this.2 (U n rfl);omega
  ·rw[if_neg h];exact⟨fun aK=>⟨aK,fun w hw=>by subst hw;exact this.1 Ω⟩,fun h=>h.1⟩
 |pair a b dG dK=>
  intro f;simp only[T.fold,dG,dK,T.occ,lu];constructor
  ·rintro⟨⟨J,U⟩,ar⟩;exact⟨J,fun w hw=>hw.elim (U w) (ar w)⟩
  ·rintro⟨J,U⟩;exact⟨⟨J,fun w hw=>U w (.inl hw)⟩,fun w hw=>U w (.inr hw)⟩
 |_=>intro f;simp[T.fold,T.occ]
theorem J1{s:List ao}(bD:hg s)(b:ao):mP s b=true↔(∀w,b.t.occ w=true->cS s w=none)/\∀w,b.t= .var w->w<b.v:=by
 unfold mP;rw[cy,Ug bD];simp only[true_and];refine and_congr_right fun _=>?_;constructor
 ·intro h w hw;have ad:(b.t.kind==1)=true:=by rw[hw];rfl
  have hi:b.t.int=w:=by rw[hw];rfl
  rw[ad,hi]at h;simpa using h
 ·intro h;cases ad:(b.t.kind==1)with
  |false=>rfl
  |true=>
   obtain⟨w,hw⟩:∃w,b.t= .var w:=by
    cases e:b.t with
    |var w=>exact⟨w,rfl⟩
    |_=>rw[e]at ad;simp at ad
   have hi:b.t.int=w:=by rw[hw];rfl
   have:=h w hw;rw[hi];simpa using this
theorem Zx{s:List ao}(bD:hg s):fU s↔∀b∈s,mP s b=true:=by
 constructor
 ·intro h b af;exact(J1 bD b).2 ⟨h.free b af,h.ori b af⟩
 ·intro h;exact⟨bD,fun b af=>((J1 bD b).1 (h b af)).1,fun b af=>((J1 bD b).1 (h b af)).2⟩
def pA{α:Type}(p:α->Bool)(s:List α)(i:Nat)(_:Unit):Prop:= ∀k b,k<i->s[k]? =some b->p b=true
theorem pA.step{α:Type}{p:α->Bool}{s:List α}{i:Nat}(h:pA p s i ()){b:α}(af:s[i]? =some b)(bF:p b=true):pA p s (i+1) ():=fun k c ad aw=>by
 rcases(by omega:k<i\/k=i)with J|rfl
 ·exact h k c J aw
 ·rw[af]at aw;cases aw;exact bF
open Classical in
noncomputable def hc(l:List c3):Bool:=decide (JM l)
theorem rN{l:List c3}:hc l=true↔JM l:=by unfold hc;simp
def jf(f:Bool):cL:=⟨[(.obj 731,[.bool f])],[]⟩
theorem wk(f:Bool):dW (jf f):=by unfold jf;exact dW.of ⟨by intro m;simp[Pv.look],by intro m;simp[Pv.look]⟩ Ψ Ψ
theorem abt(a b:Bool):Same (jf a) (jf b):=Same.keys (by simp[jf]) (by simp[jf])
theorem agJ(s:List ao)(au:s.length<=1000000)(v:Int)(f:Bool):bI al 133 [.int .i64 v,.eptr (.slice 5 .no (s.map ao.e)),.ptr (.obj 731) 0] (jf f) fun r ah=>r= .tuple []/\ah=jf (wD s v f):=by
 have ag:=wk f;simp only[jf]at ag⊢;by_cases h:0<=nI s v
 ·rw[wD,if_pos h];refine bI.mk mixed rQ TQ XG Ψ ag.obj fun aM cR=>?_;unfold J9;simp;(with_reducible repeat' first|refine ai ?_|refine az (uE s v au) ?_|refine aA (uE s v au) ?_|simp[h]);(refine cH.at (jf false) Ψ (by first|exact wk _|exact wk ‹_› _) (Same.keys (by simp[jf]) (by simp[jf])) (by simp only[jf,bW,b9];exact aN) (by simp only[jf,bW,b9];exact aN) ?_;simp[cN,Oi,aX,aZ,aW,inObs,Pv.look,jf])
 ·rw[wD,if_neg h];refine bI.mk mixed rQ TQ XG Ψ ag.obj fun aM cR=>?_;unfold J9;simp;(with_reducible repeat' first|refine ai ?_|refine az (uE s v au) ?_|refine aA (uE s v au) ?_|simp[h]);(refine cH.at (jf f) Ψ (by first|exact wk _|exact wk ‹_› _) (Same.keys (by simp[jf]) (by simp[jf])) (by simp only[jf,bW,b9];exact aN) (by simp only[jf,bW,b9];exact aN) ?_;simp[cN,Oi,aX,aZ,aW,inObs,Pv.look,jf])
theorem PF(l:List c3):bC al 55 [.slice 5 .no (l.map c3.e)] (.bool (hc l)):=by
 have aF:=aqz l;by_cases h:Aa l;rotate_left
 ·have br:hc l=false:=by unfold hc;simp only[fC];rintro⟨s,J,U,ar,a6⟩;exact h (Js.2 ⟨s,J,U,ar.asc,a6⟩)
  rw[br];refine bc rQ TP XF fun aM=>?_;unfold J8;exact bQ
 ·obtain⟨s,rfl,ay,bD,aK⟩:=Js.1 h;have au:s.length<=1000000:=by have:=aK.1;omega
  have ak:(s.map ao.b).map c3.e=s.map ao.e:=by rw[List.map_map];exact List.map_congr_left fun b _=>ao.b_e b
  have br:hc (s.map ao.b)=s.all (mP s):=by
   rw[qY,jd,rN,<-Zx bD];constructor
   ·rintro⟨ah,J,U,ar,a6⟩;have:ah=s:=by
     have aic:∀a b:List ao,a.map ao.b=b.map ao.b->a=b:=by
      intro a;induction a with
      |nil=>intro b af;cases b<;>simp at af⊢
      |cons x a bR=>
       intro b af;cases b with
       |nil=>simp at af
       |cons y b=>simp only[gM,oW,ao.b,c3.mk.injEq]at af;rw[bR b af.2];have:=Py af.1.2;obtain⟨⟨lZ,_⟩,_⟩:=af;cases x;cases y;simp_all
     exact(aic _ _ J).symm
    rw[<-this];exact ar
   ·intro ar;exact⟨s,rfl,ay,ar,aK⟩
  rw[br];rw[ak]at aF⊢;refine bc rQ TP XF fun aM=>?_;unfold J8;simp;(with_reducible repeat' first|refine ai ?_|refine az aF ?_|refine aA aF ?_|simp[h]);refine gA (α:=Unit) (fun i _=>⟨[(1,.eptr (.slice 5 .no (s.map ao.e))),(9,.slice 5 .no (s.map ao.e)),(10,.int .i64 s.length),(11,.int .i64 i)],[],[],1,[]⟩) s.length (pA (mP s) s) () bT (fun k b ad=>Ω) (fun _ ae _=>?_) (fun i _ hi ae _=>?_)
  ·have:s.all (mP s)=true:=by rw[jd];intro b af;obtain⟨k,ad,e⟩:=og af;exact ae k b ad (by rw[b6 ad,e])
   rw[this];exact bQ
  ·obtain⟨b,mE⟩:∃b,s[i]? =some b:=⟨_,b6 hi⟩;have gS:∀h,(s[i]'h)=b:=fun h=>by rw[b6 hi]at mE;exact ed mE
   have key:=Uo jf wk abt 133 [.eptr (.slice 5 .no (s.map ao.e)),.ptr (.obj 731) 0] (fun a=>by simp[jf,inObs,Pv.look]) Ψ (wD s) (fun v a=>agJ s au v a) b.t true;have gQ:mP s b=false->s.all (mP s)=false:=fun h=>by rw[Bool.eq_false_iff];intro cn;rw[jd]at cn;rw[cn b (dV mE)]at h;cases h
   simp[hi,gS];(with_reducible repeat' first|refine ai ?_|simp[gS,hi]);(refine cV.ob (key) (by first|exact wk _|exact wk ‹_› _) (by simp only[jf,bW,b9];exact aN) (by simp only[jf,bW,b9];exact aN) (by simp[inObs,Pv.look,jf]) ?_;rintro r ah ⟨rfl,rfl⟩;refine⟨(Same.keys (by simp[jf]) (by simp[jf])),?_⟩;simp[cl,jf]);generalize ah3:b.t.fold (wD s) true=tE;have kQ:mP s b=(tE&& !(b.t.kind==1&&decide (b.v<=b.t.int))):=by unfold mP;rw[ah3]
   cases tE with
   |false=>rw[gQ (by rw[kQ];rfl)];exact bQ
   |true=>
    cases ad:(b.t.kind==1)with
    |false=>(with_reducible repeat' first|refine ai ?_|simp[ad]);refine bK.rng () hi (ae.step mE (by rw[kQ,ad];rfl)) ?_;exact bT
    |true=>
     by_cases hle:b.v<=b.t.int
     ·rw[gQ (by rw[kQ,ad];simp[hle])];exact bQ
     ·(with_reducible repeat' first|refine ai ?_|simp[ad,hle]);refine bK.rng () hi (ae.step mE (by rw[kQ,ad];simp[hle])) ?_;exact bT
@[simp]theorem atU(S:aI->Prop):aC S (jG [])=True:=eq_true (ni S [])
theorem aha(n:Nat)(s:List ao)(l r:List T)(au:l.length=r.length)(kU:s.length<=1000000)(yM:l.length<=1000000)(o:Option (List ao))(he:Cg n (h3 s++l.zip r)=some o)
  (hinv:∀c,qw n (h3 s++l.zip r) bA.new=some (true,c)->(cx c.up).Nodup/\c.up.length<=1000000/\mO c):bC al 118 [.slice 5 .no (s.map ao.e),.slice 4 .no (l.map T.e),.slice 4 .no (r.map T.e)] (fR o):=by
 obtain⟨E,dQ⟩:∃E,E=h3 s++l.zip r:=⟨_,rfl⟩;rw[<-dQ]at he hinv;simp only[Cg,kK]at he;obtain⟨fin,AY,pk⟩:=he;have hlen:E.length=s.length+l.length:=by rw[dQ];simp[h3,au]
 have ahA:∀i b,s[i]? =some b->E.drop i=(.var b.v,b.t)::E.drop (i+1):=fun i b af=>by
  have hi:=(eV.1 af).1;have a7:E[i]? =some (.var b.v,b.t):=by rw[dQ,List.getElem?_append_left (by simp[h3];exact hi)];simp[h3,af]
  rw[lR Ω];rw[b6 Ω]at a7;simp only[ea]at a7;rw[a7]
 have ahz:∀i a b,l[i]? =some a->r[i]? =some b->E.drop (s.length+i)=(a,b)::E.drop (s.length+(i+1)):=fun i a b bD af=>by
  have hi:=(eV.1 bD).1;have a7:E[s.length+i]? =some (a,b):=by rw[dQ,List.getElem?_append_right (by simp[h3])];simp[h3,List.getElem?_zip_eq_some,bD,af]
  rw[lR Ω];rw[b6 Ω]at a7;simp only[ea]at a7;rw[a7];rfl
 refine bc Z3 aeZ alZ fun aM=>?_;unfold RJ;simp;refine cV.new agX (dW.of zk Ψ Ψ) (fun k cs h=>by simp[Pv.look]at h) (fun k cs h=>by simp[Pv.look]at h) Ψ ?_;rintro r0 s0 ⟨rfl,rfl⟩;refine⟨fun m hm=>.inr Ψ,?_⟩;simp[aP,aG,cl,aH];refine gA (α:=bA) (fun i c=>⟨[(1,.slice 4 .no (l.map T.e)),(2,.slice 4 .no (r.map T.e)),(8,aH),(13,.slice 5 .no (s.map ao.e)),(14,.int .i64 s.length),(15,.int .i64 i)],aG c,[],0,[.obj 702,.obj 703,.obj 704,.obj 705,.obj 706,.obj 707]⟩) s.length (fun i c=>qw n (E.drop i) c=some fin) bA.new (by simp[aH,aG];exact⟨by simp[fresh,aC,aB,bP,inObs,Pv.look,aH,aG,bA.new],dD (by simp[fresh,aC,aB,bP,inObs,Pv.look,aH,aG,bA.new]),dE (by simp[fresh,aC,aB,dt,inObs,Pv.look,aH,aG,bA.new]),Ψ⟩) (by simpa using AY) ?_ ?_
 ·rintro c J af;simp[aH,aG];refine gA (α:=bA) (fun i c=>⟨[(1,.slice 4 .no (l.map T.e)),(2,.slice 4 .no (r.map T.e)),(8,aH),(37,.int .i64 l.length),(38,.int .i64 i)],aG c,[],0,[.obj 702,.obj 703,.obj 704,.obj 705,.obj 706,.obj 707]⟩) l.length (fun i c=>qw n (E.drop (s.length+i)) c=some fin) c (by simp[aH,aG];exact⟨by simp[fresh,aC,aB,bP,inObs,Pv.look,aH,aG],dD (by simp[fresh,aC,aB,bP,inObs,Pv.look,aH,aG]),dE (by simp[fresh,aC,aB,dt,inObs,Pv.look,aH,aG]),Ψ⟩) J ?_ ?_
  ·rintro bM J af;rw[List.drop_eq_nil_of_le Ω]at J;simp[qw]at J;subst J;simp at pk;obtain⟨ba,bo,b3⟩:=hinv bM AY;simp[aH,aG];refine cV.ob (ahb n bM o pk ba bo b3) (cm _) (by simp only[aP,aG];exact aN) (by simp only[aP,aG];exact aN) dl ?_;rintro r0 s0 ⟨rfl,cw,rfl⟩;refine⟨Same.keys (by simp[aP,aG]) (by simp[aP,aG]),?_⟩;simp[cl,aP,aG,fR];exact bQ
  ·rintro i c hi J af;simp only at J af⊢;obtain⟨a,bD⟩:∃a,l[i]? =some a:=⟨_,b6 hi⟩;obtain⟨b,gb⟩:∃b,r[i]? =some b:=⟨_,b6 Ω⟩;have nN:∀h,(l[i]'h)=a:=fun h=>by rw[b6 hi]at bD;exact ed bD
   have cD:∀h,(r[i]'h)=b:=fun h=>by rw[b6 h]at gb;exact ed gb
   have sv:i<r.length:=Ω
   rw[ahz i a b bD gb]at J;simp only[qw,kK]at J;obtain⟨bM,U,cp,ar,⟨f,dc⟩,a6,b0⟩:=J;simp only at a6 b0;have key:=Uq n _ _ _ _ a6;simp[aH,aG];(with_reducible repeat' first|refine ai ?_|simp[nN,cD,hi,sv]);(refine cV.ob (Lo c a bM U) bv bi bi dl ?_;rintro r ah ⟨rfl,rfl⟩;refine⟨(Same.keys ci ci),?_⟩;simp[cl,aP,aG,aH]);(with_reducible repeat' first|refine ai ?_|simp[nN,cD,hi,sv]);(refine cV.ob (Lo bM b cp ar) bv bi bi dl ?_;rintro r ah ⟨rfl,rfl⟩;refine⟨(Same.keys ci ci),?_⟩;simp[cl,aP,aG,aH]);(with_reducible repeat' first|refine ai ?_|simp[nN,cD,hi,sv]);(refine hJ.ob (key) bv bv (Same.keys ci ci) bi bi dl ?_;simp[cl,aP,aG,aH]);cases f with
   |false=>simp at b0;subst b0;simp at pk;subst pk;(with_reducible repeat' first|refine ai ?_|simp);simp[bq,Oq,aX,aZ,aW];simp[fR]
   |true=>simp at b0;(with_reducible repeat' first|refine ai ?_|simp);refine bK.rng dc hi b0 ?_;simp[aH,aG];exact⟨by simp[fresh,aC,aB,bP,inObs,Pv.look,aH,aG],dD (by simp[fresh,aC,aB,bP,inObs,Pv.look,aH,aG]),dE (by simp[fresh,aC,aB,dt,inObs,Pv.look,aH,aG]),Ψ⟩
 ·rintro i c hi J af;simp only at J af⊢;obtain⟨b,aF,gS⟩:=eh hi;rw[ahA i b aF]at J;simp only[qw,kK]at J;obtain⟨bM,U,cp,ar,⟨f,dc⟩,a6,b0⟩:=J;simp only[By,T.foldO,hf]at U;obtain⟨⟨x,QW⟩,U,rfl⟩:=U;simp only at U ar a6 b0;have key:=Uq n _ _ _ _ a6;simp[aH,aG];(with_reducible repeat' first|refine ai ?_|simp[gS,hi]);(refine cV.ob (se c b.v x QW U) bv bi bi dl ?_;rintro r ah ⟨rfl,rfl⟩;refine⟨(Same.keys ci ci),?_⟩;simp[cl,aP,aG,aH]);(with_reducible repeat' first|refine ai ?_|simp);(refine cV.ob (Lo QW b.t cp ar) bv bi bi dl ?_;rintro r ah ⟨rfl,rfl⟩;refine⟨(Same.keys ci ci),?_⟩;simp[cl,aP,aG,aH]);(with_reducible repeat' first|refine ai ?_|refine az (kI _) ?_|refine aA (kI _) ?_|simp);(refine hJ.ob (key) bv bv (Same.keys ci ci) bi bi dl ?_;simp[cl,aP,aG,aH]);cases f with
  |false=>simp at b0;subst b0;simp at pk;subst pk;(with_reducible repeat' first|refine ai ?_|simp);simp[bq,Oq,aX,aZ,aW];simp[fR]
  |true=>simp at b0;(with_reducible repeat' first|refine ai ?_|simp);refine bK.rng dc hi b0 ?_;simp[aH,aG];exact⟨by simp[fresh,aC,aB,bP,inObs,Pv.look,aH,aG],dD (by simp[fresh,aC,aB,bP,inObs,Pv.look,aH,aG]),dE (by simp[fresh,aC,aB,dt,inObs,Pv.look,aH,aG]),Ψ⟩
theorem aaK(s:List ao)(l r:List T)(au:l.length=r.length)(ag:fU s)(aK:hR s)(ay:qO s)(yM:l.length<=1000000)(J:∀t∈l,t.ok=true)(U:∀t∈r,t.ok=true):
  bC al 118 [.slice 5 .no (s.map ao.e),.slice 4 .no (l.map T.e),.slice 4 .no (r.map T.e)] (fR (mgu s (l.zip r))):=by
 have dQ:∀e∈h3 s++l.zip r,e.1.ok=true/\e.2.ok=true:=fun e he=>by
  rcases kt.1 he with he|he
  ·obtain⟨b,af,rfl⟩:=iu.1 he;have:=ay b af;exact⟨by simpa[T.ok]using this.1,this.2⟩
  ·exact⟨J _ (List.of_mem_zip he).1,U _ (List.of_mem_zip he).2⟩
 have br:NH (h3 s++l.zip r):=fun e he v aF=>by
  rcases aF with aF|aF
  ·exact(xW (dQ e he).1 aF).1
  ·exact(xW (dQ e he).2 aF).1
 obtain⟨n,o,ba,bo,b3⟩:=apy _ br;rw[sQ (abB.1 bo)];refine aha n s l r au (by have:=aK.1;omega) yM o ba fun c aw=>?_;obtain⟨bH,a2,a3⟩:=b3 c aw;have:=MS bH fun v aF=>by
  obtain⟨e,he,aF⟩:=a2 v aF;rcases aF with aF|aF
  ·exact xW (dQ e he).1 aF
  ·exact xW (dQ e he).2 aF
 refine⟨bH,by simp[cx]at this;omega,fun x=>?_⟩;simp[bA.sz,a3,c7]
structure e5 (s:List ao):Prop where
 ok:qO s
 sol:fU s
 fits:hR s
theorem e5.len{s:List ao}(h:e5 s):s.length<=1000000:=by have:=h.fits.1;omega
theorem e5.fit{s:List ao}(h:e5 s):yr s:=fun b af=>by simp[T.fit,(h.ok b af).2,h.fits.2 b af]
theorem e5.mgu{s:List ao}(h:e5 s){E:List (T×T)}(dQ:∀e∈E,e.1.ok=true/\e.2.ok=true){ah:List ao}(hm:mgu s E=some ah):e5 ah:=⟨akE h.sol h.fits h.ok dQ hm,(BA h.sol h.fits hm).1,(BA h.sol h.fits hm).2⟩
theorem zf(s:List ao):(s.map ao.b).map c3.e=s.map ao.e:=by rw[List.map_map];exact List.map_congr_left fun b _=>ao.b_e b
theorem qn{s:List ao}(h:e5 s):bC al 55 [.slice 5 .no (s.map ao.e)] (.bool true):=by have:=PF (s.map ao.b);rw[zf,rN.2 ⟨s,rfl,h.ok,h.sol,h.fits⟩]at this;exact this
def ajL(t:List ao)(i:Nat)(p:List T×List T):Prop:=p.1=(t.take i).map (fun b=>T.var b.v)/\p.2=(t.take i).map (·.t)
theorem aqL(t:List ao)(aJ:t.length<=1000000):bC al 201 [.slice 5 .no (t.map ao.e)] (.tuple [.slice 4 .no ((t.map fun b=>T.var b.v).map T.e),.slice 4 .no ((t.map (·.t)).map T.e)]):=by
 generalize aU:((t.map fun b=>T.var b.v).map T.e)=R1;generalize gP:((t.map fun x=>x.t).map T.e)=R2;have gI:∀S:aI->Prop,aC S R1=True:=fun S=>by rw[<-aU];exact WB S _
 have lB:∀S:aI->Prop,aC S R2=True:=fun S=>by rw[<-gP];exact WB S _
 refine bC.mk mixed rQ aeL alL Ψ (by simp[aB,gI,lB]) fun aM=>?_;unfold Rv;simp;refine gA (α:=List T×List T) (fun i p=>⟨[(10,.slice 5 .no (t.map ao.e)),(11,.int .i64 t.length),(4,.slice 4 (.own (.loc 0)) (p.1.map T.e)),(5,.slice 4 (.own (.loc 1)) (p.2.map T.e)),(12,.int .i64 i)],[],[(.loc 0,⟨p.1.length,32,4,none⟩),(.loc 1,⟨p.2.length,32,4,none⟩)],2,[]⟩) t.length (ajL t) ([],[]) bT ⟨Ψ,Ψ⟩ (fun p ae _=>?_) (fun i p hi ae _=>?_)
 ·obtain⟨A,B⟩:=p;obtain⟨bm,k7⟩:=ae;simp only at bm k7⊢;rw[hY (fc _)]at bm k7;rw[<-aU,<-gP,<-bm,<-k7];simp;(with_reducible repeat' first|refine ai ?_|simp);simp[bq,Yw,aX,aZ,aW]
 ·obtain⟨A,B⟩:=p;obtain⟨bm,k7⟩:=ae;simp only at bm k7⊢;obtain⟨b,aF,gS⟩:=eh hi;have w4:t.take (i+1)=t.take i++[b]:=by rw[lS,aF];rfl
  have ahx:A.length<=1000000:=by rw[bm];simp;omega
  have ahy:B.length<=1000000:=by rw[k7];simp;omega
  simp[hi,gS];((with_reducible repeat' first|refine ai ?_|refine az (kI _) ?_|refine aA (kI _) ?_|simp[gS,hi]|((first|apply bU|apply bY|apply bX)<;>intro h<;>try simp at h))<;>(try exact cz));all_goals first|(refine⟨by unfold lim;omega,?_⟩)|skip
  (with_reducible repeat' first|refine ai ?_|simp);all_goals first|(refine⟨by unfold lim;omega,?_⟩)|skip
  (with_reducible repeat' first|refine ai ?_|simp);refine bK.rng (A++[.var b.v],B++[b.t]) hi ⟨by rw[w4,bm];simp,by rw[w4,k7];simp⟩ ?_;simp;exact⟨by simp[fresh,aC,aB,bP,inObs,Pv.look,kl],dD (by simp[fresh,aC,aB,bP,inObs,Pv.look,kl]),dE (by simp[fresh,aC,aB,dt,inObs,Pv.look,kl]),Ψ⟩
theorem aqm{s t:List ao}(ag:e5 s)(aJ:e5 t):bC al 122 [.slice 5 .no (s.map ao.e),.slice 5 .no (t.map ao.e)] (fR (mgu s (h3 t))):=by
 have bz:(t.map fun b=>T.var b.v).zip (t.map (·.t))=h3 t:=by rw[h3,List.zip_map']
 have key:=aaK s (t.map fun b=>T.var b.v) (t.map (·.t)) Ψ ag.sol ag.fits ag.ok (by simpa using aJ.len) (fun x ab=>by
  obtain⟨b,af,rfl⟩:=iu.1 ab;have:=aJ.ok b af;simpa[T.ok]using this.1) (fun x ab=>by
  obtain⟨b,af,rfl⟩:=iu.1 ab;exact(aJ.ok b af).2)
 rw[bz]at key;have heq:=aqL t aJ.len;generalize (t.map fun b=>T.var b.v)=A at key heq;generalize (t.map fun x=>x.t)=B at key heq;refine bc rQ aem alk fun aM=>?_;unfold Q5;simp;(with_reducible repeat' first|refine ai ?_|refine az (qn ag) ?_|refine aA (qn ag) ?_|refine az (qn aJ) ?_|refine aA (qn aJ) ?_|refine az heq ?_|refine aA heq ?_|refine az key ?_|refine aA key ?_|simp);simp[bq,Yj,aX,aZ,aW];simp[fR]
theorem qQ{α:Type}{t:List α}{i:Nat}{b:α}(aF:t[i]? =some b):t.take (i+1)=t.take i++[b]:=by rw[lS,aF];rfl
def gT(s t:List ao):List ao:=t.filter fun b=>(cS s b.v).isNone
def rs(s t:List ao)(i:Nat)(out:List ao):Prop:=out=gT s (t.take i)
theorem aqs{s t:List ao}(ag:e5 s)(aJ:e5 t):bC al 123 [.slice 5 .no (s.map ao.e),.slice 5 .no (t.map ao.e)] (.slice 5 .no ((gT s t).map ao.e)):=by
 have ai2:=aJ.len;generalize aU:gT s t=R;refine bc rQ aer alq fun aM=>?_;unfold Ra;simp;(with_reducible repeat' first|refine ai ?_|refine az (qn ag) ?_|refine aA (qn ag) ?_|refine az (qn aJ) ?_|refine aA (qn aJ) ?_|simp);refine gA (α:=List ao) (fun i out=>⟨[(0,.slice 5 .no (s.map ao.e)),(17,.slice 5 .no (t.map ao.e)),(18,.int .i64 t.length),(5,.slice 5 (.own (.loc 0)) (out.map ao.e)),(19,.int .i64 i)],[],[(.loc 0,⟨out.length,61,5,none⟩)],1,[]⟩) t.length (rs s t) [] bT (by simp[rs,gT]) (fun out ae _=>?_) (fun i out hi ae _=>?_)
 ·rw[rs,hY (fc _),aU]at ae;rw[<-ae];exact bQ
 ·obtain⟨b,aF,gS⟩:=eh hi;have vw:out.length<=1000000:=by
   have:out.length<=(t.take i).length:=by rw[ae];exact List.length_filter_le _ _
   simp at this;omega
  have rk:=Ue ag.sol.asc b.v;simp[hi,gS];by_cases af:nI s b.v<0
  ·(with_reducible repeat' first|refine ai ?_|refine az (uE s b.v ag.len) ?_|refine aA (uE s b.v ag.len) ?_|refine az (uD _) ?_|refine aA (uD _) ?_|simp[gS,hi,af]);all_goals first|(refine⟨by unfold lim;omega,?_⟩)|skip
   (with_reducible repeat' first|refine ai ?_|simp);refine bK.rng (out++[b]) hi (by rw[rs,qQ aF,gT,List.filter_append,ae];simp[gT,rk.1 af]) ?_;simp;exact⟨by simp[fresh,aC,aB,bP,inObs,Pv.look,kl],dD (by simp[fresh,aC,aB,bP,inObs,Pv.look,kl]),dE (by simp[fresh,aC,aB,dt,inObs,Pv.look,kl]),Ψ⟩
  ·(with_reducible repeat' first|refine ai ?_|refine az (uE s b.v ag.len) ?_|refine aA (uE s b.v ag.len) ?_|simp[gS,hi,af]);refine bK.rng out hi (by
    have:cS s b.v≠none:=fun e=>af (rk.2 e);rw[rs,qQ aF,gT,List.filter_append,ae];cases e:cS s b.v with
    |none=>exact absurd e this
    |some x=>simp[gT,e]) ?_
   exact bT
def Hj(t:List ao)(i:Nat)(out:List ao):Prop:=out=t.take i
theorem Ji(t:List ao)(aJ:t.length<=1000000):bC al 119 [.slice 5 .no (t.map ao.e)] (.slice 5 .no (t.map ao.e)):=by
 refine bc rQ aeI alI fun aM=>?_;unfold Rs;simp;refine gA (α:=List ao) (fun i out=>⟨[(7,.slice 5 .no (t.map ao.e)),(8,.int .i64 t.length),(3,.slice 5 (.own (.loc 0)) (out.map ao.e)),(9,.int .i64 i)],[],[(.loc 0,⟨out.length,61,5,none⟩)],1,[]⟩) t.length (Hj t) [] bT (by simp[Hj]) (fun out ae _=>?_) (fun i out hi ae _=>?_)
 ·rw[Hj,hY (fc _)]at ae;subst ae;exact bQ
 ·obtain⟨b,aF,gS⟩:=eh hi;have vw:out.length<=1000000:=by rw[ae];simp;omega
  simp[hi,gS];(with_reducible repeat' first|refine ai ?_|refine az (uD _) ?_|refine aA (uD _) ?_|simp[gS,hi]);all_goals first|(refine⟨by unfold lim;omega,?_⟩)|skip
  (with_reducible repeat' first|refine ai ?_|simp);refine bK.rng (out++[b]) hi (by rw[Hj,qQ aF,ae]) ?_;simp;exact⟨by simp[fresh,aC,aB,bP,inObs,Pv.look,kl],dD (by simp[fresh,aC,aB,bP,inObs,Pv.look,kl]),dE (by simp[fresh,aC,aB,dt,inObs,Pv.look,kl]),Ψ⟩
def sP(t:List ao)(b:ao):Bool:=decide (bp t b.v=b.t.ap (bp t))
def nY(s t:List ao):Bool:=s.all (sP t)
theorem EW{t:List ao}(aJ:e5 t)(v:Int):(bp t v).size<=5000:=by
 unfold bp;cases e:cS t v with
 |none=>simp[T.size]
 |some x=>exact aJ.fits.2 _ (j2 e)
theorem aaE(s:List ao){t:List ao}(ag:s.length<=1000000)(aJ:e5 t):bC al 205 [.slice 5 .no (s.map ao.e),.slice 5 .no (t.map ao.e)] (.bool (nY s t)):=by
 refine bc rQ aeO alO fun aM=>?_;unfold Ry;simp;refine dO [1,11,12] (fun i (_:Unit)=>[(13,.int .i64 i)]) s.length (pA (sP t) s) () bT (fun k b ad=>Ω) (fun _ ae _=>?_) (fun i _ hi ae _=>?_)
 ·have:nY s t=true:=by rw[nY,jd];intro b af;obtain⟨k,ad,e⟩:=og af;exact ae k b ad (by rw[b6 ad,e])
  rw[this];exact bQ
 ·obtain⟨b,aF,gS⟩:=eh hi;have gQ:sP t b=false->nY s t=false:=fun h=>by rw[Bool.eq_false_iff];intro cn;rw[nY,jd]at cn;rw[cn b (dV aF)]at h;cases h
  have aS:=Cs t (.var b.v) aJ.len aJ.sol.asc aJ.fit;have be:=Cs t b.t aJ.len aJ.sol.asc aJ.fit;have yZ:=EW aJ b.v;have Hc:((T.var b.v).ap (bp t)).size<=5000:=yZ;rw[if_pos Hc,gN Hc]at aS;rw[show(T.var b.v).ap (bp t)=bp t b.v from rfl]at aS;simp[hi,gS];by_cases bz:(b.t.ap (bp t)).size<=5000
  ·rw[if_pos bz,gN bz]at be;by_cases he:bp t b.v=b.t.ap (bp t)
   ·rw[he]at aS;(with_reducible repeat' first|refine ai ?_|refine az (kI _) ?_|refine aA (kI _) ?_|refine az aS ?_|refine aA aS ?_|refine az be ?_|refine aA be ?_|refine az (qU _ _) ?_|refine aA (qU _ _) ?_|simp[gS,hi,he]);exact bK.rng () hi (ae.step aF (by simp[sP,he])) bT
   ·rw[gQ (by simp[sP,he])];(with_reducible repeat' first|refine ai ?_|refine az (kI _) ?_|refine aA (kI _) ?_|refine az aS ?_|refine aA aS ?_|refine az be ?_|refine aA be ?_|refine az (qU _ _) ?_|refine aA (qU _ _) ?_|simp[gS,hi,he]);simp[bq,Ol,aX,aZ,aW]
  ·rw[if_neg bz,hQ bz]at be;rw[gQ (by simp only[sP,fC];intro e;rw[<-e]at bz;exact bz yZ)];(with_reducible repeat' first|refine ai ?_|refine az (kI _) ?_|refine aA (kI _) ?_|refine az aS ?_|refine aA aS ?_|refine az be ?_|refine aA be ?_|refine az (qU _ _) ?_|refine aA (qU _ _) ?_|simp[gS,hi]);simp[bq,Ol,aX,aZ,aW]
theorem D7(c:ao->ao->Int):∀a b:List ao,a=[]\/b=[]->kn c a b=eN a.length b.length
 |[],[],_=>by simp[kn,eN]
 |[],_::_,_=>by simp[kn,eN]<;>omega
 |_::_,[],_=>by simp[kn,eN]<;>omega
 |_::_,_::_,h=>by simp at h
theorem XZ(x y:ao)(xs ys:List ao):eM (x::xs) (y::ys)=if eN x.v y.v=0 then(if eK x.t y.t=0 then eM xs ys else eK x.t y.t)else eN x.v y.v:=by
 by_cases ba:eN x.v y.v=0
 ·by_cases bo:eK x.t y.t=0<;>simp[eM,kn,zs,ba,bo]
 ·simp[eM,kn,zs,ba]
theorem X0(a b k:Int):eN (a-k) (b-k)=eN a b:=by unfold eN;(repeat' split)<;>omega
def MH(d e:List ao)(i:Nat):Prop:=i<=d.length/\i<=e.length/\eM (d.drop i) (e.drop i)=eM d e
theorem Jp(d e:List ao):bC al 204 [.slice 5 .no (d.map ao.e),.slice 5 .no (e.map ao.e)] (.int .i64 (eM d e)):=by
 generalize aU:eM d e=R;refine bc rQ aeR alR fun aM=>?_;unfold RB;have aR:d.length<=68719476736:=by simp[eA,eo,et,lim]at aM;omega
 have he:e.length<=68719476736:=by simp[eA,eo,et,lim]at aM;omega
 simp;refine u5 [0,1] (fun(i:Nat)=>[(5,.int .i64 i)]) (fun i=>d.length-i) (MH d e) 0 bT ⟨Ω,Ω,Ψ⟩ (fun i ae _=>?_);obtain⟨J,U,ar⟩:=ae;rw[aU]at ar;by_cases hi:i<d.length
 ·by_cases fO:i<e.length
  ·obtain⟨x,ab⟩:∃x,d[i]? =some x:=⟨_,b6 hi⟩;obtain⟨y,aL⟩:∃y,e[i]? =some y:=⟨_,b6 fO⟩;have cG:∀h,(d[i]'h)=x:=fun h=>by rw[b6 hi]at ab;exact ed ab
   have e3:∀h,(e[i]'h)=y:=fun h=>by rw[b6 fO]at aL;exact ed aL
   have AW:d.drop i=x::d.drop (i+1):=by rw[lR hi,cG]
   have AX:e.drop i=y::e.drop (i+1):=by rw[lR fO,e3]
   rw[AW,AX]at ar;rw[XZ]at ar;simp[hi,fO,cG,e3];by_cases ba:eN x.v y.v=0
   ·rw[if_pos ba]at ar;by_cases bo:eK x.t y.t=0
    ·rw[if_pos bo]at ar;(with_reducible repeat' first|refine ai ?_|refine az (oT _ _) ?_|refine aA (oT _ _) ?_|refine az (Cr _ _) ?_|refine aA (Cr _ _) ?_|simp[cG,e3,hi,fO,ba,bo]);refine bK.whl (i+1) Ω ⟨Ω,Ω,by rw[aU];exact ar⟩ ?_;exact bT
    ·rw[if_neg bo]at ar;((with_reducible repeat' first|refine ai ?_|refine az (oT _ _) ?_|refine aA (oT _ _) ?_|refine az (Cr _ _) ?_|refine aA (Cr _ _) ?_|simp[cG,e3,hi,fO,ba,bo]|((first|apply bU|apply bY|apply bX)<;>intro h<;>try simp at h))<;>(try exact cz));simp[bq,ED,aX,aZ,aW];exact ar
   ·rw[if_neg ba]at ar;((with_reducible repeat' first|refine ai ?_|refine az (oT _ _) ?_|refine aA (oT _ _) ?_|simp[cG,e3,hi,fO,ba]|((first|apply bU|apply bY|apply bX)<;>intro h<;>try simp at h))<;>(try exact cz));simp[bq,ED,aX,aZ,aW];exact ar
  ·have:eN d.length e.length=R:=by rw[<-ar,eM,D7 _ _ _ (.inr (List.drop_eq_nil_of_le Ω))];rw[<-X0 d.length e.length i];simp only[tl];congr 1<;>omega
   simp[hi,fO];(with_reducible repeat' first|refine ai ?_|refine az (oT _ _) ?_|refine aA (oT _ _) ?_|simp[hi,fO]);simp[bq,ED,aX,aZ,aW];exact this
 ·have:eN d.length e.length=R:=by rw[<-ar,eM,D7 _ _ _ (.inl (List.drop_eq_nil_of_le Ω))];rw[<-X0 d.length e.length i];simp only[tl];congr 1<;>omega
  simp[hi];(with_reducible repeat' first|refine ai ?_|refine az (oT _ _) ?_|refine aA (oT _ _) ?_|simp[hi]);simp[bq,ED,aX,aZ,aW];exact this
theorem aaq(a b:List ao)(bD:a.length<=1000000):bC al 135 [.slice 5 .no (a.map ao.e),.slice 5 .no (b.map ao.e)] (.bool (decide (a=b))):=by
 by_cases au:a.length=b.length;rotate_left
 ·have br:decide (a=b)=false:=by simp only[fC];rintro rfl;exact au rfl
  have tO:((a.length:Int) !=(b.length:Int))=true:=by simp;omega
  have nR:¬(a.length:Int)=b.length:=Ω
  rw[br];refine bc rQ TU XK fun aM=>?_;unfold Kd;exact bQ
 ·generalize aU:decide (a=b)=R;refine bc rQ TU XK fun aM=>?_;unfold Kd;simp;(with_reducible repeat' first|refine ai ?_|simp[au]);refine dO [0,1,12] (fun i (_:Unit)=>[(13,.int .i64 i)]) b.length (fun i (_:Unit)=> ∀k,k<i->a[k]? =b[k]?) () bT (fun k ad=>Ω) (fun _ ae _=>?_) (fun i _ hi ae _=>?_)
  ·have:R=true:=by
    rw[<-aU,eW];apply List.ext_getElem?;intro k;by_cases ad:k<b.length
    ·exact ae k ad
    ·rw[qZ Ω,qZ Ω]
   rw[this];exact bQ
  ·obtain⟨x,ab⟩:∃x,a[i]? =some x:=⟨_,b6 Ω⟩;obtain⟨y,aL⟩:∃y,b[i]? =some y:=⟨_,b6 hi⟩;have gB:i<a.length:=Ω
   have cG:∀h,(a[i]'h)=x:=fun h=>by rw[b6 gB]at ab;exact ed ab
   have e3:∀h,(b[i]'h)=y:=fun h=>by rw[b6 hi]at aL;exact ed aL
   have gQ:x≠y->R=false:=fun h=>by rw[<-aU,fC];rintro rfl;rw[ab]at aL;cases aL;exact h rfl
   simp[hi,gB,cG,e3];by_cases ba:x.v=y.v
   ·have uj:(x.v !=y.v)=false:=by simp[ba]
    by_cases bo:x.t=y.t
    ·(with_reducible repeat' first|refine ai ?_|refine az (qU _ _) ?_|refine aA (qU _ _) ?_|simp[cG,e3,hi,gB,ba,uj,bo]);refine bK.rng () hi (fun k ad=>?_) ?_
     ·rcases(by omega:k<i\/k=i)with h|rfl
      ·exact ae k h
      ·rw[ab,aL];cases x;cases y;simp_all
     ·exact bT
    ·rw[gQ (fun e=>bo (by rw[e]))];(with_reducible repeat' first|refine ai ?_|refine az (qU _ _) ?_|refine aA (qU _ _) ?_|simp[cG,e3,hi,gB,ba,uj,bo]);simp[bq,Yu,aX,aZ,aW]
   ·have uj:(x.v !=y.v)=true:=by simp[ba]
    rw[gQ (fun e=>ba (by rw[e]))];exact bQ
def js(l:List (List ao))(e:List ao):Bool:=l.all fun d=>decide (d=e)|| !nY d e
theorem ajP{l a1:List (List ao)}(h:∀x,x∈l↔x∈a1)(e:List ao):js l e=js a1 e:=by rw[qY,js,js,jd,jd];exact⟨fun J x ab=>J x ((h x).2 ab),fun J x ab=>J x ((h x).1 ab)⟩
def ll(l:List (List ao)):List (List ao):=(asc eM l).filter (js l)
theorem BB{l:List (List ao)}{x:List ao}:x∈ll l↔x∈l/\js l x=true:=by rw[ll,oi,Xe]
theorem Xm(l:List (List ao)):h7 eM (ll l):=(JY mh l).filter _
theorem Xn{l a1:List (List ao)}(bD:h7 eM a1)(hm:∀x,x∈a1↔x∈l/\js l x=true):ll l=a1:=(Xm l).ext mh bD fun x=>by rw[hm,BB]
structure ch where
 n:Int
 b:List ao
 d:List (List ao)
 k:List bN
 m:List bj
 deriving DecidableEq,Inhabited
noncomputable def hk(b:List ao)(k:List bN)(m:List bj):List (List ao)->Option (List (List ao))
 |[]=>some []
 |d::r=>match mgu b (h3 d)with
  |none=>hk b k m r
  |some x=>if gx x k []=none\/gy x m []=none then hk b k m r else if gT b x=[]then none else(hk b k m r).map (gT b x:: ·)
def kZ(k:List bN)(x:bj):Bool:=lH k x.v !=some 3
noncomputable def ij(s:ch):Option ch:=match gx s.b s.k []with
 |none=>none
 |some k=>match gy s.b s.m []with
  |none=>none
  |some m=>match hk s.b k (m.filter (kZ k)) s.d with
   |none=>none
   |some L=>if(ll L).length<=30 then some ⟨s.n,s.b,ll L,k,m.filter (kZ k)⟩else none
def yb(t:T)(n:Int):Prop:= ∀v,t.occ v=true->v<n
def qu(l:List ao)(n:Int):Prop:= ∀b∈l,b.v<n/\yb b.t n
structure jw (s:ch):Prop where
 n:0<=s.n/\s.n<=100000
 b:e5 s.b
 d:∀x∈s.d,e5 x
 k:jE s.k
 m:hN s.m
 bb:qu s.b s.n
 db:∀x∈s.d,qu x s.n
 kb:∀x∈s.k,x.v<s.n
 mb:∀x∈s.m,x.v<s.n
def rL(s:ch):Prop:=jw s/\ij s=some s
theorem Cd{s:List ao}(ag:e5 s){v:Int}(aF:0<=v/\v<=100000):(bp s v).ok=true:=by have:=EV ag.ok (t:= .var v) (by simpa[T.ok]using aF);exact this
theorem Ix{s:List ao}(ag:e5 s):∀{l acc a:List bN},(∀x∈l,(0<=x.v/\x.v<=100000)/\(x.k=2\/x.k=3))->jE acc->gx s l acc=some a->jE a
 |[],acc,a,_,h,he=>by simp only[gx,ea]at he;rw[<-he];exact h
 |x::r,acc,a,au,h,he=>by
  simp only[gx]at he;split at he
  ·rename_i bH ak;have ab:=au x Ψ;exact Ix ag (fun y aL=>au y (by simp[aL])) (FD h (Cd ag ab.1) ab.2 ak) he
  ·cases he
theorem Iy{s:List ao}(ag:e5 s):∀{l acc a:List bj},(∀x∈l,(0<=x.v/\x.v<=100000)/\iX x.s=true)->hN acc->gy s l acc=some a->hN a
 |[],acc,a,_,h,he=>by simp only[gy,ea]at he;rw[<-he];exact h
 |x::r,acc,a,au,h,he=>by
  simp only[gy]at he;split at he
  ·rename_i bH ak;have ab:=au x Ψ;exact Iy ag (fun y aL=>au y (by simp[aL])) (FE h (Cd ag ab.1) ab.2 ak) he
  ·cases he
def n7(G:List (List dw))(l:List bj):Prop:= ∀x∈l,x.s∈G
theorem FF{G:List (List dw)}{l a1:List bj}{t:T}{s:List dw}(h:n7 G l)(ag:s∈G)(he:j1 l t s=some a1):n7 G a1:=fun x ab=>by
 rcases(Bz he x).1 ab with J|⟨J,_⟩
 ·exact h x J
 ·rw[J];exact ag
theorem Iz{G:List (List dw)}{s:List ao}:∀{l acc a:List bj},n7 G l->n7 G acc->gy s l acc=some a->n7 G a
 |[],acc,a,_,h,he=>by simp only[gy,ea]at he;rw[<-he];exact h
 |x::r,acc,a,au,h,he=>by
  simp only[gy]at he;split at he
  ·rename_i bH ak;exact Iz (fun y aL=>au y (by simp[aL])) (FF h (au x Ψ) ak) he
  ·cases he
theorem ans{α:Type}[DecidableEq α]:∀{G:List α} {l:List (Nat×α)},l.Nodup->(∀x∈l,x.1<100001/\x.2∈G)->l.length<=100001*G.length:=by
 intro G l ax h;have:=P7 ax (l₂:=(List.range 100001).flatMap fun i=>G.map fun g=>(i,g)) (fun x ab=>by obtain⟨J,U⟩:=h x ab;rw[List.mem_flatMap];exact⟨x.1,List.mem_range.2 J,iu.2 ⟨x.2,U,rfl⟩⟩)
 have e:((List.range 100001).flatMap fun i=>G.map fun g=>(i,g)).length=100001*G.length:=by
  generalize 100001=n;induction n with
  |zero=>simp
  |succ n bR=>rw[List.range_succ,List.flatMap_append,pQ,bR];simp[Nat.succ_mul]
 omega
theorem Eb{G:List (List dw)}{l:List bj}(h:hN l)(a7:n7 G l):l.length<=100001*G.length:=by
 have J:(l.map fun x=>(x.v.toNat,x.s)).Nodup:=by rw[List.nodup_iff_pairwise_ne,List.pairwise_map];refine arP (fun{a b} bD af cM e=>cM ?_) (h.asc.nodup mi);have:=(h.at' a bD).1;have:=(h.at' b af).1;simp only[jO]at e;cases a;cases b;simp only[bj.mk.injEq];simp only at*;exact⟨Ω,e.2⟩
 have:=ans (G:=G) J fun x ab=>by obtain⟨y,aL,rfl⟩:=iu.1 ab;have:=(h.at' y aL).1;exact⟨by simp;omega,a7 y aL⟩
 simpa using this
def nt(m:List bj):Prop:= ∃G:List (List dw),G.length<=687000/\n7 G m
theorem nt.len{m:List bj}(h:nt m)(hm:hN m):m.length<=68719470000:=by obtain⟨G,J,U⟩:=h;have:=Eb hm U;omega
theorem ao4{s:List ao}(h:e5 s)(p:ao->Bool):e5 (s.filter p):=by
 have nU:∀b∈s.filter p,b∈s:=fun b af=>(oi.1 af).1;have ax:∀w,cS s w=none->cS (s.filter p) w=none:=fun w hw=>by rw[nF]at hw⊢;exact fun b af=>hw b (nU b af)
 exact⟨fun b af=>h.ok b (nU b af),⟨aa9 p h.sol.asc,fun b af w hw=>ax w (h.sol.free b (nU b af) w hw),fun b af=>h.sol.ori b (nU b af)⟩,
  kJ (List.length_filter_le _ _) h.fits.1,fun b af=>h.fits.2 b (nU b af)⟩
theorem HS{b x:List ao}(h:e5 x):e5 (gT b x):=ao4 h _
theorem ak7{b x:List ao}(af:fU b)(ab:fU x)(aK:hR x)(h:∀aQ,hq x aQ->hq b aQ):ji b (h3 (gT b x)) (some x):=by
 refine⟨⟨ab,aK⟩,fun aQ=>⟨fun hM=>⟨h aQ hM,fun e he=>?_⟩,fun⟨J,U⟩ c aw=>?_⟩⟩
 ·obtain⟨c,aw,rfl⟩:=iu.1 he;exact hM c (oi.1 aw).1
 ·have kS:∀c∈x,cS b c.v=none->aQ c.v=c.t.ap aQ:=fun c aw ax=>by have:=U (.var c.v,c.t) (iu.2 ⟨c,oi.2 ⟨aw,by simp[ax]⟩,rfl⟩);exact this
  have yG:∀w,cS b w=none->(bp x w).ap aQ=aQ w:=fun w hw=>by
   unfold bp;cases e:cS x w with
   |none=>rfl
   |some t=>have hm:=j2 e;exact(kS _ hm hw).symm
  cases e:cS b c.v with
  |none=>exact kS c aw e
  |some t=>
   have ak:aQ c.v=t.ap aQ:=J _ (j2 e);have aD:=h (bp x) (zK ab) _ (j2 e);simp only at aD;have bh:bp x c.v=c.t:=by unfold bp;rw[pY ab.asc aw];rfl
   rw[bh]at aD;rw[ak,aD,CH];exact uU fun w hw=>(yG w (af.free _ (j2 e) w hw)).symm
theorem akF{s:List ao}(ag:fU s)(aK:hR s){E:List (T×T)}{x:List ao}(h:mgu s E=some x):∀aQ,hq x aQ↔hq s aQ/\j0 E aQ:=by have:=HN ag aK E;rw[h]at this;exact this.2
theorem akD{s:List ao}(ag:fU s)(aK:hR s){E:List (T×T)}{x:List ao}(h:mgu s E=some x):mgu s (h3 (gT s x))=some x:=sQ (ak7 ag (BA ag aK h).1 (BA ag aK h).2 fun aQ hM=>((akF ag aK h aQ).1 hM).1)
theorem Xl(p:Int->Prop){E:List (T×T)}:∀{s ah:List ao},fU s->hR s->(∀b∈s,p b.v/\∀w,b.t.occ w=true->p w)->(∀e∈E,(∀w,e.1.occ w=true->p w)/\∀w,e.2.occ w=true->p w)->mgu s E=some ah->∀b∈ah,p b.v/\∀w,b.t.occ w=true->p w:=by
 induction E with
 |nil=>intro s ah ag aK J _ h;rw[Ns ag aK]at h;cases h;exact J
 |cons e E bR=>
  intro s ah ag aK J U h;rw[Nr ag aK]at h;split at h
  ·rename_i s1 ak;obtain⟨V,kC⟩:∃V,V=s.flatMap (fun b=>b.v::od b.t)++od e.1++od e.2:=⟨_,rfl⟩;have UO:∀w∈V,p w:=by
    intro w hw;rw[kC]at hw;simp only[kt,List.mem_flatMap,fT]at hw;rcases hw with(⟨b,af,rfl|hw⟩|hw)|hw
    ·exact(J b af).1
    ·exact(J b af).2 w (Fi.1 hw)
    ·exact(U e Ψ).1 w (Fi.1 hw)
    ·exact(U e Ψ).2 w (Fi.1 hw)
   obtain⟨n,o,iO,jV,qT⟩:=Z5 V _ _ s e.1 e.2 ag aK (fun c aw=>⟨by rw[kC];simp only[kt,List.mem_flatMap];exact .inl (.inl ⟨c,aw,Ψ⟩),fun w hw=>by rw[kC];simp only[kt,List.mem_flatMap];exact .inl (.inl ⟨c,aw,by simp[zh hw]⟩)⟩)
    (fun w hw=>by rw[kC];simp only[kt];exact .inl (.inr (zh hw))) (fun w hw=>by rw[kC];simp only[kt];exact .inr (zh hw)) rfl rfl
   have zR:=sQ jV;rw[ak]at zR;subst zR;obtain⟨Z4,_⟩:=qT s1 rfl;have qe:=BA ag aK ak;exact bR qe.1 qe.2 (fun b af=>⟨UO _ (Z4 b af).1,fun w hw=>UO w ((Z4 b af).2 w hw)⟩) (fun fj he=>U fj (by simp[he])) h
  ·cases h
theorem apd{s:List ao}(ag:fU s){v n:Int}(h:bp s v= .var n):cS s n=none:=by have:=O7 ag (t:= .var v) (w:=n) (by show(bp s v).occ n=true;rw[h];simp[T.occ]);exact this
theorem JQ{l a1:List bN}{t:T}{k:Int}(h:jk l t k=some a1):∀x∈a1,x∈l\/t= .var x.v:=by
 unfold jk at h;split at h
 ·rename_i n;split at h
  ·split at h
   ·cases h;exact fun x ab=>.inl ab
   ·cases h
  ·cases h;intro x ab;rcases HL.1 ab with rfl|ab
   ·exact .inr rfl
   ·exact .inl ab
 ·split at h
  ·cases h;exact fun x ab=>.inl ab
  ·cases h
theorem Y0{s:List ao}(ag:fU s):∀{l acc a:List bN},(∀x∈acc,cS s x.v=none)->gx s l acc=some a->∀x∈a,cS s x.v=none
 |[],acc,a,h,he=>by simp only[gx,ea]at he;rw[<-he];exact h
 |y::r,acc,a,h,he=>by
  simp only[gx]at he;split at he
  ·rename_i bH ak;refine Y0 ag (fun x ab=>?_) he;rcases JQ ak x ab with J|J
   ·exact h x J
   ·exact apd ag J
  ·cases he
theorem V5{x:bN}:∀{l:List bN},(∀y∈l,y.v<x.v)->ma x l=l++[x]
 |[],_=>rfl
 |y::l,h=>by simp only[ma,if_pos (h y Ψ),V5 (l:=l) fun z bz=>h z (by simp[bz]),bW]
theorem Y1{s:List ao}:∀{l acc:List bN},(acc++l).Pairwise (fun x y=>x.v<y.v)->(∀x∈l,cS s x.v=none)->gx s l acc=some (acc++l)
 |[],acc,_,_=>by simp[gx]
 |x::r,acc,bD,aK=>by
  have J:∀y∈acc,y.v<x.v:=fun y aL=>(List.pairwise_append.1 bD).2.2 y aL x Ψ;have U:lH acc x.v=none:=y6.2 fun y aL=>by have:=J y aL;omega
  have ar:jk acc (bp s x.v) x.k=some (acc++[x]):=by rw[Cc (aK x Ψ)];simp only[jk,U];rw[V5 J]
  simp only[gx,ar];rw[Y1 (by simpa using bD) fun y aL=>aK y (by simp[aL])];simp
theorem Y3{s:List ao}(ag:fU s):∀{l acc a:List bj},(∀x∈acc,cS s x.v=none)->gy s l acc=some a->∀x∈a,cS s x.v=none
 |[],acc,a,h,he=>by simp only[gy,ea]at he;rw[<-he];exact h
 |y::r,acc,a,h,he=>by
  simp only[gy]at he;split at he
  ·rename_i bH ak;refine Y3 ag (fun x ab=>?_) he;rcases(Bz ak x).1 ab with J|⟨_,J⟩
   ·exact h x J
   ·exact O7 ag (t:= .var y.v) J
  ·cases he
theorem Y4{s:List ao}:∀{l acc:List bj},h7 fs (acc++l)->(∀x∈l,cS s x.v=none)->gy s l acc=some (acc++l)
 |[],acc,_,_=>by simp[gy]
 |x::r,acc,bD,aK=>by
  have ar:j1 acc (bp s x.v) x.s=some (acc++[x]):=by
   rw[Cc (aK x Ψ)];refine JR rfl (awh ?_ bD) fun z=>?_
   ·simp
   ·simp only[kt,List.mem_singleton,T.occ,eb];refine or_congr_right ⟨fun h=>by rw[h];exact⟨rfl,rfl⟩,fun⟨J,U⟩=>?_⟩;cases z;cases x;simp_all
  simp only[gy,ar];rw[Y4 (by simpa using bD) fun y aL=>aK y (by simp[aL])];simp
def E4(b:List ao)(k:List bN)(m:List bj)(d:List ao):Prop:= ∃x,mgu b (h3 d)=some x/\¬(gx x k []=none\/gy x m []=none)/\gT b x=d/\d≠[]
theorem HC{b:List ao}(af:e5 b){k:List bN}{m:List bj}:∀{l L:List (List ao)},hk b k m l=some L->∀d∈L,E4 b k m d
 |[],L,h=>by simp only[hk,ea]at h;rw[<-h];simp
 |d0::r,L,h=>by
  simp only[hk]at h;split at h
  ·exact HC af h
  ·rename_i x ab;split at h
   ·exact HC af h
   ·rename_i ad;split at h
    ·cases h
    ·rename_i ax;rw[hf]at h;obtain⟨Qe,J,rfl⟩:=h;intro d aR;rcases fT.1 aR with rfl|aR
     ·exact⟨x,akD af.sol af.fits ab,ad,rfl,ax⟩
     ·exact HC af J d aR
theorem WT{b:List ao}{k:List bN}{m:List bj}:∀{L:List (List ao)},(∀d∈L,E4 b k m d)->hk b k m L=some L
 |[],_=>rfl
 |d::L,h=>by obtain⟨x,J,U,ar,a6⟩:=h d Ψ;simp only[hk,J,if_neg U,ar,if_neg a6,WT (L:=L) fun e he=>h e (by simp[he]),o0]
theorem HB{b:List ao}(af:e5 b){k:List bN}{m:List bj}:∀{l L:List (List ao)},(∀d∈l,e5 d)->hk b k m l=some L->∀d∈L,e5 d
 |[],L,_,h=>by simp only[hk,ea]at h;rw[<-h];simp
 |d0::r,L,au,h=>by
  simp only[hk]at h;split at h
  ·exact HB af (fun d aR=>au d (by simp[aR])) h
  ·rename_i x ab;split at h
   ·exact HB af (fun d aR=>au d (by simp[aR])) h
   ·split at h
    ·cases h
    ·rw[hf]at h;obtain⟨Qe,J,rfl⟩:=h;intro d aR;rcases fT.1 aR with rfl|aR
     ·exact HS (af.mgu (fun e he=>by obtain⟨c,aw,rfl⟩:=iu.1 he;have:=(au d0 Ψ).ok c aw;exact⟨by simpa[T.ok]using this.1,this.2⟩) ab)
     ·exact HB af (fun d aR=>au d (by simp[aR])) J d aR
theorem HA{b:List ao}(af:e5 b){n:Int}(ax:qu b n){k:List bN}{m:List bj}:∀{l L:List (List ao)},(∀d∈l,qu d n)->hk b k m l=some L->∀d∈L,qu d n
 |[],L,_,h=>by simp only[hk,ea]at h;rw[<-h];simp
 |d0::r,L,au,h=>by
  simp only[hk]at h;split at h
  ·exact HA af ax (fun d aR=>au d (by simp[aR])) h
  ·rename_i x ab;split at h
   ·exact HA af ax (fun d aR=>au d (by simp[aR])) h
   ·split at h
    ·cases h
    ·rw[hf]at h;obtain⟨Qe,J,rfl⟩:=h;intro d aR;rcases fT.1 aR with rfl|aR
     ·have:=Xl (fun v=>v<n) af.sol af.fits ax (fun e he=>by obtain⟨c,aw,rfl⟩:=iu.1 he;have:=au d0 Ψ c aw;exact⟨fun w hw=>by simp[T.occ]at hw;subst hw;exact this.1,this.2⟩) ab
      exact fun c aw=>this c (oi.1 aw).1
     ·exact HA af ax (fun d aR=>au d (by simp[aR])) J d aR
theorem akI{L:List (List ao)}:ll (ll L)=ll L:=Xn (Xm L) fun x=>by rw[BB,and_assoc];refine⟨fun⟨J,U⟩=>⟨J,U,?_⟩,fun⟨J,U,_⟩=>⟨J,U⟩⟩;rw[js,jd]at U⊢;exact fun d aR=>U d (BB.1 aR).1
theorem MO{b:List ao}(af:e5 b){n:Int}(ax:qu b n){v w:Int}(aF:v<n)(h:(bp b v).occ w=true):w<n:=by
 unfold bp at h;cases e:cS b v with
 |none=>rw[e]at h;simp[T.occ]at h;omega
 |some t=>rw[e]at h;exact(ax _ (j2 e)).2 w h
theorem YZ{b:List ao}(af:e5 b){n:Int}(ax:qu b n):∀{l acc a:List bN},(∀x∈l,x.v<n)->(∀x∈acc,x.v<n)->gx b l acc=some a->∀x∈a,x.v<n
 |[],acc,a,_,h,he=>by simp only[gx,ea]at he;rw[<-he];exact h
 |y::r,acc,a,au,h,he=>by
  simp only[gx]at he;split at he
  ·rename_i bH ak;refine YZ af ax (fun x ab=>au x (by simp[ab])) (fun x ab=>?_) he;rcases JQ ak x ab with J|J
   ·exact h x J
   ·exact MO af ax (au y Ψ) (by rw[J];simp[T.occ])
  ·cases he
theorem Y2{b:List ao}(af:e5 b){n:Int}(ax:qu b n):∀{l acc a:List bj},(∀x∈l,x.v<n)->(∀x∈acc,x.v<n)->gy b l acc=some a->∀x∈a,x.v<n
 |[],acc,a,_,h,he=>by simp only[gy,ea]at he;rw[<-he];exact h
 |y::r,acc,a,au,h,he=>by
  simp only[gy]at he;split at he
  ·rename_i bH ak;refine Y2 af ax (fun x ab=>au x (by simp[ab])) (fun x ab=>?_) he;rcases(Bz ak x).1 ab with J|⟨_,J⟩
   ·exact h x J
   ·exact MO af ax (au y Ψ) J
  ·cases he
theorem EU{s ah:ch}(h:jw s)(he:ij s=some ah):rL ah/\ah.n=s.n/\ah.b=s.b:=by
 unfold ij at he;split at he
 ·cases he
 rename_i k ad;split at he
 ·cases he
 rename_i m hm;split at he
 ·cases he
 rename_i L j4;split at he;rotate_left
 ·cases he
 rename_i lY;cases he;have aS:=Ix h.b h.k.at' ⟨Ψ,Ψ⟩ ad;have m1:=Iy h.b h.m.at' ⟨Ψ,by simp[h7]⟩ hm;have m2:hN (m.filter (kZ k)):=⟨fun x ab=>m1.at' x (oi.1 ab).1,aa9 _ m1.asc⟩;have cF:=HC h.b j4;have yV:=HB h.b h.d j4;refine⟨⟨⟨h.n,h.b,fun x ab=>yV x (BB.1 ab).1,aS,m2,h.bb,fun x ab=>HA h.b h.bb h.db j4 x (BB.1 ab).1,YZ h.b h.bb h.kb Ψ ad,fun x ab=>Y2 h.b h.bb h.mb Ψ hm x (oi.1 ab).1⟩,?_⟩,rfl,rfl⟩;unfold ij;have ak:gx s.b k []=some k:=Y1 (acc:=[]) aS.asc (Y0 h.b.sol Ψ ad);have aD:gy s.b (m.filter (kZ k)) []=some (m.filter (kZ k)):=Y4 (acc:=[]) m2.asc fun x ab=>Y3 h.b.sol Ψ hm x (oi.1 ab).1;have bh:(m.filter (kZ k)).filter (kZ k)=m.filter (kZ k):=by rw[List.filter_filter];simp
 have dk:hk s.b k (m.filter (kZ k)) (ll L)=some (ll L):=WT fun d aR=>cF d (BB.1 aR).1;simp only[ak,aD,bh,dk,akI,if_pos lY]
theorem ub{α:Type}{s:List α}{i:Nat}{t:α}(h:s[i]? =some t):s.drop i=t::s.drop (i+1):=by obtain⟨hi,e⟩:=eV.1 h;rw[lR hi,e]
def qL(L:List (List ao))(a:List (List ao))(e:List ao):List (List ao):=if js L e=true then kE eM e a else a
theorem Nt{L:List (List ao)}:∀(xs:List (List ao)) {a:List (List ao)},h7 eM a->h7 eM (xs.foldl (qL L) a)
 |[],_,h=>h
 |x::xs,a,h=>Nt xs (a:=qL L a x) (by unfold qL;split<;>first|exact MB mh h|exact h)
theorem Xp{L:List (List ao)}{x:List ao}:∀(xs:List (List ao)) {a:List (List ao)},x∈xs.foldl (qL L) a↔x∈a\/(x∈xs/\js L x=true)
 |[],a=>by simp
 |y::xs,a=>by
  rw[List.foldl_cons,Xp xs,fT];unfold qL;by_cases ad:js L y=true
  ·rw[if_pos ad,HK mh];constructor
   ·rintro((rfl|h)|h)
    ·exact .inr ⟨.inl rfl,ad⟩
    ·exact .inl h
    ·exact .inr ⟨.inr h.1,h.2⟩
   ·rintro(h|⟨rfl|J,U⟩)
    ·exact .inl (.inr h)
    ·exact .inl (.inl rfl)
    ·exact .inr ⟨J,U⟩
  ·rw[if_neg ad];constructor
   ·rintro(h|h)
    ·exact .inl h
    ·exact .inr ⟨.inr h.1,h.2⟩
   ·rintro(h|⟨rfl|J,U⟩)
    ·exact .inl h
    ·exact absurd U ad
    ·exact .inr ⟨J,U⟩
theorem Xo{L:List (List ao)}:∀(xs a:List (List ao)),(xs.foldl (qL L) a).length<=a.length+xs.length
 |[],a=>by simp
 |y::xs,a=>by
  have J:=Xo (L:=L) xs (qL L a y);have U:(qL L a y).length<=a.length+1:=by
   unfold qL;split
   ·exact MD _ _
   ·omega
  simp only[List.foldl_cons,oX];omega
theorem akK(L:List (List ao)):ll L=L.foldl (qL L) []:=Xn (Nt L (by simp[h7])) fun x=>by rw[Xp];simp
def y4(L:List (List ao))(i:Nat)(a:List (List ao)):Prop:=a=(L.take i).foldl (qL L) []
theorem y4.step{L:List (List ao)}{i:Nat}{a:List (List ao)}(h:y4 L i a){e:List ao}(he:L[i]? =some e):y4 L (i+1) (qL L a e):=by rw[y4,qQ he,List.foldl_append,h];rfl
def xi(e d:List ao):Bool:=decide (d=e)|| !nY d e
def qF(L:List (List ao))(e:List ao)(j:Nat)(k:Bool):Prop:=k=(L.take j).all (xi e)
theorem qF.step{L:List (List ao)}{e:List ao}{j:Nat}{k:Bool}(h:qF L e j k){d:List ao}(aR:L[j]? =some d):qF L e (j+1) (k&&xi e d):=by rw[qF,qQ aR,List.all_append,h];simp
def Hl(a:List (List ao))(e:List ao)(k:Nat):Prop:=k<=a.length/\∀c,a[k]? =some c->0<=eM c e
theorem Hl.fin{a:List (List ao)}{e:List ao}{k:Nat}(h:Hl a e k)(bD:h7 eM a)(aw:∀d,0<k->a[k-1]? =some d->eM d e<0):kE eM e a=if(match a[k]? with|some y=>decide (eM y e=0)|none=>false)=true then a else a.take k++e::a.drop k:=
 (MC mh e a k (fun i c hi kj=>by
  have ad:=h.1;obtain⟨d,aR⟩:∃d,a[k-1]? =some d:=⟨_,b6 Ω⟩;have J:=aw d Ω aR;rcases Nat.lt_or_ge i (k-1)with U|U
  ·have tM:=(eV.1 kj);have k9:=(eV.1 aR);have:=qo.1 bD i (k-1) tM.1 k9.1 U;rw[tM.2,k9.2]at this;exact mh.ltr this Ω
  ·have:i=k-1:=Ω
   subst this;rw[aR]at kj;cases kj;exact J) h.2 h.1).trans (by cases a[k]?<;>rfl)
theorem Wo(L:List (List ao))(e:List ao):js L e=L.all (xi e):=rfl
theorem ZB{l:List (List ao)}{x:List ao}:x∈pG eM l↔x∈l:=(zL eM l).mem_iff
theorem akJ(l:List (List ao)):ll l=(cQ none (pG eM l)).filter (js (pG eM l)):=by have h:js l=js (pG eM l):=funext fun e=>ajP (fun x=>ZB.symm) e;rw[ll,h];rfl
def ng(s:List (List ao))(i:Nat)(acc:List (List ao)):Prop:=acc++(cQ (if i=0 then none else s[i-1]?) (s.drop i)).filter (js s)=(cQ none s).filter (js s)
def ir:ch:=⟨0,[],[],[],[]⟩
noncomputable def wb(s:ch):ch:=match gx s.b s.k []with
 |none=>ir
 |some k=>match gy s.b s.m []with
  |none=>ir
  |some m=>match hk s.b k (m.filter (kZ k)) s.d with
   |none=>ir
   |some L=>⟨s.n,s.b,ll L,k,m.filter (kZ k)⟩
theorem IX{s ah:ch}(h:ij s=some ah):wb s=ah:=by
 unfold ij at h;unfold wb;cases J:gx s.b s.k []with
 |none=>rw[J]at h;cases h
 |some k=>
  rw[J]at h;simp only at h⊢;cases U:gy s.b s.m []with
  |none=>rw[U]at h;cases h
  |some m=>
   rw[U]at h;simp only at h⊢;cases ar:hk s.b k (m.filter (kZ k)) s.d with
   |none=>rw[ar]at h;cases h
   |some L=>
    rw[ar]at h;simp only at h⊢;split at h
    ·cases h;rfl
    ·cases h
theorem abF{k:List bN}(ad:jE k)(v:Int):(jk k (.var v) 2).isSome=(lH k v !=some 3):=by
 unfold jk;simp only;cases h:lH k v with
 |none=>simp
 |some x=>have:=(ad.at' _ (Wu h)).2;simp only at this;rcases this with rfl|rfl<;>simp
theorem abK{k:List bN}(bD:k.Pairwise fun x y=>x.v<y.v)(v:Int):(k.any fun x=>x.v==v&&x.k==3)=(lH k v==some 3):=by
 rw[qY,List.any_eq_true,eb];constructor
 ·rintro⟨x,ab,h⟩;simp only[cy,eb]at h;have:=Hs bD ab;rw[h.1,h.2]at this;exact this
 ·intro h;exact⟨_,Wu h,Ψ⟩
theorem M2{b:List ao}{k:List bN}{m:List bj}{d:List ao}{r:List (List ao)}(h:mgu b (h3 d)=none):hk b k m (d::r)=hk b k m r:=by rw[hk,h]
theorem M1{b:List ao}{k:List bN}{m:List bj}{d x:List ao}{r:List (List ao)}(h:mgu b (h3 d)=some x)(ad:gx x k []=none\/gy x m []=none):hk b k m (d::r)=hk b k m r:=by rw[hk,h];simp only[if_pos ad]
theorem M0{b:List ao}{k:List bN}{m:List bj}{d x:List ao}{r:List (List ao)}(h:mgu b (h3 d)=some x)(ad:¬(gx x k []=none\/gy x m []=none))(ax:gT b x=[]):hk b k m (d::r)=none:=by rw[hk,h];simp only[if_neg ad,if_pos ax]
theorem M3{b:List ao}{k:List bN}{m:List bj}{d x:List ao}{r:List (List ao)}(h:mgu b (h3 d)=some x)(ad:¬(gx x k []=none\/gy x m []=none))(ax:gT b x≠[]):hk b k m (d::r)=(hk b k m r).map (gT b x:: ·):=by rw[hk,h];simp only[if_neg ad,if_neg ax]
def qG(b:List ao)(k:List bN)(m:List bj)(D:List (List ao))(i:Nat)(a:List (List ao)):Prop:=a.length<=i/\(∀x∈a,e5 x)/\(hk b k m (D.drop i)).map (a++ ·)=hk b k m D
def ez(n:Int):T->Bool
 | .var v=>decide (v<n)
 | .pair a b=>ez n a&&ez n b
 |_=>true
theorem yc{n:Int}:∀{t:T},ez n t=true↔yb t n
 | .var v=>by simp[ez,yb,T.occ]
 | .pair a b=>by simp only[ez,cy,yc (t:=a),yc (t:=b),yb,T.occ,lu];exact⟨fun h v aF=>aF.elim (h.1 v) (h.2 v),fun h=>⟨fun v aF=>h v (.inl aF),fun v aF=>h v (.inr aF)⟩⟩
 | .nil=>by simp[ez,yb,T.occ]
 | .sym _=>by simp[ez,yb,T.occ]
 | .num _=>by simp[ez,yb,T.occ]
def k6(n:Int)(b:ao):Bool:=decide (b.v<n)&&ez n b.t
theorem wx{n:Int}{s:List ao}:s.all (k6 n)=true↔qu s n:=by simp[jd,k6,qu,yc]
def rS(v m:Int):Int:=if m<v+1 then v+1 else m
theorem Jt{n:Int}:∀(t:T) (m:Int),t.fold rS m<=n↔m<=n/\ez n t=true
 | .var v,m=>by simp only[T.fold,rS,ez,eW];split<;>omega
 | .pair a b,m=>by simp only[T.fold,Jt b,Jt a,ez,cy,and_assoc]
 | .nil,m=>by simp[T.fold,ez]
 | .sym _,m=>by simp[T.fold,ez]
 | .num _,m=>by simp[T.fold,ez]
def Fj(v m:Int):Option Int:=if 0<=v/\v<=100000 then some (rS v m)else none
theorem PV:∀(t:T) (m:Int),t.ok=true->t.foldO Fj m=some (t.fold rS m)
 | .var v,m,h=>by
  have:0<=v/\v<=100000:=by simpa[T.ok]using h
  simp[T.foldO,T.fold,Fj,this]
 | .pair a b,m,h=>by
  have J:a.ok=true/\b.ok=true:=by simpa[T.ok]using h
  simp[T.foldO,T.fold,PV a m J.1,PV b _ J.2]
 | .nil,m,_=>rfl
 | .sym _,m,_=>rfl
 | .num _,m,_=>rfl
structure h1 where
 n:Int
 b:List c3
 d:List (List c3)
 k:List bN
 m:List bj
def ch.r(s:ch):h1:=⟨s.n,s.b.map ao.b,s.d.map fun x=>x.map ao.b,s.k,s.m⟩
def oO(r:h1):Prop:= ∃s:ch,r=s.r/\rL s
def kA(n:Int)(x:List c3):Prop:= ∃s:List ao,x=s.map ao.b/\e5 s/\qu s n
structure OL (r:h1):Prop where
 n:0<=r.n/\r.n<=100000
 b:kA r.n r.b
 d:∀x∈r.d,kA r.n x
 k:jE r.k
 m:hN r.m
 kb:∀x∈r.k,x.v<r.n
 mb:∀x∈r.m,x.v<r.n
theorem oO.raw{r:h1}(h:oO r):OL r:=by obtain⟨s,rfl,J,_⟩:=h;exact⟨J.n,⟨s.b,rfl,J.b,J.bb⟩,fun x ab=>by obtain⟨y,aL,rfl⟩:=iu.1 ab;exact⟨y,rfl,J.d y aL,J.db y aL⟩,J.k,J.m,J.kb,J.mb⟩
theorem wv:∀{a b:List ao},a.map ao.b=b.map ao.b->a=b
 |[],b,h=>by cases b<;>simp at h⊢
 |x::a,[],h=>by simp at h
 |x::a,y::b,h=>by simp only[gM,oW,ao.b,c3.mk.injEq]at h;rw[wv h.2];have:=Py h.1.2;obtain⟨⟨J,_⟩,_⟩:=h;cases x;cases y;simp_all
theorem QJ:∀{a b:List (List ao)},(a.map fun x=>x.map ao.b)=(b.map fun x=>x.map ao.b)->a=b
 |[],b,h=>by cases b<;>simp at h⊢
 |x::a,[],h=>by simp at h
 |x::a,y::b,h=>by rw[gM,gM,oW]at h;rw[QJ h.2,wv h.1]
theorem ch.r_inj{s t:ch}(h:s.r=t.r):s=t:=by obtain⟨n,b,d,k,m⟩:=s;obtain⟨n',b4,cd,bJ,ha⟩:=t;simp only[ch.r,h1.mk.injEq]at h;obtain⟨J,U,ar,a6,b0⟩:=h;rw[J,wv U,QJ ar,a6,b0]
theorem Tw{n:Int}:∀{d:List (List c3)},(∀x∈d,kA n x)->∃D:List (List ao),d=(D.map fun x=>x.map ao.b)/\(∀x∈D,e5 x)/\∀x∈D,qu x n
 |[],_=>⟨[],rfl,Ψ,Ψ⟩
 |x::d,h=>by
  obtain⟨D,J,U,ar⟩:=Tw (d:=d) fun y aL=>h y (by simp[aL]);obtain⟨s,ak,aD,bh⟩:=h x Ψ;refine⟨s::D,by rw[J,ak];rfl,fun y aL=>?_,fun y aL=>?_⟩
  ·rcases fT.1 aL with rfl|aL
   ·exact aD
   ·exact U y aL
  ·rcases fT.1 aL with rfl|aL
   ·exact bh
   ·exact ar y aL
theorem ZD{s:ch}(h:jw s):oO s.r↔ij s=some s:=by
 constructor
 ·rintro⟨t,e,_,U⟩;rw[ch.r_inj e];exact U
 ·intro U;exact⟨s,rfl,h,U⟩
theorem xL{l:List c3}:JM l↔∃s:List ao,l=s.map ao.b/\e5 s:=⟨fun⟨s,J,U,ar,a6⟩=>⟨s,J,U,ar,a6⟩,fun⟨s,J,U⟩=>⟨s,J,U.ok,U.sol,U.fits⟩⟩
def r7{α:Type}(a b:List α)(i:Nat)(_:Unit):Prop:= ∀k,k<i->a[k]? =b[k]?
theorem r7.fin{α:Type}{a b:List α}(h:r7 a b b.length ())(au:a.length=b.length):a=b:=by
 apply List.ext_getElem?;intro k;by_cases ad:k<b.length
 ·exact h k ad
 ·rw[qZ Ω,qZ Ω]
theorem r7.step{α:Type}{a b:List α}{i:Nat}(h:r7 a b i ()){x:α}(bD:a[i]? =some x)(af:b[i]? =some x):r7 a b (i+1) ():=fun k ad=>by
 rcases(by omega:k<i\/k=i)with J|rfl
 ·exact h k J
 ·rw[bD,af]
def sJ{α:Type}(p:α->Prop)(s:List α)(i:Nat)(_:Unit):Prop:= ∀k b,k<i->s[k]? =some b->p b
theorem sJ.step{α:Type}{p:α->Prop}{s:List α}{i:Nat}(h:sJ p s i ()){b:α}(af:s[i]? =some b)(bF:p b):sJ p s (i+1) ():=fun k c ad aw=>by
 rcases(by omega:k<i\/k=i)with J|rfl
 ·exact h k c J aw
 ·rw[af]at aw;cases aw;exact bF
theorem sJ.fin{α:Type}{p:α->Prop}{s:List α}(h:sJ p s s.length ()):∀b∈s,p b:=fun b af=>by obtain⟨k,ad,e⟩:=og af;exact h k b ad (by rw[b6 ad,e])
def q7:C:=(aa [cC 6 2,er 8 2,a8 9 false] (.seq (aa [I 15 0,cB 16 55 15,cj 17 16,I 18 17,aq 18 false (aY 19 4 6),aq 18 false (cB 20 117 19),aq 18 false (cj 21 20),cW 22 18 21,I 23 22,cb 23 false 24 1,aq 23 false (cB 25 56 24),aq 23 false (cj 26 25),cW 27 23 26,I 28 27,cb 28 false 29 3,aq 28 false (aV 30 .neq 29 2),cb 28 false 31 30,cb 31 true 32 3,aq 31 true (aV 33 .neq 32 3),aq 28 false (dL 34 31 33),cW 35 28 34] (aT 35 (aa [er 8 2,a8 9 false] .ret) .skip)) (aa [I 37 0,aY 38 4 6,b2 39 95 37 38,I 36 39,cr 40 0 36,cr 41 1 36,c1 10 dH,bB 4 10 40,I 11 41] (.seq (aa [I 42 11,cj 43 42] (aT 43 (aa [er 8 2,a8 9 false] .ret) .skip)) (aa [cP (.bslm 44 (some 803) 2 104 []),I 45 1,cP (.appm 46 none 2 104 (.t 44) (.t 45)),cP (.alloc 12 (some 804) (.slice 2 .nil [])),bB 1 12 46] (.seq (aa [aE 47 0 1 10,av 48 1 47,aV 49 .neq 48 1] (aT 49 (.seq (aa [aE 50 0 1 10,av 51 1 50,I 52 3,bk 53 .neq 51 52] (aT 53 (aa [er 8 2,a8 9 false] .ret) .skip)) (.seq (.pubB 12 (.region [av 54 1 12,I 8 54,a8 9 true])) .ret)) .skip)) (.seq (aa [I 55 1,ca 56 55,bS 57 0] (e0 58 57 56 (.seq (.block 1 (aa [cf 59 2 55 57,aY 60 2 59,cP (.alloc 14 none (.agg [.int .i64 0,.int .i64 0])),bB 2 14 60] (aa [aE 61 0 1 14,av 62 1 61,aE 63 1 1 10,av 64 1 63,bk 65 .eql 62 64] (aT 65 (.seq (aa [aE 66 1 1 14,av 67 1 66,I 68 3,bk 69 .neq 67 68] (aT 69 (aa [er 8 2,a8 9 false] .ret) .skip)) (.seq (.pubB 12 (.region [av 70 1 12,I 8 70,a8 9 true])) .ret)) .skip)))) (.region [aV 71 .add 57 1,I 57 71])))) (aa [av 72 1 12,aE 73 1 1 10,av 74 1 73,I 75 3,b5 76 (.build [.int .i64 0,.int .i64 0] [(0,1,(.t 74)),(1,1,(.t 75))]),eI 77 2 104 [.t 76],cP (.appm 78 none 2 104 (.t 72) (.t 77)),bB 1 12 78] (aa [av 79 1 12,b5 80 (.mkif 25 (.t 79)),b5 81 (.mkf 127 [.t 12]),b2 82 126 80 81] (.seq (.pubB 12 (.region [av 83 1 12,I 8 83,a8 9 true])) .ret))))))))))
@[simp] def kp:List bO:=[.tmp 8,.tmp 9]
def FN:C:=(aa [cC 6 2,cP (.box 7 (some 811) (.t 3)),er 8 2,a8 9 false] (.seq (aa [I 17 0,cB 18 55 17,cj 19 18,I 20 19,aq 20 false (aY 21 4 6),aq 20 false (cB 22 117 21),aq 20 false (cj 23 22),cW 24 20 23,I 25 24,cb 25 false 26 1,aq 25 false (cB 27 57 26),aq 25 false (cj 28 27),cW 29 25 28,I 30 29,aq 30 false (av 31 1 7),aq 30 false (cB 32 128 31),aq 30 false (cj 33 32),cW 34 30 33] (aT 34 (aa [er 8 2,a8 9 false] .ret) .skip)) (aa [I 36 0,aY 37 4 6,b2 38 95 36 37,I 35 38,cr 39 0 35,cr 40 1 35,c1 10 dH,bB 4 10 39,I 11 40] (.seq (aa [I 41 11,cj 42 41,I 43 42,aq 43 false (aY 44 4 10),aq 43 false (av 45 1 7),aq 43 false (b2 46 109 44 45),cW 47 43 46] (aT 47 (aa [er 8 2,a8 9 false] .ret) .skip)) (aa [cP (.mkmap 48 (some 812)),cP (.alloc 12 (some 813) (.junk)),bB 1 12 48] (.seq (aa [I 49 1,ca 50 49,bS 51 0] (e0 52 51 50 (.seq (.block 1 (aa [cf 53 2 49 51,aY 54 2 53,cP (.alloc 14 none (.agg [.int .i64 0,.str []])),bB 2 14 54] (.region [av 55 1 12,aY 56 2 14,cP (.mput (.a [false,true]) (.t 55) (.t 56) (.c (.bool true)))]))) (.region [aV 57 .add 51 1,I 51 57])))) (aa [aY 58 4 10,b5 59 (.mkf 130 [.t 12,.t 7]),b2 60 129 58 59] (aa [cP (.bslm 61 (some 814) 2 106 []),cP (.alloc 15 (some 815) (.slice 2 .nil [])),bB 1 15 61] (.seq (aa [av 62 1 12,cP (.range 63 none (.t 62))] (.block 2 (.loop (aa [⟨none,.next 64 (.t 63)⟩,cr 65 0 64] (.seq (aT 65 .skip (.exit 2)) (.block 3 (aa [b5 66 (.ment (.t 63)),cr 67 0 66,cP (.alloc 16 none (.agg [.int .i64 0,.str []])),bB 2 16 67] (.region [av 68 1 15,aY 69 2 16,eI 70 2 106 [.t 69],cP (.appm 71 none 2 106 (.t 68) (.t 70)),bB 1 15 71])))))))) (aa [av 72 1 15,b5 73 (.mkif 26 (.t 72)),b5 74 (.mkf 131 [.t 15]),b2 75 126 73 74] (.seq (.pubB 15 (.region [av 76 1 15,I 8 76,a8 9 true])) .ret)))))))))))
@[simp] def If:List bO:=[.tmp 8,.tmp 9]
def Q6:C:=(aa [a8 2 false] (.seq (aa [I 5 0,ca 6 5,bS 7 0] (e0 8 7 6 (.seq (.block 1 (aa [I 9 7,cf 10 2 5 7,aY 11 2 10,cP (.alloc 4 none (.agg [.int .i64 0,.int .i64 0])),I 3 9,bB 2 4 11] (.seq (.drawn true 46 [aE 12 0 1 4,av 13 1 12,aV 14 .lss 13 0,I 15 14,aq 15 false (aE 16 0 1 4),aq 15 false (av 17 1 16),aq 15 false (aV 18 .gtr 17 100000),cW 19 15 18,I 20 19,aq 20 false (aE 21 1 1 4),aq 20 false (av 22 1 21),aq 20 false (aV 23 .neq 22 2),cb 20 false 24 23,aq 24 true (aE 25 1 1 4),aq 24 true (av 26 1 25),aq 24 true (aV 27 .neq 26 3),aq 20 false (dL 28 24 27),cW 29 20 28,I 30 29,cb 30 false 31 3,aq 30 false (aV 32 .gtr 31 0),cb 30 false 33 32,cb 33 true 34 0,cb 33 true 35 3,aq 33 true (aV 36 .sub 35 1),aq 33 true (cf 37 2 34 36),aq 33 true (aE 38 0 1 37),aq 33 true (av 39 1 38),aq 33 true (aE 40 0 1 4),aq 33 true (av 41 1 40),aq 33 true (bk 42 .geq 39 41),aq 30 false (dL 43 33 42),cW 44 30 43]) (aT 44 (aa [a8 2 false] .ret) .skip)))) (.region [aV 45 .add 7 1,I 7 45])))) (aa [a8 2 true] .ret)))
@[simp] def Yk:List bO:=[.tmp 2]
def Q7:C:=(aa [a8 2 false] (.seq (aa [I 5 0,ca 6 5,bS 7 0] (e0 8 7 6 (.seq (.block 1 (aa [I 9 7,cf 10 2 5 7,aY 11 2 10,cP (.alloc 4 none (.agg [.int .i64 0,.str []])),I 3 9,bB 2 4 11] (.seq (.drawn true 41 [aE 12 0 1 4,av 13 1 12,aV 14 .lss 13 0,I 15 14,aq 15 false (aE 16 0 1 4),aq 15 false (av 17 1 16),aq 15 false (aV 18 .gtr 17 100000),cW 19 15 18,I 20 19,aq 20 false (aE 21 1 1 4),aq 20 false (av 22 1 21),aq 20 false (cB 23 128 22),aq 20 false (cj 24 23),cW 25 20 24,I 26 25,cb 26 false 27 3,aq 26 false (aV 28 .gtr 27 0),cb 26 false 29 28,cb 29 true 30 0,cb 29 true 31 3,aq 29 true (aV 32 .sub 31 1),aq 29 true (cf 33 2 30 32),aq 29 true (aY 34 2 33),aq 29 true (aY 35 2 4),aq 29 true (b2 36 132 34 35),aq 29 true (cj 37 36),aq 26 false (dL 38 29 37),cW 39 26 38]) (aT 39 (aa [a8 2 false] .ret) .skip)))) (.region [aV 40 .add 7 1,I 7 40])))) (aa [a8 2 true] .ret)))
@[simp] def Oe:List bO:=[.tmp 2]
def FU:C:=(aa [cC 2 0,a8 4 false] (.seq (aa [aE 5 0 1 2,av 6 1 5,aV 7 .eql 6 4] (aT 7 (aa [aE 8 3 1 2,av 9 1 8,jb 10 4 9 0,aY 11 4 10,I 12 1,b2 13 109 11 12,I 14 13,aq 14 false (aE 15 3 1 2),aq 14 false (av 16 1 15),aq 14 false (jb 17 4 16 1),aq 14 false (aY 18 4 17),cb 14 false 19 1,aq 14 false (b2 20 109 18 19),cW 21 14 20,I 4 21] .ret) .skip)) (aa [aE 22 0 1 2,av 23 1 22,aV 24 .eql 23 2,I 25 24,aq 25 true (aE 26 2 1 2),aq 25 true (av 27 1 26),cb 25 true 28 1,aq 25 true (bk 29 .eql 27 28),dL 30 25 29,I 4 30] .ret)))
@[simp] def Il:List bO:=[.tmp 4]
def Q1:C:=(aa [a8 5 false] (.seq (.drawn true 17 [av 6 1 2,I 7 0,cf 8 2 6 7,aE 9 0 1 8,av 10 1 9,av 11 1 2,I 12 1,cf 13 2 11 12,aE 14 0 1 13,av 15 1 14,bk 16 .lss 10 15,I 5 16]) .ret))
@[simp] def Yh:List bO:=[.tmp 5]
def QZ:C:=(.region [av 4 1 1,I 5 0,av 6 1 2,b5 7 (.build [.int .i64 0,.str []] [(0,1,(.t 5)),(1,1,(.t 6))]),cP (.mput (.a [false,true]) (.t 4) (.t 7) (.c (.bool true)))])
@[simp] def Yf:List bO:=[]
def Q0:C:=(aa [a8 5 false] (.seq (.drawn true 15 [av 6 1 2,I 7 0,cf 8 2 6 7,aY 9 2 8,av 10 1 2,I 11 1,cf 12 2 10 11,aY 13 2 12,b2 14 132 9 13,I 5 14]) .ret))
@[simp] def Yg:List bO:=[.tmp 5]
def FQ:C:=(aa [cC 2 0,cC 3 1,a8 4 false] (aa [aE 5 0 1 2,av 6 1 5,aE 7 0 1 3,av 8 1 7,bk 9 .lss 6 8,I 10 9,aq 10 false (aE 11 0 1 2),aq 10 false (av 12 1 11),aq 10 false (aE 13 0 1 3),aq 10 false (av 14 1 13),aq 10 false (bk 15 .eql 12 14),cb 10 false 16 15,aq 16 true (aE 17 1 1 2),aq 16 true (av 18 1 17),aq 16 true (aE 19 1 1 3),aq 16 true (av 20 1 19),aq 16 true (bk 21 .lss 18 20),aq 10 false (dL 22 16 21),cW 23 10 22,I 4 23] .ret))
@[simp] def anN:List bO:=[.tmp 4]
def uB:List (Nat×dN):=[
 (3,⟨1,8,.int .i64,.int .i64 0⟩),
 (9,⟨1,16,.str,.str []⟩),
 (25,⟨1,24,.slice 104,.slice 2 .nil []⟩),
 (26,⟨1,24,.slice 106,.slice 2 .nil []⟩),
 (30,⟨1,24,.slice 32,.slice 4 .nil []⟩),
 (32,⟨4,56,.struct [(0,3),(1,3),(2,9),(3,30)],.agg [.int .i64 0,.int .i64 0,.str [],.slice 4 .nil []]⟩),
 (104,⟨2,16,.struct [(0,3),(1,3)],.agg [.int .i64 0,.int .i64 0]⟩),
 (106,⟨2,24,.struct [(0,3),(1,9)],.agg [.int .i64 0,.str []]⟩),
 (165,⟨1,8,.map 106 4,.junk⟩)]
theorem kr:fY al uB=true:=by kernel_rfl
theorem sU:bZ uB q7 kp 4 Tryz.f52=true:=by kernel_rfl
theorem sc:al.funcs[(52:Nat)]? =some Tryz.f52:=Tryz.func52
theorem NI:bZ uB FN If 4 Tryz.f54=true:=by kernel_rfl
theorem KT:al.funcs[(54:Nat)]? =some Tryz.f54:=Tryz.func54
theorem alm:bZ uB Q6 Yk 1 Tryz.f56=true:=by kernel_rfl
theorem aen:al.funcs[(56:Nat)]? =some Tryz.f56:=Tryz.func56
theorem aln:bZ uB Q7 Oe 1 Tryz.f57=true:=by kernel_rfl
theorem aeo:al.funcs[(57:Nat)]? =some Tryz.f57:=Tryz.func57
theorem NO:bZ uB FU Il 2 Tryz.f109=true:=by kernel_rfl
theorem KZ:al.funcs[(109:Nat)]? =some Tryz.f109:=Tryz.func109
theorem alg:bZ uB Q1 Yh 3 Tryz.f127=true:=by kernel_rfl
theorem aei:al.funcs[(127:Nat)]? =some Tryz.f127:=Tryz.func127
theorem ale:bZ uB QZ Yf 3 Tryz.f130=true:=by kernel_rfl
theorem aeg:al.funcs[(130:Nat)]? =some Tryz.f130:=Tryz.func130
theorem alf:bZ uB Q0 Yg 3 Tryz.f131=true:=by kernel_rfl
theorem aeh:al.funcs[(131:Nat)]? =some Tryz.f131:=Tryz.func131
theorem NL:bZ uB FQ anN 2 Tryz.f132=true:=by kernel_rfl
theorem KW:al.funcs[(132:Nat)]? =some Tryz.f132:=Tryz.func132
def mG(x:bN):Prop:=(0<=x.v/\x.v<=100000)/\(x.k=2\/x.k=3)
def nW(x y:bN):Prop:=x.v<y.v
theorem Hr{l:List bN}:jE l↔∀i,i<l.length->iF mG nW l i:=by rw[Qq (p:=mG) (r:=nW) (fun a b c J U=>by unfold nW at*;omega)];exact⟨fun h=>⟨h.at',h.asc⟩,fun h=>⟨h.1,h.2⟩⟩
def kF(x:bj):Prop:=(0<=x.v/\x.v<=100000)/\iX x.s=true
def kY(x y:bj):Prop:=fs x y<0
theorem HH{l:List bj}:hN l↔∀i,i<l.length->iF kF kY l i:=by rw[Qq (p:=kF) (r:=kY) (fun a b c J U=>by unfold kY at*;exact mi.ltr J (Int.le_of_lt U))];exact⟨fun h=>⟨h.at',h.asc⟩,fun h=>⟨h.1,h.2⟩⟩
open Classical in
theorem aad(l:List bN):bC al 56 [.slice 2 .no (l.map bN.e)] (.bool (decide (jE l))):=by
 generalize aU:decide (jE l)=R;refine bc kr aen alm fun aM=>?_;unfold Q6;have ev:l.length<=68719476736:=by simp[eA,eo,et,lim]at aM;omega
 simp;refine dO [0,5,6] (fun i (_:Unit)=>[(7,.int .i64 i)]) l.length (fun i _=> ∀j,j<i->iF mG nW l j) () bT (fun k ad=>Ω) (fun _ ae _=>?_) (fun i _ hi ae _=>?_)
 ·have:R=true:=by rw[<-aU,eW,Hr];exact ae
  rw[this];exact bQ
 ·obtain⟨b,af⟩:∃b,l[i]? =some b:=⟨_,b6 hi⟩;obtain⟨c,aw⟩:∃c,l[i-1]? =some c:=⟨_,b6 Ω⟩;have cD:∀h,(l[i]'h)=b:=fun h=>by rw[b6 hi]at af;exact ed af
  have cU:¬iF mG nW l i->R=false:=fun h=>by rw[<-aU,fC];exact fun cn=>h (Hr.1 cn i hi)
  have cF:iF mG nW l i->∀j,j<i+1->iF mG nW l j:=fun h j gq=>by
   by_cases e:j=i
   ·rw[e];exact h
   ·exact ae j Ω
  simp[hi,cD,aw];((with_reducible repeat' first|refine ai ?_|simp[cD,aw,hi]|((first|apply bU|apply bY|apply bX)<;>intro h<;>try simp at h))<;>(try exact cz));all_goals first
   |(have ax:¬iF mG nW l i:=by(intro cn;have J:=cn b af;have U:=J.2 c;have ar:=J.1;unfold mG nW at*;first|omega|(have a6:=U Ω aw;omega)|(simp_all;done)|(simp_all;omega))
     rw[cU ax]
     simp[bq,Yk,aX,aZ,aW]
     done)
   |(refine bK.rng () hi (cF fun b4 gb=>?_) ?_
     ·rw[af]at gb;cases gb
      refine⟨?_,fun cw br hT=>?_⟩
      ·unfold mG;first|(simp_all;done)|(simp_all;omega)
      ·rw[aw]at hT;cases hT;unfold nW;simp_all
     ·exact bT)
theorem Cp(a b:bj):bC al 132 [a.e,b.e] (.bool (h5 fs a b)):=by
 rw[<-Xu];have aU:uf a b=(decide (a.v<b.v)||(a.v==b.v&&hP a.s b.s)):=rfl;rcases Int.lt_trichotomy a.v b.v with h|h|h
 ·have:uf a b=true:=by rw[aU];simp[h]
  rw[this];refine bc kr KW NL fun aM=>?_;unfold FQ;exact bQ
 ·have J:¬a.v<b.v:=Ω
  have U:(a.v==b.v)=true:=by simp[h]
  have:uf a b=hP a.s b.s:=by rw[aU];simp[h]
  rw[this];refine bc kr KW NL fun aM=>?_;unfold FQ;exact bQ
 ·have J:¬a.v<b.v:=Ω
  have U:¬a.v=b.v:=Ω
  have ar:(a.v==b.v)=false:=by simp[U]
  have:uf a b=false:=by rw[aU];simp[J,U]
  rw[this];refine bc kr KW NL fun aM=>?_;unfold FQ;exact bQ
open Classical in
theorem aaf(l:List bj):bC al 57 [.slice 2 .no (l.map bj.e)] (.bool (decide (hN l))):=by
 generalize aU:decide (hN l)=R;refine bc kr aeo aln fun aM=>?_;unfold Q7;have ev:l.length<=68719476736:=by simp[eA,eo,et,lim]at aM;omega
 simp;refine dO [0,5,6] (fun i (_:Unit)=>[(7,.int .i64 i)]) l.length (fun i _=> ∀j,j<i->iF kF kY l j) () bT (fun k ad=>Ω) (fun _ ae _=>?_) (fun i _ hi ae _=>?_)
 ·have:R=true:=by rw[<-aU,eW,HH];exact ae
  rw[this];exact bQ
 ·obtain⟨b,af⟩:∃b,l[i]? =some b:=⟨_,b6 hi⟩;obtain⟨c,aw⟩:∃c,l[i-1]? =some c:=⟨_,b6 Ω⟩;have cD:∀h,(l[i]'h)=b:=fun h=>by rw[b6 hi]at af;exact ed af
  have cU:¬iF kF kY l i->R=false:=fun h=>by rw[<-aU,fC];exact fun cn=>h (HH.1 cn i hi)
  have cF:iF kF kY l i->∀j,j<i+1->iF kF kY l j:=fun h j gq=>by
   by_cases e:j=i
   ·rw[e];exact h
   ·exact ae j Ω
  have gQ:∀p:Prop,(p->e8)->(iF kF kY l i->p)->R=false:=fun p J U=>cU fun h=>J (U h);have p8:iF kF kY l i->kF b:=fun h=>(h b af).1;have bE:iF kF kY l i->0<i->h5 fs c b=true:=fun h br=>by simpa[h5,kY]using(h b af).2 c br aw
  have ef:kF b->(0<i->h5 fs c b=true)->iF kF kY l i:=fun J U b4 gb=>by rw[af]at gb;cases gb;exact⟨J,fun cw br hT=>by rw[aw]at hT;cases hT;simpa[h5,kY]using U br⟩
  unfold kF at p8 ef;by_cases g1:b.v<0
  ·rw[gQ _ (fun h=>Ω) (fun h=>(p8 h).1.1)];exact bQ
  by_cases g2:100000<b.v
  ·rw[gQ _ (fun h=>Ω) (fun h=>(p8 h).1.2)];exact bQ
  cases g3:iX b.s
  ·rw[gQ _ (fun h=>by rw[h]at g3;cases g3) (fun h=>(p8 h).2)];simp[hi,cD,aw];(with_reducible repeat' first|refine ai ?_|refine az (uC _) ?_|refine aA (uC _) ?_|simp[cD,aw,hi,g1,g2,g3]);simp[bq,Oe,aX,aZ,aW]
  by_cases g4:0<i
  ·cases g5:h5 fs c b
   ·rw[gQ _ (fun h=>by rw[h]at g5;cases g5) (fun h=>bE h g4)];simp[hi,cD,aw];(with_reducible repeat' first|refine ai ?_|refine az (uC _) ?_|refine aA (uC _) ?_|refine az (Cp _ _) ?_|refine aA (Cp _ _) ?_|simp[cD,aw,hi,g1,g2,g3,g4,g5]);simp[bq,Oe,aX,aZ,aW]
   ·simp[hi,cD,aw];(with_reducible repeat' first|refine ai ?_|refine az (uC _) ?_|refine aA (uC _) ?_|refine az (Cp _ _) ?_|refine aA (Cp _ _) ?_|simp[cD,aw,hi,g1,g2,g3,g4,g5]);exact bK.rng () hi (cF (ef ⟨⟨Ω,Ω⟩,g3⟩ fun _=>g5)) bT
  ·obtain rfl:i=0:=Ω
   simp[hi,cD,aw];(with_reducible repeat' first|refine ai ?_|refine az (uC _) ?_|refine aA (uC _) ?_|simp[cD,aw,hi,g1,g2,g3,g4]);exact bK.rng () hi (cF (ef ⟨⟨Ω,Ω⟩,g3⟩ fun h=>Ω)) bT
theorem aqN(s:List dw):∀t:T,bC al 109 [t.e,.str s] (.bool (t.has s)):=by
 intro t;induction t with
 |pair a b dG dK=>
  refine bc kr KZ NO fun aM=>?_;unfold FU;simp;cases bD:a.has s<;>cases af:b.has s<;>rw[bD]at dG<;>rw[af]at dK;all_goals(with_reducible repeat' first|refine ai ?_|refine az dG ?_|refine aA dG ?_|refine az dK ?_|refine aA dK ?_|simp)
  all_goals simp[bq,Il,aX,aZ,aW]
  all_goals simp[T.has,bD,af]
 |sym n=>
  refine bc kr KZ NO fun aM=>?_;unfold FU;simp;(with_reducible repeat' first|refine ai ?_|simp);all_goals simp[bq,Il,aX,aZ,aW]
  all_goals simp[T.has]
 |_=>
  refine bc kr KZ NO fun aM=>?_;unfold FU;simp;(with_reducible repeat' first|refine ai ?_|simp);all_goals simp[bq,Il,aX,aZ,aW]
  all_goals simp[T.has]
def Sv:C:=(aa [cC 2 0] (aa [bS 4 20] (aa [I 8 4,bS 5 0,I 6 8] (.seq (.block 0 (.loop (.seq (aa [I 9 6,I 10 1,bk 11 .leq 9 10] (aT 11 .skip (.exit 0))) (.block 1 (aa [aY 12 2 2,I 13 5,I 14 6,dn 15 260 [.t 12,.t 13,.t 14]] (aa [I 16 6,I 5 16] (.region [I 17 6,I 18 4,bk 19 .add 17 18,I 6 19]))))))) (aa [aY 20 2 2,I 21 5,I 22 1,dn 23 260 [.t 20,.t 21,.t 22]] (.block 2 (.loop (.seq (aa [I 24 4,I 25 1,bk 26 .lss 24 25] (aT 26 .skip (.exit 2))) (.block 3 (aa [I 27 4,b5 28 (.bin .mul false (gd 2) (.t 27)),bS 5 0,I 6 28] (.seq (.block 4 (.loop (.seq (aa [I 29 6,I 30 1,bk 31 .leq 29 30] (aT 31 .skip (.exit 4))) (.block 5 (aa [aY 32 2 2,I 33 5,I 34 5,I 35 4,bk 36 .add 34 35,I 37 6,dn 38 277 [.t 32,.t 33,.t 36,.t 37]] (aa [I 39 6,I 5 39] (.region [I 40 6,I 41 4,b5 42 (.bin .mul false (gd 2) (.t 41)),bk 43 .add 40 42,I 6 43]))))))) (.seq (aa [I 44 5,I 45 4,bk 46 .add 44 45,I 7 46] (aa [I 47 7,I 48 1,bk 49 .lss 47 48] (aT 49 (.region [aY 50 2 2,I 51 5,I 52 7,I 53 1,dn 54 277 [.t 50,.t 51,.t 52,.t 53]]) .skip))) (.region [I 55 4,aV 56 .mul 55 2,I 4 56])))))))))))))
@[simp] def aox:List bO:=[]
def Km:C:=(aa [cC 3 0] (aa [I 8 1,aV 9 .add 8 1,I 6 9] (.block 0 (.loop (.seq (aa [I 10 6,I 11 2,bk 12 .lss 10 11] (aT 12 .skip (.exit 0))) (.seq (.block 1 (aa [I 15 6,I 7 15] (.block 2 (.loop (.seq (aa [I 16 7,I 17 1,bk 18 .gtr 16 17,I 19 18,aq 19 true (aE 20 0 1 3),aq 19 true (av 21 1 20),cb 19 true 22 7,cb 19 true 23 7,aq 19 true (aV 24 .sub 23 1),aq 19 true (hd 25 21 [.t 22,.t 24]),dL 26 19 25] (aT 26 .skip (.exit 2))) (.seq (.block 3 (.region [aE 29 1 1 3,av 30 1 29,I 31 7,I 32 7,aV 33 .sub 32 1,hd 34 30 [.t 31,.t 33]])) (.region [I 27 7,aV 28 .sub 27 1,I 7 28]))))))) (.region [I 13 6,aV 14 .add 13 1,I 6 14])))))))
@[simp] def aot:List bO:=[]
def F2:C:=(aa [I 164 16,I 165 22,bk 166 .lss 164 165,I 167 166,cb 167 true 168 22,cb 167 true 169 3,aq 167 true (bk 170 .lss 168 169),dL 171 167 170] (aT 171 (.region [aY 172 2 4,I 173 16,I 174 22,I 175 3,dn 176 277 [.t 172,.t 173,.t 174,.t 175]]) .skip))
def F3:C:=(.seq (aa [I 151 1,I 152 18,bk 153 .lss 151 152,I 154 153,cb 154 true 155 18,cb 154 true 156 16,aq 154 true (bk 157 .lss 155 156),dL 158 154 157] (aT 158 (.region [aY 159 2 4,I 160 1,I 161 18,I 162 16,dn 163 277 [.t 159,.t 160,.t 161,.t 162]]) .skip)) F2)
def Kq:C:=(.seq (aa [I 138 18,I 139 2,bk 140 .lss 138 139,I 141 140,cb 141 true 142 2,cb 141 true 143 22,aq 141 true (bk 144 .lss 142 143),dL 145 141 144] (aT 145 (.region [aY 146 2 4,I 147 18,I 148 2,I 149 22,dn 150 284 [.t 146,.t 147,.t 148,.t 149]]) .skip)) F3)
def Kr:C:=(aa [I 113 17,aV 114 .sub 113 1,I 20 114] (.seq (.block 8 (.loop (.seq (aa [I 115 18,I 116 19,bk 117 .lss 115 116] (aT 117 .skip (.exit 8))) (.block 9 (aa [I 118 18,I 119 19,bk 120 .add 118 119,b5 121 (.conv .u64 (.t 120)),b5 122 (.bin .shr false (.t 121) (.c (.int .u64 1))),b5 123 (.conv .i64 (.t 122)),I 21 123] (aa [aE 124 0 1 4,av 125 1 124,I 126 20,I 127 21,bk 128 .sub 126 127,I 129 21,hd 130 125 [.t 128,.t 129],cj 131 130] (aT 131 (.region [I 132 21,aV 133 .add 132 1,I 18 133]) (.region [I 134 21,I 19 134])))))))) (aa [I 135 17,I 136 18,bk 137 .sub 135 136,I 22 137] Kq)))
def Sx:C:=(aa [cC 4 0] (.seq (aa [I 23 2,I 24 1,bk 25 .sub 23 24,aV 26 .eql 25 1] (aT 26 (aa [I 27 2,I 8 27] (aa [I 28 3,I 9 28] (.seq (.block 0 (.loop (.seq (aa [I 29 8,I 30 9,bk 31 .lss 29 30] (aT 31 .skip (.exit 0))) (.block 1 (aa [I 32 8,I 33 9,bk 34 .add 32 33,b5 35 (.conv .u64 (.t 34)),b5 36 (.bin .shr false (.t 35) (.c (.int .u64 1))),b5 37 (.conv .i64 (.t 36)),I 10 37] (aa [aE 38 0 1 4,av 39 1 38,I 40 10,I 41 1,hd 42 39 [.t 40,.t 41]] (aT 42 (.region [I 43 10,aV 44 .add 43 1,I 8 44]) (.region [I 45 10,I 9 45])))))))) (.seq (aa [I 46 1,I 11 46] (.block 2 (.loop (.seq (aa [I 47 11,I 48 8,aV 49 .sub 48 1,bk 50 .lss 47 49] (aT 50 .skip (.exit 2))) (.seq (.block 3 (.region [aE 53 1 1 4,av 54 1 53,I 55 11,I 56 11,aV 57 .add 56 1,hd 58 54 [.t 55,.t 57]])) (.region [I 51 11,aV 52 .add 51 1,I 11 52])))))) .ret)))) .skip)) (.seq (aa [I 59 3,I 60 2,bk 61 .sub 59 60,aV 62 .eql 61 1] (aT 62 (aa [I 63 1,I 12 63] (aa [I 64 2,I 13 64] (.seq (.block 4 (.loop (.seq (aa [I 65 12,I 66 13,bk 67 .lss 65 66] (aT 67 .skip (.exit 4))) (.block 5 (aa [I 68 12,I 69 13,bk 70 .add 68 69,b5 71 (.conv .u64 (.t 70)),b5 72 (.bin .shr false (.t 71) (.c (.int .u64 1))),b5 73 (.conv .i64 (.t 72)),I 14 73] (aa [aE 74 0 1 4,av 75 1 74,I 76 2,I 77 14,hd 78 75 [.t 76,.t 77],cj 79 78] (aT 79 (.region [I 80 14,aV 81 .add 80 1,I 12 81]) (.region [I 82 14,I 13 82])))))))) (.seq (aa [I 83 2,I 15 83] (.block 6 (.loop (.seq (aa [I 84 15,I 85 12,bk 86 .gtr 84 85] (aT 86 .skip (.exit 6))) (.seq (.block 7 (.region [aE 89 1 1 4,av 90 1 89,I 91 15,I 92 15,aV 93 .sub 92 1,hd 94 90 [.t 91,.t 93]])) (.region [I 87 15,aV 88 .sub 87 1,I 15 88])))))) .ret)))) .skip)) (aa [I 95 1,I 96 3,bk 97 .add 95 96,b5 98 (.conv .u64 (.t 97)),b5 99 (.bin .shr false (.t 98) (.c (.int .u64 1))),b5 100 (.conv .i64 (.t 99)),I 16 100] (aa [I 101 16,I 102 2,bk 103 .add 101 102,I 17 103] (aa [bS 18 0,bS 19 0] (.seq (aa [I 104 2,I 105 16,bk 106 .gtr 104 105] (aT 106 (aa [I 107 17,I 108 3,bk 109 .sub 107 108,I 18 109] (.region [I 110 16,I 19 110])) (aa [I 111 1,I 18 111] (.region [I 112 2,I 19 112])))) Kr)))))))
@[simp] def aoy:List bO:=[]
def St:C:=(aa [cC 4 0] (aa [I 10 2,I 11 1,bk 12 .sub 10 11,I 8 12] (aa [I 13 3,I 14 2,bk 15 .sub 13 14,I 9 15] (.seq (.block 0 (.loop (.seq (aa [I 16 8,I 17 9,bk 18 .neq 16 17] (aT 18 .skip (.exit 0))) (.block 1 (aa [I 19 8,I 20 9,bk 21 .gtr 19 20] (aT 21 (aa [aY 22 2 4,I 23 2,I 24 8,bk 25 .sub 23 24,I 26 2,I 27 9,dn 28 295 [.t 22,.t 25,.t 26,.t 27]] (.region [I 29 8,I 30 9,bk 31 .sub 29 30,I 8 31])) (aa [aY 32 2 4,I 33 2,I 34 8,bk 35 .sub 33 34,I 36 2,I 37 9,bk 38 .add 36 37,I 39 8,bk 40 .sub 38 39,I 41 8,dn 42 295 [.t 32,.t 35,.t 40,.t 41]] (.region [I 43 9,I 44 8,bk 45 .sub 43 44,I 9 45])))))))) (.region [aY 46 2 4,I 47 2,I 48 8,bk 49 .sub 47 48,I 50 2,I 51 8,dn 52 295 [.t 46,.t 49,.t 50,.t 51]])))))
@[simp] def aov:List bO:=[]
def Sw:C:=(aa [cC 4 0] (aa [bS 8 0] (.block 0 (.loop (.seq (aa [I 9 8,I 10 3,bk 11 .lss 9 10] (aT 11 .skip (.exit 0))) (.seq (.block 1 (.region [aE 14 1 1 4,av 15 1 14,I 16 1,I 17 8,bk 18 .add 16 17,I 19 2,I 20 8,bk 21 .add 19 20,hd 22 15 [.t 18,.t 21]])) (.region [I 12 8,aV 13 .add 12 1,I 8 13])))))))
@[simp] def YP:List bO:=[]
def Cj:List (Nat×dN):=[
 (3,⟨1,8,.int .i64,.int .i64 0⟩),
 (160,⟨1,8,.other,.junk⟩),
 (163,⟨1,8,.int .u64,.int .u64 0⟩),
 (216,⟨1,8,.other,.junk⟩),
 (222,⟨2,16,.struct [(0,160),(1,216)],.agg [.junk,.junk]⟩)]
theorem Cl:fY al Cj=true:=by kernel_rfl
theorem amJ:bZ Cj Sv aox 2 Tryz.f248=true:=by kernel_rfl
theorem afI:al.funcs[(248:Nat)]? =some Tryz.f248:=Tryz.func248
theorem XT:bZ Cj Km aot 3 Tryz.f260=true:=by kernel_rfl
theorem T3:al.funcs[(260:Nat)]? =some Tryz.f260:=Tryz.func260
theorem amL:bZ Cj Sx aoy 4 Tryz.f277=true:=by kernel_rfl
theorem afK:al.funcs[(277:Nat)]? =some Tryz.f277:=Tryz.func277
theorem amH:bZ Cj St aov 4 Tryz.f284=true:=by kernel_rfl
theorem afG:al.funcs[(284:Nat)]? =some Tryz.f284:=Tryz.func284
theorem amK:bZ Cj Sw YP 4 Tryz.f295=true:=by kernel_rfl
theorem afJ:al.funcs[(295:Nat)]? =some Tryz.f295:=Tryz.func295
end
section
open Go Go.Pv
structure fi {α:Type} (S:List α->cL) (n:Nat) (g cg:Nat) (lc cc:List aj) (lt:α->α->Bool):Prop where
 ok:∀l,dW (S l)
 same:∀l a1,l.length=n->a1.length=n->Same (S l) (S a1)
 klc:∀l,l.length=n->aC (inObs (S l)) lc
 ksc:∀l,l.length=n->aC (inObs (S l)) cc
 slc:c6 lc=lc
 ssc:c6 cc=cc
 le:n<=68719476736
 less:∀l,l.length=n->∀(i j:Nat) x y,l[i]? =some x->l[j]? =some y->bI al g (.int .i64 i:: .int .i64 j::lc) (S l) fun r ah=>r= .bool (lt x y)/\ah=S l
 swap:∀l,l.length=n->2<=n->∀i j:Nat,i<n->j<n->bI al cg (.int .i64 i:: .int .i64 j::cc) (S l) fun r ah=>r= .tuple []/\ah=S (gZ l i j)
variable {α:Type} {S:List α->cL} {n g cg:Nat} {lc cc:List aj} {lt:α->α->Bool}
def e9(g cg:Nat)(lc cc:List aj):aj:= .agg [.func g lc,.func cg cc]
theorem Lr(H:fi S n g cg lc cc lt)(l:List α)(au:l.length=n)(a b c:Nat)(as5:a+c<=b)(UT:b+c<=n):
  bI al 295 [e9 g cg lc cc,.int .i64 a,.int .i64 b,.int .i64 c] (S l) fun r ah=>r= .tuple []/\∃a1,ah=S a1/\gF a (b+c) l a1/\∀k,a1[k]? =l[s8 a b c k]?:=by
 have ag:=H.ok l;have ax:∀l m,Pv.look (.loc m) (S l).b=none:=fun l=>(H.ok l).obj.1;have hu:∀l m cs,cA (.loc m) cs (S l).b=(S l).b++[(.loc m,cs)]:=fun l m cs=>kg (ax l m);have ay:∀m,aI.loc m∉c2 (S l):=j9 ag.obj;have hle:=H.le;refine bI.mk mixed Cl afJ amK Ψ ag.obj fun aM cR=>?_;unfold Sw;simp[e9,hu,ay,cK,ax,H.slc,H.ssc];refine gA (fun i (lk:List α)=>⟨[(1,.int .i64 a),(2,.int .i64 b),(3,.int .i64 c),(4,.ptr (.loc 0) 0),(8,.int .i64 i)],[(.loc 0,[.func g lc,.func cg cc])]++(S lk).b,(S lk).e,1,c2 (S l)⟩) c (fun i lk=>lk.length=n/\gF a (b+c) l lk/\∀k,lk[k]? =l[s8 a b i k]?) l
  (jj.obL ag (Same.refl _) d6 (by simp[cK,ax,aB,aC,BH (H.klc l au),BH (H.ksc l au)]) aN aN) ⟨au,.refl _,fun k=>by simp[s8];split<;>(try split)<;>(try rfl)<;>(exfalso;omega)⟩ ?_ ?_
 ·rintro lk ⟨J,U,ar⟩ _;simp;refine cH.at (S lk) (.inr rfl) (H.ok lk) (H.same _ _ au J) aN aN ?_;simp[cN,YP,aX,aZ,aW];exact⟨lk,rfl,U,ar⟩
 ·rintro i lk hi ⟨J,U,ar⟩ _;have ak:((a:Int)+i)=(a+i:Nat):=Ω
  have aD:((b:Int)+i)=(b+i:Nat):=Ω
  simp[hi,cK,ax,H.ssc];(with_reducible repeat' first|refine ai ?_|simp);rw[ak,aD];refine cV.ob (H.swap lk J Ω (a+i) (b+i) Ω Ω) (H.ok lk) aN aN (by simp[H.ksc lk J]) ?_;rintro r ah ⟨rfl,rfl⟩;refine⟨H.same _ _ J (by simp[J]),?_⟩;simp[gW,im,cl,ax];(with_reducible repeat' first|refine ai ?_|simp);refine bK.rng (gZ lk (a+i) (b+i)) hi ⟨by simp[J],.step U Ω Ω Ω Ω Ω Ω,fun k=>?_⟩ (jj.obL (L:=[(.loc 0,[.func g lc,.func cg cc])]) (H.ok _) (H.same _ _ au (by simp[J])) d6 (by simp[cK,ax,aB,aC,BH (H.klc (gZ lk (a+i) (b+i)) (by simp[J])),BH (H.ksc (gZ lk (a+i) (b+i)) (by simp[J]))]) aN aN);rw[Bx _ _ _ _ Ω Ω,ar,ar,ar];have:s8 a b (i+1) k=if k=a+i then s8 a b i (b+i)else if k=b+i then s8 a b i (a+i)else s8 a b i k:=by
   simp only[s8];repeat' split
   all_goals omega
  rw[this];split
  ·rfl
  ·split<;>rfl
section
variable (H:fi S n g cg lc cc lt)
include H
theorem fi.loc{l:List α}(m:Nat):Pv.look (.loc m) (S l).b=none:=(H.ok l).obj.1 m
theorem fi.weak{l lk:List α}(au:l.length=n)(ad:lk.length=n){st:bu}{da:List (Nat×aj)}(aJ:∀x∈da,Pv.get x.1 st.t=x.2/\aB (mI (S lk) 1) x.2)(br:Pv.look (.loc 0) st.b=some [.func g lc,.func cg cc])
  (af:∀k cs,Pv.look k (S lk).b=some cs->Pv.look k st.b=some cs) (he:∀k o,Pv.look k (S lk).e=some o->Pv.look k st.e=some o):
  jj (c2 (S l)) st ⟨da,(.loc 0,[.func g lc,.func cg cc])::(S lk).b,(S lk).e,1,c2 (S l)⟩:=
 jj.obL (L:=[(.loc 0,[.func g lc,.func cg cc])]) (H.ok _) (H.same _ _ au ad) aJ (by simp[br,aB,aC,BH (H.klc lk ad),BH (H.ksc lk ad)]) af he
theorem fi.weakC{l lk:List α}(au:l.length=n)(ad:lk.length=n){t da:List (Nat×aj)}{q:Nat}{o:List aI}(aJ:∀x∈da,Pv.get x.1 t=x.2/\aB (mI (S lk) 1) x.2):
  jj (c2 (S l)) ⟨t,(.loc 0,[.func g lc,.func cg cc])::(S lk).b,(S lk).e,q,o⟩ ⟨da,(.loc 0,[.func g lc,.func cg cc])::(S lk).b,(S lk).e,1,c2 (S l)⟩:=
 H.weak au ad aJ (by simp[Pv.look]) (fun k cs ab=>by
  cases k with
  |loc m=>rw[H.loc m]at ab;cases ab
  |obj m=>simpa[Pv.look]using ab) (fun _ _ ab=>ab)
theorem fi.call{lk:List α}(J:lk.length=n){f:Nat}{args:List aj}{R:aj->List α->Prop}(aK:bI al f args (S lk) fun r ah=> ∃a1,ah=S a1/\R r a1)(aU:∀r a1,R r a1->a1.length=n)(ad:aC (inObs (S lk)) args){t:List (Nat×aj)}{D:List aj}{o:List aI}{d:Option Nat}{K:bu->Prop}
  (h:∀r a1,R r a1->K ⟨e4 d r t,(.loc 0,D)::(S a1).b,(S a1).e,1,o++c2 (S a1)⟩):cV al f args ⟨t,(.loc 0,D)::(S lk).b,(S lk).e,1,o⟩ d K:=by
 refine cV.ob aK (H.ok lk) (fun k cs ab=>?_) (fun _ _ ab=>ab) ad ?_
 ·cases k with
  |loc m=>rw[H.loc m]at ab;cases ab
  |obj m=>simpa[Pv.look]using ab
 ·rintro r ah ⟨a1,rfl,aO⟩;refine⟨H.same _ _ J (aU _ _ aO),?_⟩;have ak:cl (S lk).b ((.loc 0,D)::(S lk).b)=[(.loc 0,D)]:=by have:=im (S lk).b [(aI.loc 0,D)] (S lk).b;rw[gW]at this;simpa[cl,H.loc]using this
  have aD:cl (S lk).e (S lk).e=[]:=gW _;have:=h _ _ aO;simp only[ak,aD];exact this
theorem fi.doSwap{lk:List α}(J:lk.length=n)(i j:Nat)(hi:i<n)(ae:j<n)(U:2<=n){t:List (Nat×aj)}{D:List aj}{o:List aI}{d:Option Nat}{K:bu->Prop}
  (h:K ⟨e4 d (.tuple []) t,(.loc 0,D)::(S (gZ lk i j)).b,(S (gZ lk i j)).e,1,o++c2 (S (gZ lk i j))⟩):cV al cg (.int .i64 i:: .int .i64 j::cc) ⟨t,(.loc 0,D)::(S lk).b,(S lk).e,1,o⟩ d K:=
 H.call J (R:=fun r a1=>r= .tuple []/\a1=gZ lk i j) ((H.swap lk J U i j hi ae).mono fun r ah ⟨ak,aD⟩=>⟨_,aD,ak,rfl⟩) (fun r a1 ⟨_,e⟩=>by rw[e];simp[J]) (by simp[aB,aC,H.ksc lk J]) (by rintro r a1 ⟨rfl,rfl⟩;exact h)
theorem fi.doLess{lk:List α}(J:lk.length=n)(i j:Nat){x y:α}(hi:lk[i]? =some x)(ae:lk[j]? =some y){t:List (Nat×aj)}{D:List aj}{o:List aI}{d:Option Nat}{K:bu->Prop}
  (h:K ⟨e4 d (.bool (lt x y)) t,(.loc 0,D)::(S lk).b,(S lk).e,1,o++c2 (S lk)⟩):cV al g (.int .i64 i:: .int .i64 j::lc) ⟨t,(.loc 0,D)::(S lk).b,(S lk).e,1,o⟩ d K:=
 H.call J (R:=fun r a1=>r= .bool (lt x y)/\a1=lk) ((H.less lk J i j x y hi ae).mono fun r ah ⟨ak,aD⟩=>⟨_,aD,ak,rfl⟩) (fun r a1 ⟨_,e⟩=>by rw[e];exact J) (by simp[aB,aC,H.klc lk J]) (by rintro r a1 ⟨rfl,rfl⟩;exact h)
theorem fi.doFn{lk:List α}(J:lk.length=n){f:Nat}{args:List aj}{R:List α->Prop}(aK:bI al f args (S lk) fun r ah=>r= .tuple []/\∃a1,ah=S a1/\R a1)(aU:∀a1,R a1->a1.length=n)(ad:aC (inObs (S lk)) args){t:List (Nat×aj)}{D:List aj}{o:List aI}{d:Option Nat}{K:bu->Prop}
  (h:∀a1,R a1->K ⟨e4 d (.tuple []) t,(.loc 0,D)::(S a1).b,(S a1).e,1,o++c2 (S a1)⟩):cV al f args ⟨t,(.loc 0,D)::(S lk).b,(S lk).e,1,o⟩ d K:=
 H.call J (R:=fun r a1=>r= .tuple []/\R a1) (aK.mono fun r ah ⟨ak,a1,aD,bh⟩=>⟨a1,aD,ak,bh⟩) (fun r a1 h=>aU a1 h.2) ad (by rintro r a1 ⟨rfl,aO⟩;exact h a1 aO)
theorem fi.kdata{lk:List α}(J:lk.length=n):aB (inObs (S lk)) (e9 g cg lc cc):=by simp[e9,aB,aC,H.klc lk J,H.ksc lk J]
theorem fi.ret{l lk:List α}(au:l.length=n)(J:lk.length=n){Q:aj->cL->Prop}{e:Exit}(he:e= .ret\/e= .normal){t:List (Nat×aj)}{D:List aj}{q:Nat}{o:List aI}(bn:Q (.tuple []) (S lk)):cH [] (S l) Q e ⟨t,(.loc 0,D)::(S lk).b,(S lk).e,q,o⟩:=by
 refine cH.at (S lk) he (H.ok lk) (H.same _ _ au J) (fun k cs ab=>?_) (fun _ _ ab=>ab) ?_
 ·cases k with
  |loc m=>rw[H.loc m]at ab;cases ab
  |obj m=>simpa[Pv.look]using ab
 ·simp[cN,aX,aW,aB,aC,bn]
end
theorem iM(H:fi S n g cg lc cc lt):dz (e9 g cg lc cc)=e9 g cg lc cc:=by simp[e9,dz,c6,H.slc,H.ssc]
theorem iG:aj.agg [.func g lc,.func cg cc]=e9 g cg lc cc:=rfl
theorem ag7(H:fi S n g cg lc cc lt)(l:List α)(au:l.length=n)(a m b:Nat)(Dk:a<m)(wX:m<b)(af:b<=n):
  bI al 284 [e9 g cg lc cc,.int .i64 a,.int .i64 m,.int .i64 b] (S l) fun r ah=>r= .tuple []/\∃a1,ah=S a1/\gF a b l a1/\∀k,a1[k]? =l[ih a m b k]?:=by
 have ag:=H.ok l;have ax:∀l m,Pv.look (.loc m) (S l).b=none:=fun l=>(H.ok l).obj.1;have hu:∀l m cs,cA (.loc m) cs (S l).b=(S l).b++[(.loc m,cs)]:=fun l m cs=>kg (ax l m);have ay:∀m,aI.loc m∉c2 (S l):=j9 ag.obj;have hle:=H.le;refine bI.mk mixed Cl afG amH Ψ ag.obj fun aM cR=>?_;unfold St;simp[e9,hu,ay,cK,ax];(with_reducible repeat' first|refine ai ?_|simp[hu,ay,cK,ax]);refine pc (fun(x:(Nat×Nat)×List α)=>⟨[(2,.int .i64 m),(4,.ptr (.loc 0) 0),(8,.int .i64 x.1.1),(9,.int .i64 x.1.2)],(.loc 0,[.func g lc,.func cg cc])::(S x.2).b,(S x.2).e,1,c2 (S l)⟩) (fun x=>x.1.1+x.1.2)
  (fun x=>x.2.length=n/\0<x.1.1/\0<x.1.2/\a+x.1.1<=m/\m+x.1.2<=b/\gF a b l x.2/\∀k,l[ih a m b k]? =x.2[ih (m-x.1.1) m (m+x.1.2) k]?) ((m-a,b-m),l)
  (H.weak au au (by simp[aB];omega) (by simp[cK,ax]) aN aN) ⟨au,by simp;omega,by simp;omega,by simp;omega,by simp;omega,.refl _,fun k=>by simp[show m-(m-a)=a by omega,show m+(b-m)=b by omega]⟩ ?_
 rintro⟨⟨i,j⟩,lk⟩ ⟨J,hi,ae,gB,GR,U,ar⟩ _;simp only at J hi ae gB GR U ar;simp[Pv.look];((with_reducible repeat' first|refine ai ?_|simp[Pv.look]|((first|apply bU|apply bY|apply bX)<;>intro h<;>try simp at h))<;>(try exact cz))
 ·have ak:((m:Int)-i)=(m-i:Nat):=Ω
  simp only[iM H,H.slc,H.ssc,ak,iG];refine H.doFn J (Lr H lk J (m-i) m j Ω Ω) (fun a1 h=>by rw[h.1.length];exact J) (by simp[aC,aB,H.kdata J]) ?_;rintro a1 ⟨ba,bo⟩;have b3:a1.length=n:=by rw[ba.length];exact J
  simp;((with_reducible repeat' first|refine ai ?_|simp|((first|apply bU|apply bY|apply bX)<;>intro h<;>try simp at h))<;>(try exact cz));refine bK.whl ((i-j,j),a1) d7 ⟨b3,by simp;omega,ae,by simp;omega,GR,U.trans (ba.mono Ω Ω),fun k=>?_⟩ (H.weakC au b3 (by simp[aB];omega));rw[ar,bo];congr 1;simp only[ih,s8];repeat' split
  all_goals omega
 ·have ak:((m:Int)-i)=(m-i:Nat):=Ω
  have aD:((m:Int)+j-i)=(m+j-i:Nat):=Ω
  simp only[iM H,H.slc,H.ssc,ak,aD,iG];refine H.doFn J (Lr H lk J (m-i) (m+j-i) i Ω Ω) (fun a1 h=>by rw[h.1.length];exact J) (by simp[aC,aB,H.kdata J]) ?_;rintro a1 ⟨ba,bo⟩;have b3:a1.length=n:=by rw[ba.length];exact J
  simp;(with_reducible repeat' first|refine ai ?_|simp);refine bK.whl ((i,j-i),a1) d7 ⟨b3,hi,by simp;omega,gB,by simp;omega,U.trans (ba.mono Ω Ω),fun k=>?_⟩ (H.weakC au b3 (by simp[aB];omega));rw[ar,bo];congr 1;simp only[ih,s8];repeat' split
  all_goals omega
 ·have ak:((m:Int)-i)=(m-i:Nat):=Ω
  simp only[iM H,H.slc,H.ssc,ak,iG];refine H.doFn J (Lr H lk J (m-i) m i Ω Ω) (fun a1 h=>by rw[h.1.length];exact J) (by simp[aC,aB,H.kdata J]) ?_;rintro a1 ⟨ba,bo⟩;have b3:a1.length=n:=by rw[ba.length];exact J
  simp;refine H.ret au b3 (.inr rfl) ⟨rfl,a1,rfl,U.trans (ba.mono Ω Ω),fun k=>?_⟩;rw[ar,bo];congr 1;simp only[ih,s8];repeat' split
  all_goals omega
end
section
open Go Go.Pv
variable {α:Type} {S:List α->cL} {n g cg:Nat} {lc cc:List aj} {lt:α->α->Bool}
def uP(lt:α->α->Bool)(a b j:Nat)(l:List α):Prop:= ∀p q x y,a<=p->p<q->q<b->q≠j->l[p]? =some x->l[q]? =some y->lt y x=false
theorem uP.swap(bE:q2 lt){a b j:Nat}{l:List α}(h:uP lt a b (j+1) l)(US:a<=j)(GR:j+1<b)(ae:j+1<l.length){x y:α}(ab:l[j+1]? =some x)(aL:l[j]? =some y)(ib:lt x y=true):uP lt a b j (gZ l (j+1) j):=by
 intro p q u v bF kT bn atm hu aF;rw[Bx _ _ _ _ ae Ω]at hu aF;rw[if_neg (by omega:¬(q=j))]at aF;split at aF
 ·rename_i e;subst e;rw[aL]at aF;cases aF;split at hu
  ·omega
  ·split at hu
   ·rw[ab]at hu;cases hu;exact bE.asym _ _ ib
   ·exact h p j u y bF Ω Ω Ω hu aL
 ·split at hu
  ·rename_i e;subst e;rw[aL]at hu;cases hu;exact h j q y v US Ω bn Ω aL aF
  ·split at hu
   ·rename_i e;subst e;rw[ab]at hu;cases hu;exact h (p+1) q x v Ω Ω bn Ω ab aF
   ·exact h p q u v bF kT bn Ω hu aF
theorem uP.done(bE:q2 lt){a b j:Nat}{l:List α}(h:uP lt a b (j+1) l)(US:a<=j)(GR:j+1<b){x y:α}(ab:l[j+1]? =some x)(aL:l[j]? =some y)(ib:lt x y=false):fo lt a b l:=by
 intro p q u v bF kT bn hu aF;by_cases e:q=j+1
 ·subst e;rw[ab]at aF;cases aF;by_cases aD:p=j
  ·subst aD;rw[aL]at hu;cases hu;exact ib
  ·exact bE.ntr _ _ _ (h p j u y bF Ω Ω Ω hu aL) ib
 ·exact h p q u v bF kT bn e hu aF
theorem uP.first{a b:Nat}{l:List α}(h:uP lt a b a l):fo lt a b l:=fun p q u v bF kT bn hu aF=>h p q u v bF kT bn Ω hu aF
theorem fo.but{a b:Nat}{l:List α}(h:fo lt a b l):uP lt a (b+1) b l:=fun p q u v bF kT bn Mf hu aF=>h p q u v bF kT Ω hu aF
theorem Ur(H:fi S n g cg lc cc lt)(bE:q2 lt)(l:List α)(au:l.length=n)(a b:Nat)(nM:a<=b)(af:b<=n):
  bI al 260 [e9 g cg lc cc,.int .i64 a,.int .i64 b] (S l) fun r ah=>r= .tuple []/\∃a1,ah=S a1/\gF a b l a1/\fo lt a b a1:=by
 have ag:=H.ok l;have ax:∀l m,Pv.look (.loc m) (S l).b=none:=fun l=>(H.ok l).obj.1;have hu:∀l m cs,cA (.loc m) cs (S l).b=(S l).b++[(.loc m,cs)]:=fun l m cs=>kg (ax l m);have ay:∀m,aI.loc m∉c2 (S l):=j9 ag.obj;have hle:=H.le;refine bI.mk mixed Cl T3 XT Ψ ag.obj fun aM cR=>?_;unfold Km;simp[e9,hu,ay,cK,ax];(with_reducible repeat' first|refine ai ?_|simp[hu,ay,cK,ax]);refine pc (fun(x:Nat×List α)=>⟨[(1,.int .i64 a),(2,.int .i64 b),(3,.ptr (.loc 0) 0),(6,.int .i64 x.1)],(.loc 0,[.func g lc,.func cg cc])::(S x.2).b,(S x.2).e,1,c2 (S l)⟩) (fun x=>b+1-x.1)
  (fun x=>x.2.length=n/\a<x.1/\x.1<=b+1/\(x.1<=b\/x.1=a+1)/\gF a b l x.2/\fo lt a x.1 x.2) (a+1,l)
  (H.weak au au d6 (by simp[cK,ax]) aN aN) ⟨au,Ψ,by simp;omega,.inr rfl,.refl _,fun i j x y J U ar=>by simp at ar;omega⟩ ?_
 rintro⟨i,lk⟩ ⟨J,nN,A0,tR,U,ar⟩ _;simp only at J nN A0 tR U ar;simp;((with_reducible repeat' first|refine ai ?_|simp|((first|apply bU|apply bY|apply bX)<;>intro h<;>try simp at h))<;>(try exact cz))
 ·refine pc (fun(x:Nat×List α)=>⟨[(1,.int .i64 a),(2,.int .i64 b),(3,.ptr (.loc 0) 0),(6,.int .i64 i),(7,.int .i64 x.1)],(.loc 0,[.func g lc,.func cg cc])::(S x.2).b,(S x.2).e,1,c2 (S l)⟩) (fun x=>x.1)
   (fun x=>x.2.length=n/\a<=x.1/\x.1<=i/\gF a b l x.2/\uP lt a (i+1) x.1 x.2) (i,lk)
   (H.weakC au J d6) ⟨J,by simp;omega,Ψ,U,fo.but ar⟩ ?_
  rintro⟨j,D8⟩ ⟨aS,ajO,aj4,be,b8⟩ _;simp only at aS ajO aj4 be b8;simp[Pv.look];((with_reducible repeat' first|refine ai ?_|simp[Pv.look]|((first|apply bU|apply bY|apply bX)<;>intro h<;>try simp at h))<;>(try exact cz))
  ·obtain⟨dT,rfl⟩:∃dT,j=dT+1:=⟨j-1,Ω⟩;obtain⟨x,ab⟩:∃x,D8[dT+1]? =some x:=⟨_,b6 Ω⟩;obtain⟨y,aL⟩:∃y,D8[dT]? =some y:=⟨_,b6 Ω⟩;have ak:(((dT+1:Nat):Int)-1)=(dT:Nat):=Ω
   rw[H.slc,ak];refine H.doLess aS (dT+1) dT ab aL ?_;simp;cases ib:lt x y with
   |true=>
    simp[Pv.look];(with_reducible repeat' first|refine ai ?_|simp[Pv.look]);have bh:((dT:Int)+1)=(dT+1:Nat):=Ω
    rw[H.ssc,bh];refine H.doSwap aS (dT+1) dT Ω Ω Ω ?_;simp;(with_reducible repeat' first|refine ai ?_|simp);refine bK.whl (dT,gZ D8 (dT+1) dT) Ψ ⟨by simp[aS],by simp;omega,by simp;omega,.step be Ω Ω Ω Ω Ω Ω,b8.swap bE Ω Ω Ω ab aL ib⟩ (H.weakC au (by simp[aS]) d6)
   |false=>simp;((with_reducible repeat' first|refine ai ?_|simp|((first|apply bU|apply bY|apply bX)<;>intro h<;>try simp at h))<;>(try exact cz));refine bK.whl (i+1,D8) d7 ⟨aS,by simp;omega,by simp;omega,by simp;omega,be,b8.done bE Ω Ω ab aL ib⟩ (H.weakC au aS d6)
  ·obtain rfl:j=a:=Ω
   refine bK.whl (i+1,D8) d7 ⟨aS,by simp;omega,by simp;omega,by simp;omega,be,b8.first⟩ (H.weakC au aS d6)
 ·refine H.ret au J (.inr rfl) ⟨rfl,lk,rfl,U,fun p q x y bF kT bn=>ar p q x y bF kT Ω⟩
end
section
open Go Go.Pv
variable {α:Type} [Inhabited α] {S:List α->cL} {n g cg:Nat} {lc cc:List aj} {lt:α->α->Bool}
theorem Ac{d:Array α}{i:Nat}(h:i<d.size):d.toList[i]? =some d[i]!:=by simp[getElem!_pos,h]
theorem HG(d:Array α){i j:Nat}(hi:i<d.size)(ae:j<d.size):gZ d.toList i j=(Sort.swp d i j).toList:=by simp[gZ,Sort.swp,Ac hi,Ac ae]
section
variable (H:fi S n g cg lc cc lt)
include H
theorem fi.swapA{d:Array α}(J:d.size=n)(U:2<=n)(i j:Nat)(hi:i<n)(ae:j<n){t:List (Nat×aj)}{D:List aj}{o:List aI}{cd:Option Nat}{K:bu->Prop}
  (h:∀o,K ⟨e4 cd (.tuple []) t,(.loc 0,D)::(S (Sort.swp d i j).toList).b,(S (Sort.swp d i j).toList).e,1,o⟩):cV al cg (.int .i64 i:: .int .i64 j::cc) ⟨t,(.loc 0,D)::(S d.toList).b,(S d.toList).e,1,o⟩ cd K:=by
 refine H.doSwap (by simpa using J) i j hi ae U ?_;rw[HG d Ω Ω];exact h _
theorem fi.lessA{d:Array α}(J:d.size=n)(i j:Nat)(hi:i<n)(ae:j<n){t:List (Nat×aj)}{D:List aj}{o:List aI}{cd:Option Nat}{K:bu->Prop}
  (h:∀o,K ⟨e4 cd (.bool (lt d[i]! d[j]!)) t,(.loc 0,D)::(S d.toList).b,(S d.toList).e,1,o⟩):cV al g (.int .i64 i:: .int .i64 j::lc) ⟨t,(.loc 0,D)::(S d.toList).b,(S d.toList).e,1,o⟩ cd K:=
 H.doLess (by simpa using J) i j (Ac Ω) (Ac Ω) (h _)
theorem fi.fnA{d d2:Array α}(J:d.size=n)(U:d2.size=n){f:Nat}{args:List aj}{r:aj}(aK:bI al f args (S d.toList) fun eZ ah=>eZ=r/\ah=S d2.toList)(ad:aC (inObs (S d.toList)) args){t:List (Nat×aj)}{D:List aj}{o:List aI}{cd:Option Nat}{K:bu->Prop}
  (h:∀o,K ⟨e4 cd r t,(.loc 0,D)::(S d2.toList).b,(S d2.toList).e,1,o⟩):cV al f args ⟨t,(.loc 0,D)::(S d.toList).b,(S d.toList).e,1,o⟩ cd K:=
 H.call (by simpa using J) (R:=fun eZ a1=>eZ=r/\a1=d2.toList) (aK.mono fun r ah ⟨ak,aD⟩=>⟨_,aD,ak,rfl⟩) (fun r a1 ⟨_,e⟩=>by rw[e];simpa using U) ad (by rintro eZ a1 ⟨rfl,rfl⟩;exact h _)
end
section
variable (H:fi S n g cg lc cc lt)
include H
theorem fi.loopA{β:Type}{za:List α}(au:za.length=n){t:List (Nat×aj)}{b:List (aI×List aj)}{e:List (aI×gg)}{q:Nat}{o:List aI}(ck:List Nat)(cs:β->List (Nat×aj))(A:β->Array α)(nx:β->Nat)(fl:β->Prop)(a0:β)(bm:(A a0).size=n)(br:fl a0)
  (wN:Pv.look (.loc 0) b=some [.func g lc,.func cg cc]) (af:∀k cs,Pv.look k (S (A a0).toList).b=some cs->Pv.look k b=some cs) (he:∀k o,Pv.look k (S (A a0).toList).e=some o->Pv.look k e=some o)
  (aJ:∀x∈vC t ck++cs a0,Pv.get x.1 t=x.2/\aB (mI (S (A a0).toList) 1) x.2) {c:C} {Q:Exit->bu->Prop}
  (ag:∀a,fl a->c8 al (c2 (S za)) c (bK (c2 (S za)) (Cx (fun a=>⟨vC t ck++cs a,(.loc 0,[.func g lc,.func cg cc])::(S (A a).toList).b,(S (A a).toList).e,1,c2 (S za)⟩) nx fl) (nx a) Q) ⟨vC t ck++cs a,(.loc 0,[.func g lc,.func cg cc])::(S (A a).toList).b,(S (A a).toList).e,1,c2 (S za)⟩):
  c8 al (c2 (S za)) (.loop c) Q ⟨t,b,e,q,o⟩:=
 pc (fun a=>⟨vC t ck++cs a,(.loc 0,[.func g lc,.func cg cc])::(S (A a).toList).b,(S (A a).toList).e,1,c2 (S za)⟩) nx fl a0 (H.weak au (by simpa using bm) aJ wN af he) br fun a ae _=>ag a ae
theorem fi.callA0{lk:List α}(J:lk.length=n){f:Nat}{args:List aj}{R:aj->List α->Prop}(aK:bI al f args (S lk) fun r ah=> ∃a1,ah=S a1/\R r a1)(aU:∀r a1,R r a1->a1.length=n)(ad:aC (inObs (S lk)) args){t:List (Nat×aj)}{D:List aj}{o:List aI}{d:Option Nat}{K:bu->Prop}
  (h:∀r a1,R r a1->∀o,K ⟨e4 d r t,(.loc 0,D)::(S a1).b,(S a1).e,1,o⟩):cV al f args ⟨t,(S lk).b++[(.loc 0,D)],(S lk).e,1,o⟩ d K:=by
 refine cV.ob aK (H.ok lk) (fun k cs ab=>by rw[cK,ab]) (fun _ _ ab=>ab) ad ?_;rintro r ah ⟨a1,rfl,aO⟩;refine⟨H.same _ _ J (aU _ _ aO),?_⟩;have ak:cl (S lk).b ((S lk).b++[(.loc 0,D)])=[(.loc 0,D)]:=by rw[im,gW];simp[cl,H.loc]
 have aD:cl (S lk).e (S lk).e=[]:=gW _;have:=h _ _ aO (o++c2 (S a1));simp only[ak,aD];exact this
theorem fi.swapA0{d:Array α}(J:d.size=n)(U:2<=n)(i j:Nat)(hi:i<n)(ae:j<n){t:List (Nat×aj)}{D:List aj}{o:List aI}{cd:Option Nat}{K:bu->Prop}
  (h:∀o,K ⟨e4 cd (.tuple []) t,(.loc 0,D)::(S (Sort.swp d i j).toList).b,(S (Sort.swp d i j).toList).e,1,o⟩):cV al cg (.int .i64 i:: .int .i64 j::cc) ⟨t,(S d.toList).b++[(.loc 0,D)],(S d.toList).e,1,o⟩ cd K:=by
 refine H.callA0 (by simpa using J) (R:=fun r a1=>r= .tuple []/\a1=(Sort.swp d i j).toList) ((H.swap d.toList (by simpa using J) U i j hi ae).mono fun r ah ⟨ak,aD⟩=>⟨_,aD,ak,HG d Ω Ω⟩) (fun r a1 ⟨_,e⟩=>by rw[e];simp[Sort.swp,J]) (by simp[aB,aC,H.ksc d.toList (by simpa using J)]) ?_;rintro r a1 ⟨rfl,rfl⟩ o;exact h o
theorem fi.retA{l:List α}{d:Array α}(au:l.length=n)(J:d.size=n){Q:aj->cL->Prop}{e:Exit}(he:e= .ret\/e= .normal){t:List (Nat×aj)}{D:List aj}{q:Nat}{o:List aI}(bn:Q (.tuple []) (S d.toList)):cH [] (S l) Q e ⟨t,(.loc 0,D)::(S d.toList).b,(S d.toList).e,q,o⟩:=H.ret au (by simpa using J) he bn
theorem fi.retR{fx:List bO}{l:List α}{d:Array α}(au:l.length=n)(J:d.size=n){Q:aj->cL->Prop}{e:Exit}(he:e= .ret\/e= .normal){t:List (Nat×aj)}{D:List aj}{q:Nat}{o:List aI}(h:cN ⟨t,(.loc 0,D)::(S d.toList).b,(S d.toList).e,q,o⟩ fx fun r=>aB (inObs (S d.toList)) r/\Q r (S d.toList)):cH fx (S l) Q e ⟨t,(.loc 0,D)::(S d.toList).b,(S d.toList).e,q,o⟩:=by
 refine cH.at (S d.toList) he (H.ok _) (H.same _ _ au (by simpa using J)) (fun k cs ab=>?_) (fun _ _ ab=>ab) h;cases k with
 |loc m=>rw[H.loc m]at ab;cases ab
 |obj m=>simpa[Pv.look]using ab
end
theorem hl(d:Array α)(i j:Nat):(Sort.swp d i j).size=d.size:=by simp[Sort.swp]
end
end Go.Proofs.YtohaalphocaebaaGreat
