/- Contracts of pattern-defeating quicksort: the heap, the reversal, the insertion. -/
import Derived.Test.YtahlgcidhnjlbaaGreatProg
import Derived.Shelf.Sort.Plain
import Derived.Ground.NamesProg
import Derived.Sort.OwnSortedInts
import Derived.Lib.OwnBridge
import Derived.Sort.AssemblyPlain
import Derived.Sort.LotD5
import Derived.Test.YtahlgcidhnjlbaaGreatH2
set_option linter.all false
set_option maxHeartbeats 4000000
set_option maxRecDepth 4000
open Bool renaming and_eq_true->cP,eq_iff_iff->qP,false_eq_true->hN,or_eq_true->n2
open Go renaming Program->cG
open Go.IntKind renaming bits->pe,i64->vf,signed->tP,u64->ig,wrap->tQ
open Go.IntWalk renaming i64_in->pf
open Go.Op renaming bytesLess->iq
open Go.Proofs.Tryz renaming prog->au
open Go.Value renaming cells->pg
open List renaming all_eq_true->j7,cons_append->b3,drop->oK,drop_eq_getElem_cons->lA,getElem?_append_left->rE,getElem?_append_right->vg,getElem?_eq_getElem->cl,getElem?_eq_none->qQ,getElem?_eq_some_iff->fM,getElem_of_mem->pk,length_append->p6,length_cons->mI,length_drop->tS,map_cons->hc,mem_append->j2,mem_cons->gK,mem_filter->oL,mem_map->hz,mem_of_getElem?->fx,nil_append->ca,pairwise_cons->n3,pairwise_iff_getElem->qS,take_of_length_le->iE
open List.Nodup renaming length_le_of_subset->Qu
open List.Pairwise renaming filter->aco,imp_of_mem->asv,sublist->axf
open List.Perm renaming eq_of_pairwise->Qv,swap->axg
open List.cons renaming injEq->rD
open Nat renaming le_refl->dL,le_trans->kx
open Option renaming bind_eq_some_iff->n4,getD_none->oM,getD_some->mK,map_eq_some_iff->hl,map_some->pn
open Option.some renaming inj->e7,injEq->dS
open Prod.mk renaming injEq->jj
open _root_ renaming False->et,Option->bc,UInt8->cW,beq_iff_eq->ey,congrArg->ff,decide_eq_false->po,decide_eq_false_iff_not->iL,decide_eq_true->n5,decide_eq_true_eq->gu,eq_true->h0
namespace Go.Pv
section
open Go
structure bG where
 v:Int
 k:Int
 deriving DecidableEq,Inhabited
def bG.e(b:bG):af:= .agg [.int .i64 b.v,.int .i64 b.k]
@[simp]def bG.eta(b:bG):bG.mk b.v b.k=b:=rfl
@[simp]def QN(v k:Int):af.agg [.int .i64 v,.int .i64 k]=(bG.mk v k).e:=rfl
@[simp]def au0(S:aA->Prop)(b:bG):az S b.e=True:=by simp[bG.e,-QN]
@[simp]def awO(b:bG):b5 b.e=b.e:=by simp[bG.e,-QN]
def W8(S:aA->Prop):∀l:List bG,aH S (l.map bG.e)
 |[]=>by simp[aH]
 |x::xs=>by simp[aH,W8 S xs]
@[simp]def auJ(S:aA->Prop)(l:List bG):aH S (l.map bG.e)=True:=h0 (W8 S l)
@[simp]def PL:∀l:List bG,cf (l.map bG.e)=l.map bG.e
 |[]=>rfl
 |x::xs=>by simp[cf,PL xs]
@[simp]def awr(b:bG):eS b.e=true:=rfl
@[simp]def ata(b:bG):cells b.e=[.int .i64 b.v,.int .i64 b.k]:=rfl
@[simp]def aur(b:bG):qA 2 b.e:=⟨_,rfl,rfl⟩
@[simp]def atM(off:Nat)(a:Bool)(sz:Nat)(b:bG):vH off a sz b.e=if a then some (off+sz<=2,.agg (([.int .i64 b.v,.int .i64 b.k].drop off).take sz))else(([.int .i64 b.v,.int .i64 b.k]:List af)[off]?).map fun p=>(True,p):=rfl
@[simp]def atE(off:Nat)(a:Bool)(sz:Nat)(b:bG):sG off a sz (.eptr b.e)=if a then some (off+sz<=2,.eptr (.agg (([.int .i64 b.v,.int .i64 b.k].drop off).take sz)))else(([.int .i64 b.v,.int .i64 b.k]:List af)[off]?).map fun p=>(eS p=true/\cells p=[p],.eptr p):=rfl
structure bn where
 v:Int
 s:List cW
 deriving DecidableEq,Inhabited
def bn.e(b:bn):af:= .agg [.int .i64 b.v,.str b.s]
@[simp]def bn.eta(b:bn):bn.mk b.v b.s=b:=rfl
@[simp]def Ki(v:Int)(s:List cW):af.agg [.int .i64 v,.str s]=(bn.mk v s).e:=rfl
@[simp]def ak5(S:aA->Prop)(b:bn):az S b.e=True:=by simp[bn.e,-Ki]
@[simp]def awS(b:bn):b5 b.e=b.e:=by simp[bn.e,-Ki]
def Nr(S:aA->Prop):∀l:List bn,aH S (l.map bn.e)
 |[]=>by simp[aH]
 |x::xs=>by simp[aH,Nr S xs]
@[simp]def Xa(S:aA->Prop)(l:List bn):aH S (l.map bn.e)=True:=h0 (Nr S l)
@[simp]def PM:∀l:List bn,cf (l.map bn.e)=l.map bn.e
 |[]=>rfl
 |x::xs=>by simp[cf,PM xs]
@[simp]def awt(b:bn):eS b.e=true:=rfl
@[simp]def atc(b:bn):cells b.e=[.int .i64 b.v,.str b.s]:=rfl
@[simp]def aut(b:bn):qA 2 b.e:=⟨_,rfl,rfl⟩
@[simp]def atN(off:Nat)(a:Bool)(sz:Nat)(b:bn):vH off a sz b.e=if a then some (off+sz<=2,.agg (([.int .i64 b.v,.str b.s].drop off).take sz))else(([.int .i64 b.v,.str b.s]:List af)[off]?).map fun p=>(True,p):=rfl
@[simp]def atF(off:Nat)(a:Bool)(sz:Nat)(b:bn):sG off a sz (.eptr b.e)=if a then some (off+sz<=2,.eptr (.agg (([.int .i64 b.v,.str b.s].drop off).take sz)))else(([.int .i64 b.v,.str b.s]:List af)[off]?).map fun p=>(eS p=true/\cells p=[p],.eptr p):=rfl
def gb(x y:bn):Int:=if e6 x.v y.v=0 then lr x.s y.s else e6 x.v y.v
def mC:j8 gb:=by
 refine⟨fun x y=>?_,fun x y z J U=>?_,fun x y=>?_⟩
 ·unfold gb;have:=kV.neg x.v y.v;have:=ER.neg x.s y.s;by_cases e:e6 x.v y.v=0
  ·rw[if_pos e,if_pos Ω];omega
  ·rw[if_neg e,if_neg Ω];omega
 ·unfold gb at J U⊢;by_cases b:e6 x.v y.v=0
  ·rw[if_pos b]at J;rw[(kV.zero _ _).1 b];by_cases a:e6 y.v z.v=0
   ·rw[if_pos a]at U⊢;exact ER.tr _ _ _ J U
   ·rw[if_neg a]at U⊢;exact U
  ·rw[if_neg b]at J;have c:e6 x.v y.v<0:=Ω
   by_cases a:e6 y.v z.v=0
   ·rw[<-(kV.zero _ _).1 a,if_neg b];exact J
   ·rw[if_neg a]at U;have:=kV.ltr c U;rw[if_neg Ω];omega
 ·unfold gb;by_cases e:e6 x.v y.v=0
  ·rw[if_pos e,ER.zero];have:=(kV.zero _ _).1 e;cases x;cases y;simp_all
  ·rw[if_neg e];exact⟨fun h=>absurd h e,fun h=>by rw[h]at e;exact absurd (kV.refl _) e⟩
def uX(x y:bn):Bool:=decide (x.v<y.v)||(x.v==y.v&&iq x.s y.s)
def adl(a:List cW):iq a a=false:=by
 cases h:iq a a with
 |false=>rfl
 |true=>rw[Kq a a h]at h;cases h
def Ya(x y:bn):uX x y=iJ gb x y:=by
 unfold uX iJ gb;rw[qP];simp only[n2,gu,cP,ey];by_cases e:x.v=y.v
 ·have:e6 x.v y.v=0:=(kV.zero _ _).2 e;rw[if_pos this];simp only[e,Int.lt_irrefl,false_or,true_and,lr];by_cases a:x.s=y.s
  ·rw[if_pos a,a,adl];simp
  ·rw[if_neg a];split<;>simp_all
 ·have b:¬e6 x.v y.v=0:=fun h=>e ((kV.zero _ _).1 h);rw[if_neg b];simp only[e,false_and,or_false];unfold e6;(repeat' split)<;>omega
def iZ{α:Type}(p:α->Prop)(r:α->α->Prop)(l:List α)(i:Nat):Prop:= ∀b,l[i]? =some b->p b/\∀c,0<i->l[i-1]? =some c->r c b
def QJ{α:Type}{p:α->Prop}{r:α->α->Prop}(n:∀a b c,r a b->r b c->r a c){l:List α}:(∀i,i<l.length->iZ p r l i)↔(∀b∈l,p b)/\l.Pairwise r:=by
 constructor
 ·intro h;refine⟨fun b f=>?_,?_⟩
  ·obtain⟨i,hi,e⟩:=pk f;exact(h i hi b (by rw[cl hi,e])).1
  ·rw[qS];have g:∀i (h:i+1<l.length),r l[i] l[i+1]:=fun i hi=>(h (i+1) hi l[i+1] (by simp[cl hi])).2 l[i] Ω (by simp[cl (show i<l.length by omega)]);have:∀(d i:Nat) (h:i+d+1<l.length),r l[i] l[i+d+1]:=by
    intro d;induction d with
    |zero=>intro i h;exact g i h
    |succ d k=>intro i h;exact n _ _ _ (k i Ω) (g (i+d+1) Ω)
   intro i j hi t q;have:=this (j-i-1) i Ω;simpa[show i+(j-i-1)+1=j from by omega]using this
 ·rintro⟨J,U⟩ i hi b f;refine⟨J b (fx f),fun c s aw=>?_⟩;obtain⟨g1,m⟩:=fM.1 aw;obtain⟨g2,o⟩:=fM.1 f;have:=qS.1 U (i-1) i g1 g2 Ω;rw[m,o]at this;exact this
def kQ{α:Type}(c:α->α->Int)(x:α):List α->List α
 |[]=>[x]
 |y::l=>if c y x<0 then y::kQ c x l else if c y x=0 then y::l else x::y::l
section
variable {α:Type} {c:α->α->Int}
def If(aw:j8 c){x z:α}:∀{l:List α},z∈kQ c x l↔z=x\/z∈l
 |[]=>by simp[kQ]
 |y::l=>by
  simp only[kQ];split
  ·simp only[gK,If aw (l:=l)];constructor
   ·rintro(h|h|h)
    ·exact .inr (.inl h)
    ·exact .inl h
    ·exact .inr (.inr h)
   ·rintro(h|h|h)
    ·exact .inr (.inl h)
    ·exact .inl h
    ·exact .inr (.inr h)
  ·split
   ·rename_i h;obtain rfl:=(aw.zero _ _).1 h;simp
   ·simp
def M2(aw:j8 c){x:α}:∀{l:List α},iM c l->iM c (kQ c x l)
 |[],_=>by simp[kQ,iM]
 |y::l,h=>by
  obtain⟨J,U⟩:=n3.1 h;simp only[kQ];split
  ·rename_i d;refine n3.2 ⟨fun z a=>?_,M2 aw U⟩;rcases(If aw).1 a with rfl|a
   ·exact d
   ·exact J z a
  ·split
   ·exact h
   ·rename_i d e;have b:c x y<0:=by have:=aw.neg x y;omega
    refine n3.2 ⟨fun z a=>?_,h⟩;rcases gK.1 a with rfl|a
    ·exact b
    ·exact aw.ltr b (by have:=J z a;omega)
def M4(x:α):∀l:List α,(kQ c x l).length<=l.length+1
 |[]=>by simp[kQ]
 |y::l=>by
  have:=M4 x l;simp only[kQ];split
  ·simp;omega
  ·split<;>simp
def M3(aw:j8 c)(x:α):∀(l:List α) (k:Nat),(∀i y,i<k->l[i]? =some y->c y x<0)->(∀y,l[k]? =some y->0<=c y x)->k<=l.length->kQ c x l=if(match l[k]? with|some y=>decide (c y x=0)|none=>false)=true then l else l.take k++x::l.drop k
 |[],k,_,_,a=>by simp at a;subst a;simp[kQ]
 |y::l,0,_,U,_=>by
  have:=U y rfl;by_cases e:c y x=0
  ·simp[kQ,e]
  ·have g:¬c y x<0:=Ω
   simp[kQ,g,e]
 |y::l,k+1,J,U,a=>by
  have f:=J 0 y Ω rfl;simp only[kQ,if_pos f,List.take_succ_cons,List.drop_succ_cons,b3,List.getElem?_cons_succ];rw[M3 aw x l k (fun i d hi b=>J (i+1) d Ω (by simpa using b)) (fun d b=>U d (by simpa using b)) (by simpa using a)];cases l[k]? with
  |none=>rfl
  |some z=>simp only[];split<;>rfl
end
structure ht (l:List bG):Prop where
 at':∀x∈l,(0<=x.v/\x.v<=100000)/\(x.k=2\/x.k=3)
 asc:l.Pairwise fun x y=>x.v<y.v
def nk(l:List bG)(v:Int):bc Int:=(l.find? fun x=>x.v==v).map (·.k)
def ni(x:bG):List bG->List bG
 |[]=>[x]
 |y::l=>if y.v<x.v then y::ni x l else x::y::l
def Ig{x z:bG}:∀{l:List bG},z∈ni x l↔z=x\/z∈l
 |[]=>by simp[ni]
 |y::l=>by
  simp only[ni];split
  ·simp only[gK,Ig (l:=l)];constructor
   ·rintro(h|h|h)
    ·exact .inr (.inl h)
    ·exact .inl h
    ·exact .inr (.inr h)
   ·rintro(h|h|h)
    ·exact .inr (.inl h)
    ·exact .inl h
    ·exact .inr (.inr h)
  ·simp
def Wx(x:bG):∀l:List bG,(ni x l).Perm (x::l)
 |[]=>.refl _
 |y::l=>by
  simp only[ni];split
  ·exact((Wx x l).cons y).trans (axg _ _ _)
  ·exact .refl _
def M5{x:bG}:∀{l:List bG},l.Pairwise (fun x y=>x.v<y.v)->(∀y∈l,y.v≠x.v)->(ni x l).Pairwise fun x y=>x.v<y.v
 |[],_,_=>by simp[ni]
 |y::l,h,b=>by
  obtain⟨J,U⟩:=n3.1 h;have d:=b y Ψ;simp only[ni];split
  ·rename_i c;refine n3.2 ⟨fun z a=>?_,M5 U fun z a=>b z (by simp[a])⟩;rcases Ig.1 a with rfl|a
   ·exact c
   ·exact J z a
  ·refine n3.2 ⟨fun z a=>?_,h⟩;rcases gK.1 a with rfl|a
   ·omega
   ·have:=J z a;omega
def Wv(x:bG):∀(l:List bG) (k:Nat),(∀i y,i<k->l[i]? =some y->y.v<x.v)->(∀y,l[k]? =some y->¬y.v<x.v)->k<=l.length->ni x l=l.take k++x::l.drop k
 |[],k,_,_,a=>by simp at a;subst a;rfl
 |y::l,0,_,U,_=>by have:=U y rfl;simp[ni,this]
 |y::l,k+1,J,U,a=>by have c:=J 0 y Ω rfl;simp only[ni,if_pos c,List.take_succ_cons,List.drop_succ_cons,b3];rw[Wv x l k (fun i d hi b=>J (i+1) d Ω (by simpa using b)) (fun d b=>U d (by simpa using b)) (by simpa using a)]
def akX{l a:List bG}(b:a.Perm l)(d:l.Pairwise fun x y=>x.v<y.v)(g:a.Pairwise fun x y=>decide (y.v<x.v)=false):a=l:=by
 refine Qv (le:=fun x y:bG=>x.v<=y.v) (fun x y k m J U=>?_) (g.imp Ψ) (d.imp Ω) b;have f:x∈l:=b.mem_iff.1 k;have e:y∈l:=m;obtain⟨i,hi,rfl⟩:=pk f;obtain⟨j,c,rfl⟩:=pk e;have:=qS.1 d;rcases Nat.lt_trichotomy i j with h|h|h
 ·have:=this i j hi c h;omega
 ·subst h;rfl
 ·have:=this j i c hi h;omega
def El{l:List bG}{v:Int}:nk l v=none↔∀x∈l,x.v≠v:=by simp[nk]
def W0{l:List bG}{v k:Int}(h:nk l v=some k):(⟨v,k⟩:bG)∈l:=by unfold nk at h;rw[hl]at h;obtain⟨x,J,rfl⟩:=h;have U:=List.find?_some J;simp at U;subst U;exact List.mem_of_find?_eq_some J
def Nj{l:List bG}(b:l.Pairwise fun x y=>x.v<y.v){x:bG}(h:x∈l):nk l x.v=some x.k:=by
 induction l with
 |nil=>simp at h
 |cons y l a=>
  obtain⟨J,U⟩:=n3.1 b;rcases gK.1 h with rfl|h
  ·simp[nk]
  ·have:=J x h;have e:=a U h;unfold nk at e⊢;rw[List.find?_cons_of_neg d6];exact e
def kY(l:List bG)(t:T)(k:Int):bc (List bG):=match t with
 | .var n=>match nk l n with
  |some bt=>if bt=k then some l else none
  |none=>some (ni ⟨n,k⟩ l)
 |t=>if t.kind=k then some l else none
def Kc{l b:List bG}{t:T}{k:Int}(h:ht l)(e:t.ok=true)(d:k=2\/k=3)(he:kY l t k=some b):ht b:=by
 unfold kY at he;split at he
 ·rename_i n;split at he
  ·split at he
   ·cases he;exact h
   ·cases he
  ·rename_i c;cases he;rw[El]at c;refine⟨fun x a=>?_,M5 h.asc c⟩;rcases Ig.1 a with rfl|a
   ·exact⟨by simpa[T.ok]using e,d⟩
   ·exact h.at' x a
 ·split at he
  ·cases he;exact h
  ·cases he
def ti{l:List bG}(h:ht l):l.length<=100001:=by
 have J:(l.map (·.v)).Nodup:=by rw[List.nodup_iff_pairwise_ne,List.pairwise_map];exact h.asc.imp fun h e=>Ω
 have:=WY J fun v b=>by obtain⟨x,a,rfl⟩:=hz.1 b;exact(h.at' x a).1
 simpa using this
def gO(s:List Bd):List bG->List bG->bc (List bG)
 |[],acc=>some acc
 |x::r,acc=>match kY acc (cO s x.v) x.k with
  |some a=>gO s r a
  |none=>none
structure jK (l:List bn):Prop where
 at':∀x∈l,(0<=x.v/\x.v<=100000)/\kn x.s=true
 asc:iM gb l
def _root_.Go.Pv.T.has(s:List cW):T->Bool
 | .sym n=>n==s
 | .pair a b=>a.has s||b.has s
 |_=>false
def mP(l:List bn)(t:T)(s:List cW):bc (List bn):=if t.has s then none else some (asc gb (l++(oI t).map fun v=>⟨v,s⟩))
def FF{t:T}{v:Int}:v∈oI t↔t.occ v=true:=by
 refine⟨fun h=>?_,zz⟩;induction t with
 |var n=>simp[oI]at h;simp[T.occ,h]
 |pair a b d c=>simp only[oI,j2]at h;simp only[T.occ,n2];exact h.imp d c
 |_=>simp[oI]at h
def Ew{l a:List bn}{t:T}{s:List cW}(h:mP l t s=some a)(x:bn):x∈a↔x∈l\/(x.s=s/\t.occ x.v=true):=by
 unfold mP at h;split at h
 ·cases h
 ·cases h;rw[XK,j2,hz];refine or_congr_right ?_;constructor
  ·rintro⟨v,b,rfl⟩;exact⟨rfl,FF.1 b⟩
  ·rintro⟨J,U⟩;exact⟨x.v,FF.2 U,by rw[<-J]⟩
def Kd{l a:List bn}{t:T}{s:List cW}(b:t.has s=false)(c:iM gb a)(hm:∀x,x∈a↔x∈l\/(x.s=s/\t.occ x.v=true)):mP l t s=some a:=by
 have h:mP l t s=some (asc gb (l++(oI t).map fun v=>⟨v,s⟩)):=by unfold mP;rw[b];rfl
 rw[h];congr 1;exact(Kj mC _).ext mC c fun x=>by rw[hm,<-Ew h]
def Ke{l a:List bn}{t:T}{s:List cW}(h:jK l)(d:t.ok=true)(b:kn s=true)(he:mP l t s=some a):jK a:=by
 refine⟨fun x c=>?_,?_⟩
 ·rcases(Ew he x).1 c with J|⟨J,U⟩
  ·exact h.at' x J
  ·exact⟨yk d U,by rw[J];exact b⟩
 ·unfold mP at he;split at he
  ·cases he
  ·cases he;exact Kj mC _
def gS(s:List Bd):List bn->List bn->bc (List bn)
 |[],acc=>some acc
 |x::r,acc=>match mP acc (cO s x.v) x.s with
  |some a=>gS s r a
  |none=>none
end
end Go.Pv
namespace Go.Proofs.YtahlgcidhnjlbaaGreat
section
open Go Go.Pv
def Ru:C:=(aa [dc 1 0,bA 2 false] (aa [bq 3 4 1,eg 4 131 [.t 3,(gP 5000)],aV 5 .gtr 4 0,I 2 5] .ret))
def RT:C:=(aa [dr (.box 2 (some 201) (.t 0)),dc 3 1,dR 4 eE,bA 5 false] (aa [bq 6 4 3,b9 7 (.mkf 138 [.t 2]),cj 8 137 6 7,dm 9 0 8,dm 10 1 8,bW 4 4 9,I 5 10] .ret))
def SZ:C:=(aa [dR 2 eE] (aa [I 3 0,j6 4 eE [(0,1,(gP 1)),(1,1,(.t 3))],bW 4 2 4] .ret))
def Az:C:=(aa [dc 1 0,dR 2 eE] (aa [aF 6 0 1 1,ay 7 1 6,aF 8 1 1 1,ay 9 1 8,aF 10 2 1 1,ay 11 1 10,j6 12 eE [(0,1,(.t 7)),(1,1,(.t 9)),(2,1,(.t 11))],dR 3 eE,bW 4 3 12] (.seq (aa [aF 13 3 1 1,ay 14 1 13,cw 15 14,bQ 16 0] (gq 17 16 15 (.seq (.block 1 (aa [ck 18 4 14 16,bq 19 4 18,dR 5 eE,bW 4 5 19] (.drawn true 29 [aF 20 3 1 3,ay 21 1 20,bq 22 4 5,da 23 130 22,fp 24 4 30 [.t 23],im 25 4 30 21 24,aF 26 3 1 3,bW 1 26 25]))) (.region [aV 27 .add 16 1,I 16 27])))) (aa [bq 28 4 3,bW 4 2 28] .ret))))
def RP:C:=(aa [dc 2 0,bQ 4 0] (.seq (aa [I 7 1,aV 8 .lss 7 1] (aZ 8 (aa [bQ 4 (-1)] .ret) .skip)) (.seq (aa [aF 9 0 1 2,ay 10 1 9,aV 11 .neq 10 4] (aZ 11 (.seq (aa [aF 12 3 1 2,ay 13 1 12,cw 14 13,aV 15 .neq 14 0] (aZ 15 (aa [bQ 4 (-1)] .ret) .skip)) (.seq (aa [aF 16 0 1 2,ay 17 1 16] (.block 0 (aa [aV 19 .eql 17 0,I 18 19] (aZ 18 (aa [aF 20 1 1 2,ay 21 1 20,aV 22 .neq 21 0,I 23 22,ax 23 false (aF 24 2 1 2),ax 23 false (ay 25 1 24),ym 23 false 26 (.bin .neq false (.t 25) (.c (.str []))),dq 27 23 26] (aZ 27 (aa [bQ 4 (-1)] .ret) .skip)) (aa [aV 29 .eql 17 1,I 28 29] (aZ 28 (aa [aF 30 1 1 2,ay 31 1 30,aV 32 .lss 31 0,I 33 32,ax 33 false (aF 34 1 1 2),ax 33 false (ay 35 1 34),ax 33 false (aV 36 .gtr 35 100000),dq 37 33 36,I 38 37,ax 38 false (aF 39 2 1 2),ax 38 false (ay 40 1 39),ym 38 false 41 (.bin .neq false (.t 40) (.c (.str []))),dq 42 38 41] (aZ 42 (aa [bQ 4 (-1)] .ret) .skip)) (aa [aV 44 .eql 17 2,I 43 44] (aZ 43 (aa [aF 45 1 1 2,ay 46 1 45,aV 47 .neq 46 0,I 48 47,ax 48 false (aF 49 2 1 2),ax 48 false (ay 50 1 49),ax 48 false (da 51 160 50),ax 48 false (cR 52 51),dq 53 48 52] (aZ 53 (aa [bQ 4 (-1)] .ret) .skip)) (aa [aV 55 .eql 17 3,I 54 55] (aZ 54 (aa [aF 56 1 1 2,ay 57 1 56,aV 58 .lss 57 (-1000000000),I 59 58,ax 59 false (aF 60 1 1 2),ax 59 false (ay 61 1 60),ax 59 false (aV 62 .gtr 61 1000000000),dq 63 59 62,I 64 63,ax 64 false (aF 65 2 1 2),ax 64 false (ay 66 1 65),ym 64 false 67 (.bin .neq false (.t 66) (.c (.str []))),dq 68 64 67] (aZ 68 (aa [bQ 4 (-1)] .ret) .skip)) (aa [bQ 4 (-1)] .ret))))))))))) (aa [bQ 4 1] .ret))) .skip)) (.seq (aa [aF 69 1 1 2,ay 70 1 69,aV 71 .neq 70 0,I 72 71,ax 72 false (aF 73 2 1 2),ax 72 false (ay 74 1 73),ym 72 false 75 (.bin .neq false (.t 74) (.c (.str []))),dq 76 72 75,I 77 76,ax 77 false (aF 78 3 1 2),ax 77 false (ay 79 1 78),ax 77 false (cw 80 79),ax 77 false (aV 81 .neq 80 2),dq 82 77 81] (aZ 82 (aa [bQ 4 (-1)] .ret) .skip)) (aa [aF 83 3 1 2,ay 84 1 83,ku 85 4 84 0,bq 86 4 85,I 87 1,aV 88 .sub 87 1,cj 89 131 86 88,I 5 89] (.seq (aa [I 90 5,aV 91 .lss 90 0] (aZ 91 (aa [bQ 4 (-1)] .ret) .skip)) (aa [aF 92 3 1 2,ay 93 1 92,ku 94 4 93 1,bq 95 4 94,I 96 1,aV 97 .sub 96 1,I 98 5,br 99 .sub 97 98,cj 100 131 95 99,I 6 100] (.seq (aa [I 101 6,aV 102 .lss 101 0] (aZ 102 (aa [bQ 4 (-1)] .ret) .skip)) (aa [I 103 5,b9 104 (.bin .add false (gP 1) (.t 103)),I 105 6,br 106 .add 104 105,I 4 106] .ret)))))))))
def Gg:C:=(aa [dc 2 0,dc 3 1,bQ 4 0] (.seq (aa [aF 6 0 1 2,ay 7 1 6,aF 8 0 1 3,ay 9 1 8,br 10 .neq 7 9] (aZ 10 (aa [aF 11 0 1 2,ay 12 1 11,aF 13 0 1 3,ay 14 1 13,cj 15 190 12 14,I 4 15] .ret) .skip)) (.seq (aa [aF 16 1 1 2,ay 17 1 16,aF 18 1 1 3,ay 19 1 18,br 20 .neq 17 19] (aZ 20 (aa [aF 21 1 1 2,ay 22 1 21,aF 23 1 1 3,ay 24 1 23,cj 25 190 22 24,I 4 25] .ret) .skip)) (.seq (aa [aF 26 2 1 2,ay 27 1 26,aF 28 2 1 3,ay 29 1 28,br 30 .neq 27 29] (aZ 30 (.seq (aa [aF 31 2 1 2,ay 32 1 31,aF 33 2 1 3,ay 34 1 33,br 35 .lss 32 34] (aZ 35 (aa [bQ 4 (-1)] .ret) .skip)) (aa [bQ 4 1] .ret)) .skip)) (.seq (aa [aF 36 0 1 2,ay 37 1 36,aV 38 .neq 37 4] (aZ 38 (aa [bQ 4 0] .ret) .skip)) (.seq (.seq (.drawn true 60 [aF 39 3 1 2,ay 40 1 39,ku 41 4 40 0,bq 42 4 41,aF 43 3 1 3,ay 44 1 43,ku 45 4 44 0,bq 46 4 45,cj 47 133 42 46,I 5 47]) (aa [I 48 5,aV 49 .neq 48 0] (aZ 49 (aa [I 50 5,I 4 50] .ret) .skip))) (.seq (.drawn true 60 [aF 51 3 1 2,ay 52 1 51,ku 53 4 52 1,bq 54 4 53,aF 55 3 1 3,ay 56 1 55,ku 57 4 56 1,bq 58 4 57,cj 59 133 54 58,I 4 59]) .ret)))))))
def yD:C:=(aa [dc 2 0] (.seq (aa [aF 4 0 1 2,ay 5 1 4,aV 6 .eql 5 1] (aZ 6 (.region [I 7 1,aF 8 1 1 2,ay 9 1 8,hE 10 7 [.t 9]]) .skip)) (aa [aF 11 0 1 2,ay 12 1 11,aV 13 .eql 12 4] (aZ 13 (aa [aF 14 3 1 2,ay 15 1 14,ku 16 4 15 0,bq 17 4 16,I 18 1,cj 19 134 17 18] (.region [aF 20 3 1 2,ay 21 1 20,ku 22 4 21 1,bq 23 4 22,I 24 1,cj 25 134 23 24])) .skip))))
def RY:C:=(aa [fw 2 1] (aa [dr (.bslm 5 (some 306) 1 3 []),I 3 5] (.seq (aa [I 6 0,dr (.range 7 none (.t 6))] (.block 0 (.loop (aa [⟨none,.next 8 (.t 7)⟩,dm 9 0 8] (.seq (aZ 9 .skip (.exit 0)) (.block 1 (aa [b9 10 (.ment (.t 7)),dm 11 0 10,I 4 11] (.region [I 12 3,I 13 4,fp 14 1 3 [.t 13],dr (.appm 15 none 1 3 (.t 12) (.t 14)),I 3 15])))))))) (aa [I 16 3,da 17 191 16] (.seq (.pub 3 (.region [I 18 3,I 2 18])) .ret)))))
def RV:C:=(aa [dc 2 0,dr (.box 3 (some 202) (.t 1)),dR 4 eE,bA 5 false] (aa [bq 7 4 2,b9 8 (.mkf 193 [.t 3]),cj 9 192 7 8,I 6 9] (.seq (aa [I 10 6,aV 11 .gtr 10 5000] (aZ 11 (aa [j6 12 eE [],bW 4 4 12,bA 5 false] .ret) .skip)) (aa [bq 13 4 2,ay 14 1 3,cj 15 194 13 14,bW 4 4 15,bA 5 true] .ret))))
def RU:C:=(aa [dR 3 eE,bA 4 false] (.seq (aa [ay 6 1 1,I 7 0,cj 8 139 6 7,I 5 8] (aa [I 9 5,aV 10 .geq 9 0] (aZ 10 (aa [ay 11 1 1,I 12 5,ck 13 5 11 12,hk 14 1 4 13,bq 15 4 14,bW 4 3 15,bA 4 true] .ret) .skip))) (aa [j6 16 eE [],bW 4 3 16,bA 4 false] .ret)))
def RL:C:=(aa [dr (.box 2 (some 101) (.t 0)),dr (.box 3 (some 102) (.t 1)),bQ 4 0] (aa [ay 6 1 2,cw 7 6,b9 8 (.mkf 196 [.t 2,.t 3]),cj 9 195 7 8,I 5 9] (.seq (.seq (.drawn true 24 [I 10 5,ay 11 1 2,cw 12 11,br 13 .lss 10 12,I 14 13,ax 14 true (ay 15 1 2),cd 14 true 16 5,ax 14 true (ck 17 5 15 16),ax 14 true (aF 18 0 1 17),ax 14 true (ay 19 1 18),ax 14 true (ay 20 1 3),ax 14 true (br 21 .eql 19 20),ev 22 14 21]) (aZ 22 (aa [I 23 5,I 4 23] .ret) .skip)) (aa [bQ 4 (-1)] .ret))))
def RJ:C:=(aa [dc 2 0,dc 3 1,bA 4 false] (aa [bq 5 4 2,bq 6 4 3,cj 7 133 5 6,aV 8 .eql 7 0,I 4 8] .ret))
def C3:C:=(aa [dc 1 0,dR 2 eE] (.seq (aa [aF 3 0 1 1,ay 4 1 3,aV 5 .neq 4 4] (aZ 5 (aa [aF 6 0 1 1,ay 7 1 6,aF 8 1 1 1,ay 9 1 8,aF 10 2 1 1,ay 11 1 10,j6 12 eE [(0,1,(.t 7)),(1,1,(.t 9)),(2,1,(.t 11))],bW 4 2 12] .ret) .skip)) (.seq (.drawn true 25 [aF 13 3 1 1,ay 14 1 13,ku 15 4 14 0,bq 16 4 15,da 17 143 16,aF 18 3 1 1,ay 19 1 18,ku 20 4 19 1,bq 21 4 20,da 22 143 21,fp 23 4 30 [.t 17,.t 22],j6 24 eE [(0,1,(gP 4)),(3,1,(.t 23))],bW 4 2 24]) .ret)))
def Rv:C:=(aa [bA 2 false] (.seq (aa [I 5 0,cw 6 5,aV 7 .gtr 6 400] (aZ 7 (aa [bA 2 false] .ret) .skip)) (.seq (aa [I 8 0,cw 9 8,bQ 10 0] (gq 11 10 9 (.seq (.block 1 (aa [I 12 10,ck 13 5 8 10,bq 14 5 13,dR 4 kp,I 3 12,bW 5 4 14] (.seq (.drawn true 45 [aF 15 0 1 4,ay 16 1 15,aV 17 .lss 16 0,I 18 17,ax 18 false (aF 19 0 1 4),ax 18 false (ay 20 1 19),ax 18 false (aV 21 .gtr 20 100000),dq 22 18 21,I 23 22,cd 23 false 24 3,ax 23 false (aV 25 .gtr 24 0),cd 23 false 26 25,cd 26 true 27 0,cd 26 true 28 3,ax 26 true (aV 29 .sub 28 1),ax 26 true (ck 30 5 27 29),ax 26 true (aF 31 0 1 30),ax 26 true (ay 32 1 31),ax 26 true (aF 33 0 1 4),ax 26 true (ay 34 1 33),ax 26 true (br 35 .geq 32 34),ax 23 false (ev 36 26 35),dq 37 23 36,I 38 37,ax 38 false (hk 39 1 4 4),ax 38 false (bq 40 4 39),ax 38 false (da 41 64 40),ax 38 false (cR 42 41),dq 43 38 42]) (aZ 43 (aa [bA 2 false] .ret) .skip)))) (.region [aV 44 .add 10 1,I 10 44])))) (aa [bA 2 true] .ret))))
def Rl:C:=(aa [bA 2 false] (.seq (aa [I 4 0,b9 5 (.slen (.t 4)),aV 6 .lss 5 1,I 7 6,cd 7 false 8 0,ax 7 false (b9 9 (.slen (.t 8))),ax 7 false (aV 10 .gtr 9 12),dq 11 7 10,I 12 11,cd 12 false 13 0,ax 12 false (b9 14 (.sidx (.t 13) (gP 0))),ax 12 false (b9 15 (.bin .lss false (.t 14) (.c (.int .u8 97)))),dq 16 12 15,I 17 16,cd 17 false 18 0,ax 17 false (b9 19 (.sidx (.t 18) (gP 0))),ax 17 false (b9 20 (.bin .gtr false (.t 19) (.c (.int .u8 122)))),dq 21 17 20] (aZ 21 (aa [bA 2 false] .ret) .skip)) (.seq (aa [bQ 3 1] (.block 0 (.loop (.seq (aa [I 22 3,I 23 0,b9 24 (.slen (.t 23)),br 25 .lss 22 24] (aZ 25 .skip (.exit 0))) (.seq (.block 1 (aa [I 28 0,I 29 3,b9 30 (.sidx (.t 28) (.t 29)),b9 31 (.bin .geq false (.t 30) (.c (.int .u8 97))),I 32 31,cd 32 true 33 0,cd 32 true 34 3,ax 32 true (b9 35 (.sidx (.t 33) (.t 34))),ax 32 true (b9 36 (.bin .leq false (.t 35) (.c (.int .u8 122)))),ev 37 32 36,I 38 37,cd 38 false 39 0,cd 38 false 40 3,ax 38 false (b9 41 (.sidx (.t 39) (.t 40))),ax 38 false (b9 42 (.bin .geq false (.t 41) (.c (.int .u8 48)))),cd 38 false 43 42,cd 43 true 44 0,cd 43 true 45 3,ax 43 true (b9 46 (.sidx (.t 44) (.t 45))),ax 43 true (b9 47 (.bin .leq false (.t 46) (.c (.int .u8 57)))),ax 38 false (ev 48 43 47),dq 49 38 48,I 50 49,cd 50 false 51 0,cd 50 false 52 3,ax 50 false (b9 53 (.sidx (.t 51) (.t 52))),ax 50 false (b9 54 (.bin .eql false (.t 53) (.c (.int .u8 45)))),dq 55 50 54,cR 56 55] (aZ 56 (aa [bA 2 false] .ret) .skip))) (.region [I 26 3,aV 27 .add 26 1,I 3 27])))))) (aa [bA 2 true] .ret))))
def RZ:C:=(aa [bA 2 false] (.seq (aa [I 5 0,cw 6 5,bQ 7 0] (gq 8 7 6 (.seq (.block 1 (aa [ck 9 4 5 7,bq 10 4 9,dR 4 eE,bW 4 4 10] (aa [bq 11 4 4,da 12 64 11,cR 13 12] (aZ 13 (aa [bA 2 false] .ret) .skip)))) (.region [aV 14 .add 7 1,I 7 14])))) (aa [bA 2 true] .ret)))
def SV:C:=(aa [dc 2 0,dc 3 1,dR 4 eE] (aa [bq 5 4 2,bq 6 4 3,fp 7 4 30 [.t 5,.t 6],j6 8 eE [(0,1,(gP 4)),(3,1,(.t 7))],bW 4 4 8] .ret))
def RR:C:=(aa [bQ 4 0] (.seq (aa [I 5 0,I 6 1,br 7 .lss 5 6] (aZ 7 (aa [bQ 4 (-1)] .ret) .skip)) (.seq (aa [I 8 0,I 9 1,br 10 .gtr 8 9] (aZ 10 (aa [bQ 4 1] .ret) .skip)) (aa [bQ 4 0] .ret))))
def wU:C:=(aa [dc 2 0,bQ 4 0] (.seq (aa [aF 6 0 1 2,ay 7 1 6] (.block 0 (aa [aV 9 .eql 7 1,I 8 9] (aZ 8 (aa [I 10 1,aF 11 1 1 2,ay 12 1 11,hE 13 10 [.t 12],b9 14 (.min2 (.t 13) (gP 5001)),I 4 14] .ret) (aa [aV 16 .eql 7 4,I 15 16] (aZ 15 (aa [aF 17 3 1 2,ay 18 1 17,ku 19 4 18 0,bq 20 4 19,I 21 1,cj 22 192 20 21,I 5 22] (.seq (aa [I 23 5,aV 24 .gtr 23 5000] (aZ 24 (aa [I 25 5,I 4 25] .ret) .skip)) (aa [I 26 5,b9 27 (.bin .add false (gP 1) (.t 26)),aF 28 3 1 2,ay 29 1 28,ku 30 4 29 1,bq 31 4 30,I 32 1,cj 33 192 31 32,br 34 .add 27 33,b9 35 (.min2 (.t 34) (gP 5001)),I 4 35] .ret))) .skip)))))) (aa [bQ 4 1] .ret)))
def RW:C:=(aa [bQ 3 0] (.seq (aa [ay 7 1 1,I 8 0,hE 9 7 [.t 8],I 6 9,dm 10 0 6,dm 11 1 6,dR 4 eE,bW 4 4 10,I 5 11] (aa [I 12 5] (aZ 12 (aa [bq 13 4 4,eg 14 131 [.t 13,(gP 5000)],I 3 14] .ret) .skip))) (aa [bQ 3 1] .ret)))
def yE:C:=(aa [dc 2 0,dR 4 eE] (.seq (aa [aF 7 0 1 2,ay 8 1 7] (.block 0 (aa [aV 10 .eql 8 1,I 9 10] (aZ 9 (.seq (aa [I 12 1,aF 13 1 1 2,ay 14 1 13,hE 15 12 [.t 14],I 11 15,dm 16 0 11,dm 17 1 11,dR 5 eE,bW 4 5 16,I 6 17] (aa [I 18 6] (aZ 18 (aa [bq 19 4 5,da 20 143 19,bW 4 4 20] .ret) .skip))) (aa [bq 21 4 2,bW 4 4 21] .ret)) (aa [aV 23 .eql 8 4,I 22 23] (aZ 22 (.seq (.drawn false 38 [aF 24 3 1 2,ay 25 1 24,ku 26 4 25 0,bq 27 4 26,I 28 1,cj 29 194 27 28,aF 30 3 1 2,ay 31 1 30,ku 32 4 31 1,bq 33 4 32,I 34 1,cj 35 194 33 34,cj 36 221 29 35,bW 4 4 36]) .ret) .skip)))))) (aa [bq 37 4 2,bW 4 4 37] .ret)))
def Sq:C:=(aa [bQ 4 0] (aa [I 8 0,bQ 5 0,I 6 8] (.seq (.block 0 (.loop (.seq (aa [I 9 5,I 10 6,br 11 .lss 9 10] (aZ 11 .skip (.exit 0))) (.block 1 (aa [I 12 5,I 13 6,br 14 .add 12 13,b9 15 (.conv .u64 (.t 14)),b9 16 (.bin .shr false (.t 15) (.c (.int .u64 1))),b9 17 (.conv .i64 (.t 16)),I 7 17] (aa [I 18 1,I 19 7,hE 20 18 [.t 19],cR 21 20] (aZ 21 (.region [I 22 7,aV 23 .add 22 1,I 5 23]) (.region [I 24 7,I 6 24])))))))) (aa [I 25 5,I 4 25] .ret))))
def RM:C:=(aa [bA 4 false] (.seq (.drawn true 12 [ay 5 1 1,I 6 0,ck 7 5 5 6,aF 8 0 1 7,ay 9 1 8,ay 10 1 2,br 11 .geq 9 10,I 4 11]) .ret))
def RS:C:=(aa [dc 2 0,dc 3 1,dR 4 eE] (aa [bq 5 4 2,bq 6 4 3,fp 7 4 30 [.t 5,.t 6],j6 8 eE [(0,1,(gP 4)),(3,1,(.t 7))],bW 4 4 8] .ret))
def aS:List (Nat×eu):=[(3,⟨1,8,.int .i64,.int .i64 0⟩),(4,⟨1,1,.bool,.bool false⟩),(5,⟨1,1,.int .u8,.int .u8 0⟩),(9,⟨1,16,.str,.str []⟩),(22,⟨1,24,.slice 24,.slice 4 .nil []⟩),(24,⟨4,56,.struct [(0,3),(1,3),(2,9),(3,22)],.agg [.int .i64 0,.int .i64 0,.str [],.slice 4 .nil []]⟩),(27,⟨1,24,.slice 30,.slice 4 .nil []⟩),(30,⟨4,56,.struct [(0,3),(1,3),(2,9),(3,27)],.agg [.int .i64 0,.int .i64 0,.str [],.slice 4 .nil []]⟩),(38,⟨1,24,.slice 111,.slice 5 .nil []⟩),(39,⟨1,24,.slice 38,.slice 1 .nil []⟩),(40,⟨1,24,.slice 158,.slice 2 .nil []⟩),(41,⟨1,24,.slice 146,.slice 2 .nil []⟩),(43,⟨5,104,.struct [(0,3),(1,38),(2,39),(3,40),(4,41)],.agg [.int .i64 0,.slice 5 .nil [],.slice 1 .nil [],.slice 2 .nil [],.slice 2 .nil []]⟩),(46,⟨1,24,.slice 113,.slice 5 .nil []⟩),(47,⟨1,24,.slice 46,.slice 1 .nil []⟩),(48,⟨1,24,.slice 98,.slice 2 .nil []⟩),(49,⟨1,24,.slice 100,.slice 2 .nil []⟩),(51,⟨5,104,.struct [(0,3),(1,46),(2,47),(3,48),(4,49)],.agg [.int .i64 0,.slice 5 .nil [],.slice 1 .nil [],.slice 2 .nil [],.slice 2 .nil []]⟩),(76,⟨1,24,.slice 3,.slice 1 .nil []⟩),(98,⟨2,16,.struct [(0,3),(1,3)],.agg [.int .i64 0,.int .i64 0]⟩),(100,⟨2,24,.struct [(0,3),(1,9)],.agg [.int .i64 0,.str []]⟩),(111,⟨5,64,.struct [(0,3),(1,24)],.agg [.int .i64 0,.int .i64 0,.int .i64 0,.str [],.slice 4 .nil []]⟩),(113,⟨5,64,.struct [(0,3),(1,30)],.agg [.int .i64 0,.int .i64 0,.int .i64 0,.str [],.slice 4 .nil []]⟩),(136,⟨1,8,.map 3 4,.junk⟩),(141,⟨1,8,.other,.junk⟩),(143,⟨1,8,.other,.junk⟩),(144,⟨1,24,.slice 5,.slice 1 .nil []⟩),(146,⟨2,24,.struct [(0,3),(1,9)],.agg [.int .i64 0,.str []]⟩),(158,⟨2,16,.struct [(0,3),(1,3)],.agg [.int .i64 0,.int .i64 0]⟩),(165,⟨1,8,.map 100 4,.junk⟩),(181,⟨1,8,.other,.junk⟩),(185,⟨2,16,.struct [(0,143),(1,181)],.agg [.junk,.junk]⟩),(192,⟨1,8,.int .u64,.int .u64 0⟩),(194,⟨1,8,.other,.nilp⟩),(206,⟨1,4,.int .u32,.int .u32 0⟩),(208,⟨1,8,.int .u64,.int .u64 0⟩),(216,⟨1,8,.map 3 3,.junk⟩),(217,⟨1,8,.map 3 30,.junk⟩),(219,⟨6,48,.struct [(0,216),(1,217),(2,136),(3,216),(4,216),(5,217)],.agg [.junk,.junk,.junk,.junk,.junk,.junk]⟩),(222,⟨1,8,.int .u64,.int .u64 0⟩)]
def mixed:au.follows .mixedOrders=true:=bi
def bL{aS:List (Nat×eu)}(e:hW au aS=true){f:FuncId}{fn:Func}(h:au.funcs[f]? =some fn){c:C}{a:List bU}{n:Nat}(b:b6 aS c a n fn=true){args:List af}{r:af}(he:eP args->dd au [] c (b0 a r) ⟨iX 0 args,[],[],0,[]⟩)(d:args.length<=n:=by simp)(g:az (fun _=>et) r:=by simp[az]):bX au f args r:=bX.mk mixed e h b d g he
def a7:hW au aS=true:=bi
def amE:b6 aS Ru [.tmp 2] 1 Tryz.f64=true:=bi
def am3:b6 aS RT [.cell 4 true 4,.tmp 5] 2 Tryz.f69=true:=bi
def an7:b6 aS SZ [.cell 2 true 4] 1 Tryz.f114=true:=bi
def EL:b6 aS Az [.cell 2 true 4] 1 Tryz.f130=true:=bi
def amZ:b6 aS RP [.tmp 4] 2 Tryz.f131=true:=bi
def Oo:b6 aS Gg [.tmp 4] 2 Tryz.f133=true:=bi
def B2:b6 aS yD [] 2 Tryz.f134=true:=bi
def am8:b6 aS RY [.tmp 2] 1 Tryz.f136=true:=bi
def am5:b6 aS RV [.cell 4 true 4,.tmp 5] 2 Tryz.f137=true:=bi
def am4:b6 aS RU [.cell 3 true 4,.tmp 4] 2 Tryz.f138=true:=bi
def amV:b6 aS RL [.tmp 4] 2 Tryz.f139=true:=bi
def amT:b6 aS RJ [.tmp 4] 2 Tryz.f142=true:=bi
def Iw:b6 aS C3 [.cell 2 true 4] 1 Tryz.f143=true:=bi
def amF:b6 aS Rv [.tmp 2] 1 Tryz.f158=true:=bi
def amv:b6 aS Rl [.tmp 2] 1 Tryz.f160=true:=bi
def am9:b6 aS RZ [.tmp 2] 1 Tryz.f172=true:=bi
def an4:b6 aS SV [.cell 4 true 4] 2 Tryz.f189=true:=bi
def am1:b6 aS RR [.tmp 4] 2 Tryz.f190=true:=bi
def zF:b6 aS wU [.tmp 4] 2 Tryz.f192=true:=bi
def am6:b6 aS RW [.tmp 3] 2 Tryz.f193=true:=bi
def B3:b6 aS yE [.cell 4 true 4] 2 Tryz.f194=true:=bi
def anB:b6 aS Sq [.tmp 4] 2 Tryz.f195=true:=bi
def amW:b6 aS RM [.tmp 4] 3 Tryz.f196=true:=bi
def am2:b6 aS RS [.cell 4 true 4] 2 Tryz.f221=true:=bi
def akF(s:List cW)(k:Nat)(st:bo):Prop:=∃i:Nat,1<=i/\i<=s.length/\k=s.length-i/\((s.drop 1).all nM=(s.drop i).all nM)/\st=⟨[(0,.str s),(3,aj i)],[],[],0,[]⟩
def vb(s:List cW):bX au 160 [.str s] (.bool (kn s)):=by
 refine bX.mk mixed a7 Tryz.func160 amv Ψ dl fun m=>?_;unfold Rl;simp;(with_reducible repeat' first|((first|refine cu (fun h=>?_) fun h=>?_|refine cy (fun h=>?_) fun h=>?_|refine cx (fun h=>?_) fun h=>?_)<;>try simp at h)|refine aq ?_|simp);case refine_1.refine_1.refine_1.refine_2=>
  have b:kn s=(s.drop 1).all nM:=by simp[kn,low];omega
  rw[b];refine qi (akF s) (s.length-1) _ ⟨Ψ,by simp[hx],by simp[p2],Ψ⟩ ⟨1,Ω,Ω,rfl,rfl,rfl⟩ ?_;rintro k st ⟨i,f,j,n,c,rfl⟩ g l;rw[c];simp;refine cu (fun a=>?_) (fun e=>?_)
  ·simp at a;have d:s.drop i=s[i]?.getD 0::s.drop (i+1):=by rw[lA a];simp[a]
   simp;(with_reducible repeat' first|((first|refine cu (fun h=>?_) fun h=>?_|refine cy (fun h=>?_) fun h=>?_|refine cx (fun h=>?_) fun h=>?_)<;>try simp at h)|refine aq ?_|simp);all_goals first
    |(simp[b0,ba,bd,a1,d,nM,low];omega)
    |(simp only[FP];refine⟨s.length-(i+1),_,Ω,⟨Ψ,by simp[hx],by simp[p2],Ψ⟩,i+1,Ω,Ω,rfl,?_,rfl⟩;rw[c,d];simp[nM,low];omega)
  ·simp at e;have:s.drop i=[]:=by simp;omega
   simp[b0,ba,bd,a1,this]
 all_goals simp[b0,ba,bd,a1,kn,low]
 all_goals omega
def abY(m:Nat):∀(t:Tm),t.sz<=m->∀(room:Int),0<=room/\room<=10000->bX au 131 [enc t,aj room] (aj (gm t room)):=by
 induction m with
 |zero=>intro t c;cases t;simp[Tm.sz]at c
 |succ m d=>
 rintro⟨k,n,s,args⟩ c room f;refine bL a7 Tryz.func131 amZ fun p=>?_;unfold RP;simp[Tm.kind,Tm.num,Tm.name,Tm.args];(with_reducible repeat' first|((first|refine cu (fun h=>?_) fun h=>?_|refine cy (fun h=>?_) fun h=>?_|refine cx (fun h=>?_) fun h=>?_)<;>try simp at h)|refine aq ?_|simp);all_goals try refine CallDo.val Ψ (vb _) ?_
 all_goals try simp
 (with_reducible repeat' first|((first|refine cu (fun h=>?_) fun h=>?_|refine cy (fun h=>?_) fun h=>?_|refine cx (fun h=>?_) fun h=>?_)<;>try simp at h)|refine aq ?_|simp);all_goals try simp[b0,ba,bd,a1]
 case succ.refine_2.refine_2.refine_1.refine_1.refine_2=>
  rename_i j J U e;match args,h with
  |[a,b],_=>
  simp[Tm.sz,Tm.szL]at c;subst J U e;simp;(with_reducible repeat' first|((first|refine cu (fun h=>?_) fun h=>?_|refine cy (fun h=>?_) fun h=>?_|refine cx (fun h=>?_) fun h=>?_)<;>try simp at h)|refine aq ?_|simp);refine CallDo.val Ψ (d a Ω (room-1) Ω) ?_;simp;have l:=Oa a (room-1);have g:=EC a (room-1);(with_reducible repeat' first|((first|refine cu (fun h=>?_) fun h=>?_|refine cy (fun h=>?_) fun h=>?_|refine cx (fun h=>?_) fun h=>?_)<;>try simp at h)|refine aq ?_|simp)
  ·simp[b0,ba,bd,a1];rw[N9];simp;omega
  ·refine CallDo.val Ψ (d b Ω (room-1-gm a (room-1)) Ω) ?_;simp;have o:=Oa b (room-1-gm a (room-1));have i:=EC b (room-1-gm a (room-1));(with_reducible repeat' first|((first|refine cu (fun h=>?_) fun h=>?_|refine cy (fun h=>?_) fun h=>?_|refine cx (fun h=>?_) fun h=>?_)<;>try simp at h)|refine aq ?_|simp);all_goals simp[b0,ba,bd,a1]
   all_goals rw[N9];simp;omega
 all_goals rw[N9]
 all_goals simp_all[l6]
 all_goals first|omega|(split<;>simp at h⊢)
def P8(t:Tm):bX au 64 [enc t] (.bool t.fits):=by refine bL a7 Tryz.func64 amE fun a=>?_;unfold Ru;simp;refine CallDo.val Ψ (abY t.sz t (dL _) 5000 Ω) ?_;simp;simp[b0,ba,bd,a1];simp[Tm.fits]
def aq2(t:T):bX au 64 [t.e] (.bool t.fit):=by have:=P8 t.tm;rwa[um,Tm.fits_T]at this
def JO(a b:T):bX au 221 [a.e,b.e] (T.pair a b).e:=by refine bL a7 Tryz.func221 am2 fun c=>?_;unfold RS;simp;(with_reducible repeat' first|((first|refine cu (fun h=>?_) fun h=>?_|refine cy (fun h=>?_) fun h=>?_|refine cx (fun h=>?_) fun h=>?_)<;>try simp at h)|refine aq ?_|simp);all_goals try simp[b0,ba,bd,a1]
def JJ(a b:T):bX au 189 [a.e,b.e] (T.pair a b).e:=by refine bL a7 Tryz.func189 an4 fun c=>?_;unfold SV;simp;(with_reducible repeat' first|((first|refine cu (fun h=>?_) fun h=>?_|refine cy (fun h=>?_) fun h=>?_|refine cx (fun h=>?_) fun h=>?_)<;>try simp at h)|refine aq ?_|simp);all_goals try simp[b0,ba,bd,a1]
def yi(t:T):bX au 143 [t.e] t.e:=by
 induction t with
 |pair a b e d=>refine bL a7 Tryz.func143 Iw fun c=>?_;unfold C3;exact cB
 |_=>refine bL a7 Tryz.func143 Iw fun c=>?_;unfold C3;exact cB
def pd(a b:Int):bX au 190 [aj a,aj b] (aj (e6 a b)):=by
 refine bL a7 Tryz.func190 am1 fun c=>?_;unfold RR;simp;((repeat' first|refine aq ?_|simp|((first|apply cu|apply cy|apply cx)<;>intro h<;>try simp at h))<;>(try exact c4));all_goals simp[b0,ba,bd,a1]
 all_goals simp[e6]
 all_goals omega
def CG(a:T):∀b:T,bX au 133 [a.e,b.e] (aj (e2 a b)):=by
 induction a with
 |pair g a2 e d=>
  intro b;cases b with
  |pair f i=>
   refine bL a7 Tryz.func133 Oo fun c=>?_;unfold Gg;simp;((repeat' first|refine aq ?_|refine aP (e _) ?_|refine aQ (e _) ?_|refine aP (d _) ?_|refine aQ (d _) ?_|refine aP (pd _ _) ?_|refine aQ (pd _ _) ?_|simp|((first|apply cu|apply cy|apply cx)<;>intro h<;>try simp at h))<;>(try exact c4));all_goals simp[b0,ba,bd,a1]
   all_goals simp_all[e2]
  |_=>
   refine bL a7 Tryz.func133 Oo fun c=>?_;unfold Gg;simp;(repeat' first|refine aq ?_|refine aP (pd _ _) ?_|refine aQ (pd _ _) ?_|simp);all_goals simp[b0,ba,bd,a1]
   all_goals simp_all[e2]
 |_=>
  intro b;cases b<;>
  (refine bL a7 Tryz.func133 Oo fun c=>?_;unfold Gg
   simp
   (with_reducible repeat' first|((first|apply cu|apply cy|apply cx)<;>intro h<;>try simp at h)|refine aq ?_|refine aP (pd _ _) ?_|refine aQ (pd _ _) ?_|simp)
   all_goals simp[b0,ba,bd,a1]
   all_goals simp_all[e2,lr])
def vc(a b:T):bX au 142 [a.e,b.e] (.bool (decide (a=b))):=by
 refine bL a7 Tryz.func142 amT fun c=>?_;unfold RJ;simp;(repeat' first|refine aq ?_|refine aP (CG _ _) ?_|refine aQ (CG _ _) ?_|simp);all_goals simp[b0,ba,bd,a1]
 have:=se a b;by_cases h:e2 a b=0<;>simp_all
open Classical in
def akJ(l:List Bt)(k:Nat)(st:bo):Prop:=∃i:Nat,i<=l.length/\k=l.length-i/\(∀j,j<i->B1 l j)/\st=⟨[(0,bK (l.map Bt.e)),(8,bK (l.map Bt.e)),(9,aj l.length),(10,aj i)],[],[],0,[]⟩
open Classical in
def aq3(l:List Bt):bX au 158 [bK (l.map Bt.e)] (.bool (decide (Am l))):=by
 refine bL a7 Tryz.func158 amF fun w=>?_;unfold Rv;simp;(with_reducible repeat' first|((first|apply cu|apply cy|apply cx)<;>intro h<;>try simp at h)|refine aq ?_|simp)
 ·simp[b0,ba,bd,a1];intro a;have:=a.1;omega
 ·refine qi (akJ l) l.length _ ⟨Ψ,by simp[hx],by simp[p2],Ψ⟩ ⟨0,Ω,Ω,Ψ,rfl⟩ ?_;rintro k st ⟨i,hi,v,g,rfl⟩ p q;simp;refine cu (fun d=>?_) (fun o=>?_)
  ·simp at d;obtain⟨b,f⟩:∃b,l[i]? =some b:=⟨_,cl d⟩;obtain⟨c,aw⟩:∃c,l[i-1]? =some c:=⟨_,cl Ω⟩;clear p q;simp[f,aw];((repeat' first|refine aq ?_|refine aP (P8 _) ?_|refine aQ (P8 _) ?_|simp[aw]|((first|apply cu|apply cy|apply cx)<;>intro h<;>try simp at h))<;>(try exact c4));all_goals first
    |(simp[b0,ba,bd,a1];intro a;have J:=a.2 i d b f;have U:=J.2.1 c;have r:=J.2.2;first|omega|(have:=U Ω aw;omega)|(rw[r]at h;cases h)|simp_all)
    |(simp only[FP];refine⟨l.length-(i+1),_,Ω,⟨Ψ,by simp[hx],by simp[p2],Ψ⟩,i+1,Ω,rfl,fun j s=>?_,rfl⟩
      by_cases e:j=i
      ·subst e;intro b7 n;rw[f]at n;cases n;refine⟨Ω,fun t u m=>?_,by assumption⟩;rw[aw]at m;cases m;omega
      ·exact g j Ω)
  ·simp at o;simp[b0,ba,bd,a1];exact⟨Ω,fun j s=>g j Ω⟩
def nr(p:Nat->Bool)(i j:Nat):Nat:=if i<j then(if p ((i+j)/2)then nr p i ((i+j)/2)else nr p ((i+j)/2+1) j)else i
termination_by j-i
def akI(s:cQ)(n g:Nat)(dE:List af)(p:Nat->Bool)(k:Nat)(st:bo):Prop:=∃i j:Nat,i<=j/\j<=n/\k=j-i/\nr p i j=nr p 0 n/\st=⟨[(1,.func g dE),(5,aj i),(6,aj j)],s.b,s.e,0,cI s⟩
def ahJ(s:cQ)(a:eB s)(n g:Nat)(z:n<=1000000)(dE:List af)(aw:aH (aK s) dE)(du:cf dE=dE)(p:Nat->Bool)(t:∀i:Nat,i<n->bD au g (aj i::dE) s fun r b=>r= .bool (p i)/\b=s):
  bD au 195 [aj n,.func g dE] s fun r b=>r=aj (nr p 0 n)/\b=s:=by
 refine bD.mk mixed a7 Tryz.func195 anB Ψ a.obj fun y e=>?_;unfold Sq;simp;refine qi (akI s n g dE p) n _ (gk.ob a (by simp[aw]) aW aW) ⟨0,n,Ω,Ω,rfl,rfl,rfl⟩ ?_;rintro k st ⟨i,j,v,w,x,d,rfl⟩ o e;clear o e;simp;refine cu (fun c=>?_) (fun f=>?_)
 ·simp at c;have hw:ig.wrap ((i:Int)+j)=i+j:=by simp[tQ,pe,tP];omega
  obtain⟨m,hm⟩:∃m,m=(i+j)/2:=⟨_,rfl⟩;have q:Int.fdiv ((i:Int)+j) 2=(m:Int):=by rw[Int.fdiv_eq_ediv_of_nonneg _ Ω];omega
  have l:vf.wrap (m:Int)=m:=by rw[pf];omega
  have u:ig.bits=64:=rfl;simp[hw,du,u,q,l];refine⟨by unfold te;omega,?_⟩;refine CallDo.ob (t m Ω) a aW aW (by simp[aw]) ?_;rintro r b ⟨rfl,rfl⟩;refine⟨Same.refl _,?_⟩;simp[hM];(with_reducible repeat' first|((first|apply cu|apply cy|apply cx)<;>intro h<;>try simp at h)|refine aq ?_|simp)
  ·simp only[FP];refine⟨j-(m+1),_,Ω,gk.ob a (by simp[aw]) aW aW,m+1,j,Ω,Ω,rfl,?_,rfl⟩;rw[<-d];conv=>rhs;unfold nr
   simp[c,<-hm,h]
  ·simp only[FP];refine⟨m-i,_,Ω,gk.ob a (by simp[aw]) aW aW,i,m,Ω,Ω,rfl,?_,rfl⟩;rw[<-d];conv=>rhs;unfold nr
   simp[c,<-hm,h]
 ·simp at f;have:nr p 0 n=i:=by rw[<-d];unfold nr;rw[if_neg Ω]
  rw[this];simp;refine c3.at s (.inl rfl) a (Same.refl s) aW aW ?_;simp[c9,ba,bd,a1]
def og(l:List Bd)(v:Int):Int:=
 let i:=nr (fun i=>match l[i]? with|some b=>decide (v<=b.v)|none=>false) 0 l.length
 match l[i]? with|some b=>if b.v=v then i else-1|none=> -1
def ahP(l:List Bd)(v:Int)(i:Nat)(b:Bd)(c:l[i]? =some b):bD au 196 [aj i,.ptr (.obj 101) 0,.ptr (.obj 102) 0] ⟨[(.obj 101,[bK (l.map Bd.e)]),(.obj 102,[aj v])],[]⟩ fun r d=>r= .bool (decide (v<=b.v))/\d=⟨[(.obj 101,[bK (l.map Bd.e)]),(.obj 102,[aj v])],[]⟩:=by have a:eB ⟨[(.obj 101,[bK (l.map Bd.e)]),(.obj 102,[aj v])],[]⟩:=(eB.of ⟨by intro m;simp[ad],by intro m;simp[ad]⟩ (by simp[aH,az,aK,ad]) (by simp[aH,az,aK,ad]));have f:i<l.length:=(fM.1 c).1;refine bD.mk mixed a7 Tryz.func196 amW Ψ a.obj fun g e=>?_;unfold RM;simp[c];(repeat' first|refine aq ?_|simp);refine c3.at _ (.inl rfl) a (Same.refl _) aW aW ?_;simp[c9,ba,bd,a1]
def vd(l:List Bd)(v:Int)(e:l.length<=1000000):bX au 139 [bK (l.map Bd.e),aj v] (aj (og l v)):=by
 refine bL a7 Tryz.func139 amV fun g=>?_;unfold RL;simp;have d:eB ⟨[(.obj 101,[bK (l.map Bd.e)]),(.obj 102,[aj v])],[]⟩:=(eB.of ⟨by intro m;simp[ad],by intro m;simp[ad]⟩ (by simp[aH,az,aK,ad]) (by simp[aH,az,aK,ad]));refine CallDo.ob (ahJ ⟨[(.obj 101,[bK (l.map Bd.e)]),(.obj 102,[aj v])],[]⟩ d l.length 196 e [.ptr (.obj 101) 0,.ptr (.obj 102) 0] (by simp[aK]) Ψ (fun i=>match l[i]? with|some b=>decide (v<=b.v)|none=>false) fun i hi=>?_) d aW aW (by simp[aK]) ?_
 ·obtain⟨b,a⟩:∃b,l[i]? =some b:=⟨_,cl hi⟩;simp only[a];exact ahP l v i b a
 rintro r f ⟨rfl,rfl⟩;refine⟨Same.refl _,?_⟩;unfold og;generalize nr _ 0 l.length=i;cases a:l[i]? with
 |none=>
  have c:¬i<l.length:=by simpa using a
  simp[cJ,c];exact cB
 |some b=>
  have c:i<l.length:=(fM.1 a).1;simp[cJ,a,c];((repeat' first|refine aq ?_|simp[a]|((first|apply cu|apply cy|apply cx)<;>intro h<;>try simp at h))<;>(try exact c4));all_goals simp[b0,ba,bd,a1]
  all_goals simp_all
def tA(l:List Bd)(v:Int):bc T:=if og l v<0 then none else(l[(og l v).toNat]?).map (·.t)
def Uz(l:List Bd)(v:Int):og l v<l.length/\ -1<=og l v:=by
 unfold og;simp only;split
 ·rename_i b a;have:=(fM.1 a).1;split<;>omega
 ·omega
def U1(l:List Bd)(v:Int)(e:l.length<=1000000)(o:bc T)(ar:o=tA l v):bD au 138 [aj v,.ptr (.obj 201) 0] ⟨[(.obj 201,[bK (l.map Bd.e)])],[]⟩ fun r f=>r= .tuple [(o.getD .nil).e,.bool o.isSome]/\f=⟨[(.obj 201,[bK (l.map Bd.e)])],[]⟩:=by
 have c:eB ⟨[(.obj 201,[bK (l.map Bd.e)])],[]⟩:=(eB.of ⟨by intro m;simp[ad],by intro m;simp[ad]⟩ (by simp[aH,az,aK,ad]) (by simp[aH,az,aK,ad]));have i:=(Uz l v).1;unfold tA at ar;refine bD.mk mixed a7 Tryz.func138 am4 Ψ c.obj fun j g=>?_;unfold RU;simp;(with_reducible repeat' first|((first|apply cu|apply cy|apply cx)<;>intro h<;>try simp at h)|refine aq ?_|refine aP (vd l v e) ?_|refine aQ (vd l v e) ?_|simp)
 ·obtain⟨b,d⟩:∃b,l[(og l v).toNat]? =some b:=⟨_,cl Ω⟩;have a:o=some b.t:=by rw[ar,if_neg Ω,d];rfl
  simp[d];(with_reducible repeat' first|((first|apply cu|apply cy|apply cx)<;>intro h<;>try simp at h)|refine aq ?_|simp[d]);refine c3.at _ (.inl rfl) c (Same.refl _) aW aW ?_;simp[c9,ba,bd,a1];simp[a]
 ·have a:o=none:=by rw[ar,if_pos h]
  refine c3.at _ (.inl rfl) c (Same.refl _) aW aW ?_;simp[c9,ba,bd,a1];simp[a]
def ain(s:cQ)(c:eB s)(g:Nat)(dE:List af)(aw:aH (aK s) dE)(du:cf dE=dE)(f:Int->Int)(o:∀v,-1<=f v)(t:T)(j:∀v,t.occ v=true->bD au g (aj v::dE) s fun r e=>r=aj (f v)/\e=s):
  bD au 192 [t.e,.func g dE] s fun r e=>r=aj (l7 f t)/\e=s:=by
 have d:∀m,ad (.loc m) s.b=none:=c.obj.1;have hu:∀m cs,cH (.loc m) cs s.b=s.b++[(.loc m,cs)]:=fun m cs=>kH (d m);have ar:∀m,aA.loc m∉cI s:=kE c.obj;induction t with
 |pair a b q p=>
  have w:=Js f o a;have u:=Js f o b;refine bD.mk mixed a7 Tryz.func192 zF Ψ c.obj fun l k=>?_;unfold wU;simp[hu,ar,c0,d,du];(repeat' first|refine aq ?_|simp[hu,ar,c0,d]);refine CallDo.ob (q fun v i=>j v (by simp[T.occ,i])) c aW aW (by simp[aw]) ?_;rintro r e ⟨rfl,rfl⟩;refine⟨Same.refl _,?_⟩;simp[hM,jt,cJ,d];(with_reducible repeat' first|((first|apply cu|apply cy|apply cx)<;>intro h<;>try simp at h)|refine aq ?_|simp[hu,ar,c0,d])
  ·refine c3.at e (.inl rfl) c (Same.refl _) aW aW ?_;simp[c9,ba,bd,a1];simp[l7];omega
  ·rw[du];refine CallDo.ob (p fun v i=>j v (by simp[T.occ,i])) c aW aW (by simp[aw]) ?_;rintro r s2 ⟨rfl,rfl⟩;refine⟨Same.refl _,?_⟩;simp[hM,jt,cJ,d];(with_reducible repeat' first|((first|apply cu|apply cy|apply cx)<;>intro h<;>try simp at h)|refine aq ?_|simp[hu,ar,c0,d]);refine c3.at s2 (.inl rfl) c (Same.refl _) aW aW ?_;simp[c9,ba,bd,a1];simp[l7];omega
 |var n=>refine bD.mk mixed a7 Tryz.func192 zF Ψ c.obj fun l k=>?_;unfold wU;simp[hu,ar,c0,d,du];(repeat' first|refine aq ?_|simp[hu,ar,c0,d]);refine CallDo.ob (j n (by simp[T.occ])) c aW aW (by simp[aw]) ?_;rintro r e ⟨rfl,rfl⟩;refine⟨Same.refl _,?_⟩;simp[hM,jt,cJ,d];refine c3.at e (.inl rfl) c (Same.refl _) aW aW ?_;simp[c9,ba,bd,a1];simp[l7]
 |_=>refine bD.mk mixed a7 Tryz.func192 zF Ψ c.obj fun l k=>?_;unfold wU;simp[hu,ar,c0,d,du];(repeat' first|refine aq ?_|simp[hu,ar,c0,d]);refine c3.at s (.inl rfl) c (Same.refl _) aW aW ?_;simp[c9,ba,bd,a1];simp[l7]
def ah1(s:cQ)(d:eB s)(g:Nat)(dE:List af)(aw:aH (aK s) dE)(du:cf dE=dE)(f:Int->bc T)(t:T)(k:∀v,t.occ v=true->bD au g (aj v::dE) s fun r i=>r= .tuple [((f v).getD .nil).e,.bool (f v).isSome]/\i=s):
  bD au 194 [t.e,.func g dE] s fun r i=>r=(t.sub f).e/\i=s:=by
 have c:∀m,ad (.loc m) s.b=none:=d.obj.1;have l:∀m,ad (.loc m) s.e=none:=d.obj.2;have hu:∀m cs,cH (.loc m) cs s.b=s.b++[(.loc m,cs)]:=fun m cs=>kH (c m);have ar:∀m,aA.loc m∉cI s:=kE d.obj;have e:∀m p r,cH (.loc m) p (s.b++r)=s.b++cH (.loc m) p r:=fun m p r=>CC (c m);induction t with
 |pair a b w u=>refine bD.mk mixed a7 Tryz.func194 B3 Ψ d.obj fun q o=>?_;unfold yE;simp[hu,ar,c0,c,l,du,e];(repeat' first|refine aq ?_|simp[hu,ar,c0,c,l,e]);refine hn.ob (w fun v j=>k v (by simp[T.occ,j])) d d (Same.refl _) aW aW (by simp[aw]) ?_;simp[hM,jt,cJ,c,du];refine hn.ob (u fun v j=>k v (by simp[T.occ,j])) d d (Same.refl _) aW aW (by simp[aw]) ?_;simp[hM,jt,cJ,c,du];(repeat' first|refine aq ?_|refine aP (JO _ _) ?_|refine aQ (JO _ _) ?_|simp);refine c3.at s (.inl rfl) d (Same.refl _) aW aW ?_;simp[c9,ba,bd,a1,c0,c];simp[T.sub]
 |var n=>
  refine bD.mk mixed a7 Tryz.func194 B3 Ψ d.obj fun q o=>?_;unfold yE;simp[hu,ar,c0,c,du,e];(repeat' first|refine aq ?_|simp[hu,ar,c0,c,e]);refine CallDo.ob (k n (by simp[T.occ])) d aW aW (by simp[aw]) ?_;rintro r i ⟨rfl,rfl⟩;refine⟨Same.refl _,?_⟩;simp[hM,jt,cJ,c,hu,ar,c0];(with_reducible repeat' first|((first|apply cu|apply cy|apply cx)<;>intro h<;>try simp at h)|refine aq ?_|refine aP (yi _) ?_|refine aQ (yi _) ?_|simp[hu,ar,c0,c,e]);all_goals refine c3.at i (.inl rfl) d (Same.refl _) aW aW ?_
  all_goals simp[c9,ba,bd,a1,c0,c]
  all_goals cases x:f n<;>simp_all[T.sub]
 |_=>refine bD.mk mixed a7 Tryz.func194 B3 Ψ d.obj fun q o=>?_;unfold yE;simp[hu,ar,c0,c,du,e];(with_reducible repeat' first|((first|apply cu|apply cy|apply cx)<;>intro h<;>try simp at h)|refine aq ?_|simp[hu,ar,c0,c,e]);refine c3.at s (.inl rfl) d (Same.refl _) aW aW ?_;simp[c9,ba,bd,a1,c0,c];simp[T.sub]
def pt(l:List Bd):cQ:=⟨[(.obj 201,[bK (l.map Bd.e)])],[]⟩
def sx(l:List Bd):cQ:=⟨[(.obj 201,[bK (l.map Bd.e)]),(.obj 202,[.func 138 [.ptr (.obj 201) 0]])],[]⟩
def CQ(l:List Bd):eB (pt l):=by unfold pt;exact(eB.of ⟨by intro m;simp[ad],by intro m;simp[ad]⟩ (by simp[aH,az,aK,ad]) (by simp[aH,az,aK,ad]))
def J0(l:List Bd):eB (sx l):=by unfold sx;exact(eB.of ⟨by intro m;simp[ad],by intro m;simp[ad]⟩ (by simp[aH,az,aK,ad]) (by simp[aH,az,aK,ad]))
def vI(l:List Bd)(v:Int):Int:=match tA l v with|some x=>gm x.tm 5000|none=>1
def ahB(l:List Bd)(v:Int): -1<=vI l v:=by
 unfold vI;split
 ·rename_i x _;rcases EC x.tm 5000 with h|h<;>omega
 ·omega
def abZ(t:T):bX au 131 [t.e,aj 5000] (aj (gm t.tm 5000)):=by have:=abY t.tm.sz t.tm (dL _) 5000 Ω;rwa[um]at this
def aik(l:List Bd)(v:Int)(c:l.length<=1000000):bD au 193 [aj v,.ptr (.obj 202) 0] (sx l) fun r b=>r=aj (vI l v)/\b=sx l:=by
 have a:=J0 l;unfold sx at a⊢;refine bD.mk mixed a7 Tryz.func193 am6 Ψ a.obj fun f d=>?_;unfold RW;simp;refine CallDo.ob (U1 l v c _ rfl) (CQ l) aW aW (by simp[aK]) ?_;rintro r b ⟨rfl,rfl⟩;refine⟨Same.refl _,?_⟩;simp[cJ];(with_reducible repeat' first|((first|apply cu|apply cy|apply cx)<;>intro h<;>try simp at h)|refine aq ?_|refine aP (abZ _) ?_|refine aQ (abZ _) ?_|simp);all_goals refine c3.at _ (.inl rfl) a (Same.refl _) aW aW ?_
 all_goals simp[c9,ba,bd,a1]
 all_goals unfold vI
 all_goals cases e:tA l v<;>simp_all
def EZ(l:List Bd)(t:T):T:=t.sub (tA l)
def u0(l:List Bd)(t:T):Bool:=decide (l7 (vI l) t<=5000)
def aij(l:List Bd)(t:T)(c:l.length<=1000000):bD au 137 [t.e,.func 138 [.ptr (.obj 201) 0]] (pt l) fun r b=>r= .tuple [(if u0 l t then EZ l t else .nil).e,.bool (u0 l t)]/\b=pt l:=by
 have a:=CQ l;unfold pt at a⊢;refine bD.mk mixed a7 Tryz.func137 am5 Ψ a.obj fun f e=>?_;unfold RV;simp;refine CallDo.ob (ain (sx l) (J0 l) 193 [.ptr (.obj 202) 0] (by simp[aK,sx]) Ψ (vI l) (ahB l) t fun v d=>aik l v c) (J0 l) (by unfold sx;exact aW) (by unfold sx;exact aW) (by simp[aK,sx]) ?_;rintro r b ⟨rfl,rfl⟩;refine⟨Same.refl _,?_⟩;unfold sx;simp[cJ];(with_reducible repeat' first|((first|apply cu|apply cy|apply cx)<;>intro h<;>try simp at h)|refine aq ?_|simp)
 ·refine c3.at _ (.inl rfl) a (Same.refl _) aW aW ?_;simp[c9,ba,bd,a1];have:u0 l t=false:=by simp[u0];omega
  simp[this]
 ·refine CallDo.ob (ah1 (pt l) (CQ l) 138 [.ptr (.obj 201) 0] (by simp[aK,pt]) Ψ (tA l) t fun v d=>U1 l v c _ rfl) (CQ l) (by unfold pt;exact aW) (by unfold pt;exact aW) (by simp[aK,pt]) ?_;rintro r b ⟨rfl,rfl⟩;refine⟨Same.refl _,?_⟩;unfold pt;simp[cJ];refine c3.at _ (.inl rfl) a (Same.refl _) aW aW ?_;simp[c9,ba,bd,a1];have:u0 l t=true:=by simp[u0];omega
  simp[this,EZ]
def arS(l:List Bd)(t:T)(a:l.length<=1000000):bX au 69 [bK (l.map Bd.e),t.e] (.tuple [(if u0 l t then EZ l t else .nil).e,.bool (u0 l t)]):=by refine bL a7 Tryz.func69 am3 fun c=>?_;unfold RT;simp;refine CallDo.ob (aij l t a) (CQ l) (by unfold pt;exact aW) (by unfold pt;exact aW) (by simp[aK,pt]) ?_;rintro r b ⟨rfl,rfl⟩;refine⟨Same.refl _,?_⟩;unfold pt;simp[cJ];simp[b0,ba,bd,a1]
def PF(p:Nat->Bool)(n:Nat)(hm:∀k bt,k<=bt->bt<n->p k=true->p bt=true):∀(m i j:Nat),j-i<=m->i<=j->j<=n->(∀k,k<i->p k=false)->(∀k,j<=k->k<n->p k=true)->
  (i<=nr p i j/\nr p i j<=j)/\(∀k,k<nr p i j->p k=false)/\(∀k,nr p i j<=k->k<n->p k=true)
 |m,i,j,l,g,f,J,U=>by
  rw[nr];split
  ·rename_i h;obtain⟨m,rfl⟩:∃e,m=e+1:=⟨m-1,Ω⟩;split
   ·rename_i a;have:=PF p n hm m i ((i+j)/2) Ω Ω Ω J (fun k c d=>hm _ k c d a);exact⟨⟨this.1.1,Ω⟩,this.2⟩
   ·rename_i a;have:=PF p n hm m ((i+j)/2+1) j Ω Ω f (fun k c=>by
     by_cases b:p k=true
     ·exact absurd (hm k ((i+j)/2) Ω Ω b) a
     ·simpa using b) U
    exact⟨⟨Ω,this.1.2⟩,this.2⟩
  ·obtain rfl:i=j:=Ω
   exact⟨⟨dL _,dL _⟩,J,U⟩
def OF{l:List Bd}(G:jw l)(v:Int):tA l v=dD l v:=by
 have f:∀(i j:Nat) (x y:Bd),i<j->l[i]? =some x->l[j]? =some y->x.v<y.v:=by intro i j x y B K L;obtain⟨J,rfl⟩:=fM.1 K;obtain⟨U,rfl⟩:=fM.1 L;exact qS.1 G i j J U B
 obtain⟨p,q⟩:∃p:Nat->Bool,p=(fun i=>match l[i]? with|some b=>decide (v<=b.v)|none=>false):=⟨_,rfl⟩;have d:∀i b,l[i]? =some b->p i=decide (v<=b.v):=fun i b a=>by rw[q];simp[a]
 have hm:∀k bt,k<=bt->bt<l.length->p k=true->p bt=true:=by
  intro k bt c E h;have s:l[k]? =some l[k]:=cl Ω;have u:l[bt]? =some l[bt]:=cl E;rw[d k _ s]at h;rw[d bt _ u];simp only[gu]at h⊢;rcases Nat.lt_or_eq_of_le c with A|rfl
  ·have:=f k bt _ _ A s u;omega
  ·exact h
 obtain⟨⟨_,hle⟩,hbef,haft⟩:=PF p l.length hm l.length 0 l.length Ω Ω (dL _) (fun k c=>Ω) (fun k J U=>Ω);have n:og l v=(match l[nr p 0 l.length]? with|some b=>if b.v=v then((nr p 0 l.length:Nat):Int)else-1|none=> -1):=by rw[q];rfl
 generalize nr p 0 l.length=r at hle hbef haft n;by_cases hex:∃(k:Nat) (b:Bd),l[k]? =some b/\b.v=v
 ·obtain⟨k,b,a,w⟩:=hex;have o:k<l.length:=(fM.1 a).1;have F:r<=k:=by
   rcases Nat.lt_or_ge k r with h|h
   ·have:=hbef k h;rw[d k b a]at this;simp at this;omega
   ·exact h
  have t:l[r]? =some l[r]:=cl Ω;have z:=haft r (dL _) Ω;rw[d r _ t]at z;simp only[gu]at z;have g:r=k:=by
   rcases Nat.lt_or_eq_of_le F with h|h
   ·have:=f r k _ _ h t a;omega
   ·exact h
  subst g;have m:og l v=r:=by rw[n,a];simp[w]
  have J:tA l v=some b.t:=by unfold tA;rw[m,if_neg Ω];simp[a]
  have U:l.find? (fun b=>b.v==v)=some b:=by
   rw[List.find?_eq_some_iff_getElem];refine⟨by simp[w],r,o,?_,fun j H=>?_⟩
   ·rw[cl o]at a;simpa using a
   ·have:=f j r l[j] b H (cl Ω) a;simp;omega
  rw[J];simp[dD,U]
 ·have U:l.find? (fun b=>b.v==v)=none:=by rw[List.find?_eq_none];intro b a;obtain⟨k,c,rfl⟩:=List.mem_iff_getElem.1 a;simp;intro e;exact hex ⟨k,l[k],cl c,e⟩
  have m:og l v= -1:=by
   rw[n];split
   ·rename_i b a;rw[if_neg (fun e=>hex ⟨r,b,a,e⟩)]
   ·rfl
  unfold tA;rw[m];simp[dD,U]
def UA{l:List Bd}(a:jw l)(v:Int):og l v<0↔dD l v=none:=by
 rw[<-OF a v];unfold tA;have J:=Uz l v;by_cases h:og l v<0
 ·simp[h]
 ·simp only[h,if_false,false_iff];intro e;rw[Option.map_eq_none_iff,List.getElem?_eq_none_iff]at e;omega
def AU(s:List Bd):Prop:= ∀b∈s,b.t.fit=true
def ahA{l:List Bd}(a:jw l)(h:AU l)(v:Int):vI l v=(cO l v).size:=by
 unfold vI cO;rw[OF a];cases b:dD l v with
 |none=>simp[T.size]
 |some x=>have:=h _ (kJ b);simp only[T.fit,cP,gu]at this;simp only[mK];rw[Iq,if_pos ⟨this.1,Ω⟩]
def ap4{l:List Bd}(e:jw l)(h:AU l)(t:T):l7 (vI l) t=cut (t.ap (cO l)).size:=by
 induction t with
 |var n=>simp only[l7,ahA e h,T.ap];rfl
 |pair a b d c=>have f:=T.size_pos (b.ap (cO l));simp only[l7,d,c,T.ap,T.size];unfold cut;(repeat' split)<;>omega
 |_=>simp[l7,T.ap,T.size,cut]
def aoE{l:List Bd}(a:jw l)(h:AU l)(t:T):u0 l t=decide ((t.ap (cO l)).size<=5000):=by unfold u0;rw[ap4 a h];unfold cut;split<;>simp<;>omega
def aoF{l:List Bd}(a:jw l)(t:T):EZ l t=t.ap (cO l):=by unfold EZ;rw[aa1];exact vu fun v _=>by rw[OF a];rfl
def JP(l:List Bd)(t:T)(b:l.length<=1000000)(a:jw l)(h:AU l):bX au 69 [bK (l.map Bd.e),t.e] (.tuple [(if(t.ap (cO l)).size<=5000 then t.ap (cO l)else .nil).e,.bool (decide ((t.ap (cO l)).size<=5000))]):=by have:=arS l t b;rw[aoE a h,aoF a]at this;simpa using this
def XC(l:List (Int×T)):List af:=kT (l.map fun x=>(x.1,x.2.e))
@[simp]def avi:XC []=kT []:=rfl
@[simp]def avR(l:List (Int×T)):gR (XC l)=false:=rfl
end
end Go.Proofs.YtahlgcidhnjlbaaGreat
namespace Go.Proofs
section
open Go.Shelf
def Tryz.lays191_ren:Go.Shelf.Ren:=⟨fun|191=>191|189=>220|125=>213|257=>250|128=>236|129=>237|294=>261|295=>262|296=>263|297=>264|298=>265|299=>266|216=>267|300=>268|301=>269|328=>272|329=>273|330=>274|331=>275|332=>276|215=>277|343=>278|n=>n,fun|28=>76|0=>0|3=>3|46=>192|51=>206|53=>208|4=>4|183=>230|182=>229|131=>214|5=>5|9=>9|218=>238|222=>226|228=>241|229=>236|n=>n,fun|n=>n⟩
def Tryz.lays191:Go.Proofs.Lays.n191 au Tryz.lays191_ren:={
 mixed:=bi
 f125:=Tryz.func213.trans (ff some bi)
 f128:=Tryz.func236.trans (ff some bi)
 f129:=Tryz.func237.trans (ff some bi)
 f189:=Tryz.func220.trans (ff some bi)
 f191:=Tryz.func191.trans (ff some bi)
 f215:=Tryz.func277.trans (ff some bi)
 f216:=Tryz.func267.trans (ff some bi)
 f257:=Tryz.func250.trans (ff some bi)
 f294:=Tryz.func261.trans (ff some bi)
 f295:=Tryz.func262.trans (ff some bi)
 f296:=Tryz.func263.trans (ff some bi)
 f297:=Tryz.func264.trans (ff some bi)
 f298:=Tryz.func265.trans (ff some bi)
 f299:=Tryz.func266.trans (ff some bi)
 f300:=Tryz.func268.trans (ff some bi)
 f301:=Tryz.func269.trans (ff some bi)
 f328:=Tryz.func272.trans (ff some bi)
 f329:=Tryz.func273.trans (ff some bi)
 f330:=Tryz.func274.trans (ff some bi)
 f331:=Tryz.func275.trans (ff some bi)
 f332:=Tryz.func276.trans (ff some bi)
 f343:=Tryz.func278.trans (ff some bi)
 t0:=Tryz.underlying0
 a0:=Tryz.isAgg0
 z0:=Tryz.sizeOf0
 v0:=Tryz.zeroValue0
 t3:=Tryz.underlying3
 a3:=Tryz.isAgg3
 z3:=Tryz.sizeOf3
 v3:=Tryz.zeroValue3
 t4:=Tryz.underlying4
 a4:=Tryz.isAgg4
 z4:=Tryz.sizeOf4
 v4:=Tryz.zeroValue4
 t5:=Tryz.underlying5
 a5:=Tryz.isAgg5
 z5:=Tryz.sizeOf5
 v5:=Tryz.zeroValue5
 t9:=Tryz.underlying9
 a9:=Tryz.isAgg9
 z9:=Tryz.sizeOf9
 v9:=Tryz.zeroValue9
 t28:=Tryz.underlying76
 a28:=Tryz.isAgg76
 z28:=Tryz.sizeOf76
 v28:=Tryz.zeroValue76
 t46:=Tryz.underlying192
 a46:=Tryz.isAgg192
 z46:=Tryz.sizeOf192
 v46:=Tryz.zeroValue192
 t51:=Tryz.underlying206
 a51:=Tryz.isAgg206
 z51:=Tryz.sizeOf206
 v51:=Tryz.zeroValue206
 t53:=Tryz.underlying208
 a53:=Tryz.isAgg208
 z53:=Tryz.sizeOf208
 v53:=Tryz.zeroValue208
 t131:=Tryz.underlying214
 a131:=Tryz.isAgg214
 z131:=Tryz.sizeOf214
 v131:=Tryz.zeroValue214
 t182:=Tryz.underlying229
 a182:=Tryz.isAgg229
 z182:=Tryz.sizeOf229
 v182:=Tryz.zeroValue229
 t183:=Tryz.underlying230
 a183:=Tryz.isAgg230
 z183:=Tryz.sizeOf230
 v183:=Tryz.zeroValue230
 t218:=Tryz.underlying238
 a218:=Tryz.isAgg238
 z218:=Tryz.sizeOf238
 v218:=Tryz.zeroValue238
 t222:=Tryz.underlying226
 a222:=Tryz.isAgg226
 z222:=Tryz.sizeOf226
 v222:=Tryz.zeroValue226
 t228:=Tryz.underlying241
 a228:=Tryz.isAgg241
 z228:=Tryz.sizeOf241
 v228:=Tryz.zeroValue241
 t229:=Tryz.underlying236
 a229:=Tryz.isAgg236
 z229:=Tryz.sizeOf236
 v229:=Tryz.zeroValue236}
end
end Go.Proofs

namespace Go.Proofs.YtahlgcidhnjlbaaGreat
section
open Go Go.Pv
def eZ(xs:List Int):List af:=xs.map (af.int .i64)
def aai{w:World}{ν:a8}:∀{xs:List Int} {us:List Value},dt w ν 1 (eZ xs) us->us=xs.map (Value.int .i64)
 |[],us,h=>by simpa[eZ,dt]using h
 |x::xs,us,h=>by simp only[eZ,hc,dt]at h;obtain⟨u,a,rfl,⟨J,_,_⟩,U⟩:=h;simp only[aU]at J;subst J;rw[aai U];rfl
def Wy(w:World)(ν:a8):∀xs:List Int,dt w ν 1 (eZ xs) (xs.map (Value.int .i64))
 |[]=>by simp[eZ,dt]
 |x::xs=>by simp only[eZ,hc,dt];exact⟨.int .i64 x,_,rfl,⟨by simp[aU],rfl,by intro c aw;simp[pg]at aw;subst aw;rfl⟩,Wy w ν xs⟩
def n9(K:Nat)(xs:List Int):cQ:=⟨[],[(.obj K,⟨xs.length,3,1,some (eZ xs)⟩)]⟩
def uM(S:aA->Prop)(xs:List Int):aH S (eZ xs):=by
 induction xs with
 |nil=>simp[eZ,aH]
 |cons x r a=>simp only[eZ,hc,aH,az];exact⟨trivial,a⟩
def J3(K:Nat)(xs:List Int):eB (n9 K xs):=by unfold n9;refine eB.of ⟨by intro m;simp[ad],by intro m;simp[ad]⟩ Ψ ?_;intro x a ys b;simp at a;subst a;simp at b;subst b;exact uM _ xs
def si(xs:List Int):List Int:=xs.mergeSort fun x y=>decide (x<=y)
def aaQ(xs:List Int):(si xs).length=xs.length:=List.length_mergeSort xs
def ais(K:Nat)(xs:List Int)(av:xs.length<=1000000):bD au 191 [.row 1 (.obj K) xs.length] (n9 K xs) fun r O=>r= .tuple []/\O=n9 K (si xs):=by
 refine bD.sem (J3 K xs).obj fun w ν bk F h=>?_;refine .inl ⟨⟨Tryz.f191,Tryz.func191,by kernel_rfl,by kernel_rfl⟩,?_⟩;have c:=h.slot 0;simp only[iX,Pv.get,if_true]at c;have m:ad (.obj K) (n9 K xs).e=some ⟨xs.length,3,1,some (eZ xs)⟩:=by simp[n9,ad]
 obtain⟨v,us,y,p,bT,H⟩:=h.good.own (.obj K) _ m;obtain⟨Y,E,W⟩:=H _ rfl;have A:=aai E;subst A;simp only[aU]at c;obtain⟨⟨S,R,z⟩,_,n',u,d,aC,N⟩:=c;rw[y]at d;simp only[dS,jj]at d;obtain⟨rfl,rfl⟩:=d;have t:=N rfl;have f:bk= #[v]:=by
  have J:bk.size=1:=by simpa using F
  apply Array.ext (by simpa using J);intro i U s;simp at s;subst s;rw[<-t];simp[Array.getD,J]
 have L:v≠ .slice none 0 0:=by rw[<-t,z];simp
 obtain⟨g,cap,rfl,_,B,X,P,DM,V⟩:=Lib.holds_of_ownsRow p L;have aw:=Any.sort_Ints Tryz.lays191 g 0 cap xs w V B Ω;subst f;refine aw.mono ?_;rintro e w' ⟨rfl,n,os,rfl⟩;have b:=aaQ xs;have l:=Lib.ownsRow_putRow (q:=n) (k:=xs.length) (ys:=si xs) p b (dL _);rw[iE Ω]at l;obtain⟨M,Z,_⟩:=h.setRowM (w':=Sort.putRow (Value.int .i64) (Sort.ahead w n) g 0 (si xs).toArray) m rfl y (bl:=g) rfl (v':= .slice (some ⟨g,0,none⟩) xs.length cap) rfl (xs':=eZ (si xs)) (us:=(si xs).map (Value.int .i64)) (.inl ⟨by simp[eZ,b],rfl⟩) rfl rfl rfl
  (fun j Q=>by simp[Sort.putRow,Sort.mapBlock,Sort.ahead,Array.getElem?_modify,Ne.symm Q]) (by simp[Sort.putRow,Sort.mapBlock,Sort.ahead]) (by simpa[eZ,b]using l) (Wy _ _ _)
 have G:=M.grown (w':=Sort.grow (Sort.putRow (Value.int .i64) (Sort.ahead w n) g 0 (si xs).toArray) os) ⟨rfl,rfl,rfl,Ψ,fun k a _=>Sort.heap_grow_old _ _ a⟩;refine⟨_,_,_,_,.tuple [],n9 K (si xs),rfl,G,by simp[aU,c1],by simp[n9,lN],?_,?_,?_,(J3 K _).obj,by simp[az,aH],rfl,rfl⟩
 ·simp[n9,lN,aK,ad]
 ·intro k cs a;simp[n9,ad]at a
 ·intro k o a;have hm:=uQ a;simp[n9]at hm;obtain⟨rfl,rfl⟩:=hm;refine⟨by simp[n9,ad,cH,eZ,b],.inr (by simp[a]),fun ys x=>?_⟩;simp at x;subst x;exact uM _ _
def pE(l:List Int):List af:=kT (l.map fun x=>(x,.bool true))
def nQ(S:aA->Prop)(l:List Int):aH S (pE l):=by
 have:∀l:List Int,aH S (flat (l.map fun x=>(x,.bool true))):=by
  intro l;induction l with
  |nil=>simp[flat,aH]
  |cons x r a=>simp[flat,aH,a,az]
 simp[pE,kT,aH,this,az]
def Kg(v:Int)(l:List Int):List Int:=if v∈l then l else l++[v]
def QV(k:Int):∀l:List Int,qc k (.bool true) (l.map fun x=>(x,af.bool true))=if k∈l then some (l.map fun x=>(x,af.bool true))else none
 |[]=>rfl
 |i::r=>by
  by_cases h:k=i
  ·simp[qc,h]
  ·by_cases U:k∈r<;>simp[qc,h,U,QV k r]
@[simp]def avy(k:Int)(l:List Int):qF .i (aj k) (.bool true) (pE l)=some (pE (Kg k l)):=by
 simp only[pE,Yb,F5,QV,Kg];split<;>rename_i h
 ·split at h
  ·simp at h;subst h;simp[*]
  ·cases h
 ·split at h
  ·cases h
  ·simp[*]
@[simp]def asN:pE []=kT []:=rfl
@[simp]def avP(l:List Int):gR (pE l)=false:=rfl
@[simp]def avX(m:aA)(l:List Int):zO m (pE l)=some (cb l.length [] m):=by simp[pE]
def alB(f:aA->bc (List af))(gi mk:aA)(n:Nat)(seen:List Nat)(b:Nat)(l:List Int)(x:Int)(hi:f gi=some (cb n (seen++[b]) mk))(hm:f mk=some (pE l))(c:n=l.length)(a:l[b]? =some x):qD f (.ptr gi 0)=some (True,.tuple [aj x,.bool true]):=by rw[XN f gi mk n seen b _ hi hm (by simpa using c)];simp[a]
def aez{st:bo}{d:Nat}{K:bo->Prop}{gi mk:aA}{n:Nat}{seen:List Nat}{l:List Int}(hi:ad gi st.b=some (cb n seen mk))(hm:ad mk st.b=some (pE l))(g:n=l.length)
  (J:(∀b,b<l.length->b∈seen)->K {st with t:=Pv.put d (.tuple [.bool false]) st.t}) (U:∀b x,l[b]? =some x->b∉seen->K {st with t:=Pv.put d (.tuple [.bool true,aj x,.bool true]) st.t,b:=cH gi (cb n (seen++[b]) mk) st.b}):
  uo st d (.ptr gi 0) K:=by
 refine TY hi hm (by simpa using g) (fun h=>J fun b a=>h b Ω) (fun b k v a f=>?_);simp only[List.getElem?_map,hl]at a;obtain⟨x,e,c⟩:=a;simp only[jj]at c;obtain⟨rfl,rfl⟩:=c;exact U b x e f
def _root_.Go.Pv.T.fold{α:Type}(f:Int->α->α):T->α->α
 | .var n,a=>f n a
 | .pair x y,a=>y.fold f (x.fold f a)
 |_,a=>a
def UQ{α:Type}(S:α->cQ)(dC:∀a,eB (S a))(e9:∀a b,Same (S a) (S b))(g:Nat)(dE:List af)(aw:∀a,aH (aK (S a)) dE)(du:cf dE=dE)(f:Int->α->α)(l:∀v a,bD au g (aj v::dE) (S a) fun r e=>r= .tuple []/\e=S (f v a))(t:T):
  ∀a,bD au 134 [t.e,.func g dE] (S a) fun r e=>r= .tuple []/\e=S (t.fold f a):=by
 have c:∀a m,ad (.loc m) (S a).b=none:=fun a=>(dC a).obj.1;have hu:∀a m cs,cH (.loc m) cs (S a).b=(S a).b++[(.loc m,cs)]:=fun a m cs=>kH (c a m);have ar:∀a m,aA.loc m∉cI (S a):=fun a=>kE (dC a).obj;induction t with
 |pair x y k j=>intro a;have d:=dC a;refine bD.mk mixed a7 Tryz.func134 B2 Ψ d.obj fun i h=>?_;unfold yD;simp[hu,ar,c0,c,du];(repeat' first|refine aq ?_|simp[hu,ar,c0,c]);refine CallDo.ob (k a) d aW aW (by simp[aw]) ?_;rintro r e ⟨rfl,rfl⟩;refine⟨e9 _ _,?_⟩;simp[hM,jt,cJ,c];(repeat' first|refine aq ?_|simp[hu,ar,c0,c]);rw[du];refine CallDo.ob (j (x.fold f a)) (dC (x.fold f a)) aW aW (by simp[aw]) ?_;rintro r e ⟨rfl,rfl⟩;refine⟨e9 _ _,?_⟩;simp[hM,jt,cJ,c];refine c3.at (S (y.fold f (x.fold f a))) (.inr rfl) (dC _) (e9 _ _) aW aW ?_;simp[c9,ba,bd,a1];simp[T.fold]
 |var n=>intro a;have d:=dC a;refine bD.mk mixed a7 Tryz.func134 B2 Ψ d.obj fun i h=>?_;unfold yD;simp[hu,ar,c0,c,du];(repeat' first|refine aq ?_|simp[hu,ar,c0,c]);refine CallDo.ob (l n a) d aW aW (by simp[aw]) ?_;rintro r e ⟨rfl,rfl⟩;refine⟨e9 _ _,?_⟩;simp[hM,jt,cJ,c,c0];refine c3.at (S (f n a)) (.inr rfl) (dC _) (e9 _ _) aW aW ?_;simp[c9,ba,bd,a1];simp[T.fold]
 |_=>intro a;have d:=dC a;refine bD.mk mixed a7 Tryz.func134 B2 Ψ d.obj fun i h=>?_;unfold yD;simp[hu,ar,c0,c,du];(repeat' first|refine aq ?_|simp[hu,ar,c0,c]);refine c3.at (S a) (.inr rfl) d (Same.refl _) aW aW ?_;simp[c9,ba,bd,a1];simp[T.fold]
def vo(l:List Int):cQ:=⟨[(.obj 304,pE l)],[]⟩
def QD(l:List Int):eB (vo l):=by unfold vo;exact eB.of ⟨by intro m;simp[ad],by intro m;simp[ad]⟩ (by simp[nQ,aH,az,aK,ad]) Ψ
def Ku:C:=(aa [dc 1 0,bA 2 false] (.seq (.seq (.fz false 1 (.region [ay 6 1 1,da 7 158 6,cR 8 7])) (aZ 8 (aa [bA 2 false] .ret) .skip)) (.seq (aa [ay 9 1 1,cw 10 9,bQ 11 0] (gq 12 11 10 (.seq (.block 1 (aa [ck 13 5 9 11,bq 14 5 13,dR 4 kp,bW 5 4 14] (aa [dr (.alloc 5 (some 731) (.bool false)),dr (.store 1 (.t 5) (.c (.bool true)))] (aa [hk 15 1 4 4,bq 16 4 15,b9 17 (.mkf 159 [.t 1,.t 5]),cj 18 134 16 17] (aa [ay 19 1 5,cR 20 19,I 21 20,ax 21 false (hk 22 1 4 4),ax 21 false (aF 23 0 1 22),ax 21 false (ay 24 1 23),ax 21 false (aV 25 .eql 24 1),cd 21 false 26 25,ax 26 true (hk 27 1 4 4),ax 26 true (aF 28 1 1 27),ax 26 true (ay 29 1 28),ax 26 true (aF 30 0 1 4),ax 26 true (ay 31 1 30),ax 26 true (br 32 .geq 29 31),ax 21 false (ev 33 26 32),dq 34 21 33] (aZ 34 (aa [bA 2 false] .ret) .skip)))))) (.region [aV 35 .add 11 1,I 11 35])))) (aa [bA 2 true] .ret))))
def Kv:C:=(aa [ay 4 1 1,I 5 0,cj 6 139 4 5,aV 7 .geq 6 0] (aZ 7 (.region [dr (.store 1 (.t 2) (.c (.bool false)))]) .skip))
def Rm:C:=(aa [fw 4 5,bA 5 false] (.seq (aa [I 8 0,da 9 86 8,cR 10 9,I 11 10,cd 11 false 12 1,ax 11 false (da 13 86 12),ax 11 false (cR 14 13),dq 15 11 14] (aZ 15 (aa [fw 4 5,bA 5 false] .ret) .skip)) (aa [I 17 1,da 18 205 17,I 16 18,dm 19 0 16,dm 20 1 16,I 6 19,I 7 20] (aa [I 21 0,I 22 6,I 23 7,eg 24 186 [.t 21,.t 22,.t 23],dm 25 0 24,dm 26 1 24,I 4 25,I 5 26] .ret))))
def Rr:C:=(aa [fw 4 5] (.seq (aa [I 8 0,da 9 86 8,cR 10 9,I 11 10,cd 11 false 12 1,ax 11 false (da 13 86 12),ax 11 false (cR 14 13),dq 15 11 14] (aZ 15 (aa [fw 4 5] .ret) .skip)) (aa [fp 16 5 113 [],I 5 16] (.seq (aa [I 17 1,cw 18 17,bQ 19 0] (gq 20 19 18 (.seq (.block 1 (aa [ck 21 5 17 19,bq 22 5 21,dR 7 kp,bW 5 7 22] (aa [I 23 0,aF 24 0 1 7,ay 25 1 24,cj 26 139 23 25,aV 27 .lss 26 0] (aZ 27 (.drawn true 39 [I 28 5,aF 29 0 1 7,ay 30 1 29,hk 31 1 4 7,bq 32 4 31,da 33 143 32,j6 34 kp [(0,1,(.t 30)),(1,4,(.t 33))],fp 35 5 113 [.t 34],im 36 5 113 28 35,I 5 36]) .skip)))) (.region [aV 37 .add 19 1,I 19 37])))) (aa [I 38 5,I 4 38] .ret)))))
def RH:C:=(aa [fw 2 5] (aa [fp 6 5 113 [],I 3 6] (.seq (aa [I 7 0,cw 8 7,bQ 9 0] (gq 10 9 8 (.seq (.block 1 (aa [ck 11 5 7 9,bq 12 5 11,dR 5 kp,bW 5 5 12] (.drawn true 24 [I 13 3,aF 14 0 1 5,ay 15 1 14,hk 16 1 4 5,bq 17 4 16,da 18 143 17,j6 19 kp [(0,1,(.t 15)),(1,4,(.t 18))],fp 20 5 113 [.t 19],im 21 5 113 13 20,I 3 21]))) (.region [aV 22 .add 9 1,I 9 22])))) (aa [I 23 3,I 2 23] .ret))))
def Ky:C:=(aa [bA 4 false] (.seq (aa [I 6 0,cw 7 6,I 8 1,cw 9 8,br 10 .neq 7 9] (aZ 10 (aa [bA 4 false] .ret) .skip)) (.seq (aa [I 11 0,cw 12 11,bQ 13 0] (gq 14 13 12 (.seq (.block 1 (aa [I 15 13,I 5 15] (.seq (.drawn true 42 [I 16 0,I 17 5,ck 18 5 16 17,aF 19 0 1 18,ay 20 1 19,I 21 1,I 22 5,ck 23 5 21 22,aF 24 0 1 23,ay 25 1 24,br 26 .neq 20 25,I 27 26,cd 27 false 28 0,cd 27 false 29 5,ax 27 false (ck 30 5 28 29),ax 27 false (hk 31 1 4 30),ax 27 false (bq 32 4 31),cd 27 false 33 1,cd 27 false 34 5,ax 27 false (ck 35 5 33 34),ax 27 false (hk 36 1 4 35),ax 27 false (bq 37 4 36),ax 27 false (cj 38 142 32 37),ax 27 false (cR 39 38),dq 40 27 39]) (aZ 40 (aa [bA 4 false] .ret) .skip)))) (.region [aV 41 .add 13 1,I 13 41])))) (aa [bA 4 true] .ret))))
def RK:C:=(aa [fw 2 4,fw 3 4] (aa [fp 8 4 30 [],I 4 8] (aa [fp 9 4 30 [],I 5 9] (.seq (aa [I 10 0,cw 11 10,bQ 12 0] (gq 13 12 11 (.seq (.block 1 (aa [ck 14 5 10 12,bq 15 5 14,dR 7 kp,bW 5 7 15] (aa [I 16 4,aF 17 0 1 7,ay 18 1 17,da 19 116 18,fp 20 4 30 [.t 19],im 21 4 30 16 20,I 4 21] (.region [I 22 5,hk 23 1 4 7,bq 24 4 23,fp 25 4 30 [.t 24],im 26 4 30 22 25,I 5 26])))) (.region [aV 27 .add 12 1,I 12 27])))) (aa [I 28 4,I 29 5,I 2 28,I 3 29] .ret)))))
def RQ:C:=(aa [bQ 4 0] (.seq (aa [bQ 5 0] (.block 0 (.loop (.seq (aa [I 8 5,I 9 0,cw 10 9,br 11 .lss 8 10,I 12 11,cd 12 true 13 5,cd 12 true 14 1,ax 12 true (cw 15 14),ax 12 true (br 16 .lss 13 15),ev 17 12 16] (aZ 17 .skip (.exit 0))) (.seq (.block 1 (.seq (.seq (.drawn true 53 [I 20 0,I 21 5,ck 22 5 20 21,aF 23 0 1 22,ay 24 1 23,I 25 1,I 26 5,ck 27 5 25 26,aF 28 0 1 27,ay 29 1 28,cj 30 190 24 29,I 6 30]) (aa [I 31 6,aV 32 .neq 31 0] (aZ 32 (aa [I 33 6,I 4 33] .ret) .skip))) (.seq (.drawn true 53 [I 34 0,I 35 5,ck 36 5 34 35,hk 37 1 4 36,bq 38 4 37,I 39 1,I 40 5,ck 41 5 39 40,hk 42 1 4 41,bq 43 4 42,cj 44 133 38 43,I 7 44]) (aa [I 45 7,aV 46 .neq 45 0] (aZ 46 (aa [I 47 7,I 4 47] .ret) .skip))))) (.region [I 18 5,aV 19 .add 18 1,I 5 19])))))) (aa [I 48 0,cw 49 48,I 50 1,cw 51 50,cj 52 190 49 51,I 4 52] .ret)))
def RN:C:=(aa [bA 4 false] (.seq (aa [I 11 0,cw 12 11,bQ 13 0] (gq 14 13 12 (.seq (.block 1 (aa [ck 15 5 11 13,bq 16 5 15,dR 6 kp,bW 5 6 16] (aa [I 18 1,aF 19 0 1 6,ay 20 1 19,da 21 116 20,cj 22 69 18 21,I 17 22,dm 23 0 17,dm 24 1 17,dR 7 eE,bW 4 7 23,I 8 24] (aa [I 26 1,hk 27 1 4 6,bq 28 4 27,cj 29 69 26 28,I 25 29,dm 30 0 25,dm 31 1 25,dR 9 eE,bW 4 9 30,I 10 31] (aa [I 32 8,cR 33 32,I 34 33,cd 34 false 35 10,ax 34 false (cR 36 35),dq 37 34 36,I 38 37,ax 38 false (bq 39 4 7),ax 38 false (bq 40 4 9),ax 38 false (cj 41 142 39 40),ax 38 false (cR 42 41),dq 43 38 42] (aZ 43 (aa [bA 4 false] .ret) .skip)))))) (.region [aV 44 .add 13 1,I 13 44])))) (aa [bA 4 true] .ret)))
def Yp:b6 aS Ku [.tmp 2] 1 Tryz.f86=true:=bi
def Yq:b6 aS Kv [] 3 Tryz.f159=true:=bi
def amw:b6 aS Rm [.tmp 4,.tmp 5] 2 Tryz.f165=true:=bi
def amB:b6 aS Rr [.tmp 4] 2 Tryz.f166=true:=bi
def amR:b6 aS RH [.tmp 2] 1 Tryz.f168=true:=bi
def Yt:b6 aS Ky [.tmp 4] 2 Tryz.f169=true:=bi
def amU:b6 aS RK [.tmp 2,.tmp 3] 1 Tryz.f205=true:=bi
def am0:b6 aS RQ [.tmp 4] 2 Tryz.f207=true:=bi
def amX:b6 aS RN [.tmp 4] 2 Tryz.f208=true:=bi
def R0:C:=(aa [dR 2 eE] (aa [I 3 0,j6 4 eE [(0,1,(gP 1)),(1,1,(.t 3))],bW 4 2 4] .ret))
def RO:C:=(aa [b9 0 (.mov (.c (.nilp)))] (aa [dr (.mkmap 1 (some 702)),dr (.mkmap 2 (some 703)),dr (.mkmap 3 (some 704)),dr (.mkmap 4 (some 705)),dr (.mkmap 5 (some 706)),dr (.mkmap 6 (some 707)),b9 7 (.build [.junk,.junk,.junk,.junk,.junk,.junk] [(0,1,(.t 1)),(1,1,(.t 2)),(2,1,(.t 3)),(3,1,(.t 4)),(4,1,(.t 5)),(5,1,(.t 6))]),dc 8 7,I 0 8] (.fz true 0 .ret)))
def RD:C:=(aa [bQ 4 0] (.seq (aa [I 8 0,gp 9 8,aF 10 0 1 9,ay 11 1 10,I 12 1,b9 13 (.mget .i (.int .i64 0) true (.t 11) (.t 12)),I 7 13,dm 14 0 7,dm 15 1 7,I 5 14,I 6 15] (aa [I 16 6,cR 17 16] (aZ 17 (.region [I 18 0,gp 19 18,aF 20 0 1 19,ay 21 1 20,I 22 1,I 23 1,dr (.mput .i (.t 21) (.t 22) (.t 23))]) .skip))) (.seq (.block 0 (.loop (.seq (aa [I 24 0,gp 25 24,aF 26 0 1 25,ay 27 1 26,I 28 1,b9 29 (.mget .i (.int .i64 0) false (.t 27) (.t 28)),I 30 1,br 31 .neq 29 30] (aZ 31 .skip (.exit 0))) (.block 1 (.seq (.drawn true 55 [I 32 0,gp 33 32,aF 34 0 1 33,ay 35 1 34,I 36 1,I 37 0,gp 38 37,aF 39 0 1 38,ay 40 1 39,I 41 0,gp 42 41,aF 43 0 1 42,ay 44 1 43,I 45 1,b9 46 (.mget .i (.int .i64 0) false (.t 44) (.t 45)),b9 47 (.mget .i (.int .i64 0) false (.t 40) (.t 46)),dr (.mput .i (.t 35) (.t 36) (.t 47))]) (.region [I 48 0,gp 49 48,aF 50 0 1 49,ay 51 1 50,I 52 1,b9 53 (.mget .i (.int .i64 0) false (.t 51) (.t 52)),I 1 53])))))) (aa [I 54 1,I 4 54] .ret))))
def Rz:C:=(aa [dc 2 0,dc 3 1] (.fz false 2 (.region [bq 4 4 3,b9 5 (.mkf 245 [.t 2]),cj 6 134 4 5])))
def wT:C:=(aa [dc 4 1,dc 5 2,bA 6 false] (.seq (.block 0 (aa [aF 12 0 1 4,ay 13 1 12,aV 14 .eql 13 1,I 15 14,ax 15 true (aF 16 0 1 5),ax 15 true (ay 17 1 16),ax 15 true (aV 18 .eql 17 1),ev 19 15 18,I 11 19] (aZ 11 (aa [I 20 0,aF 21 1 1 4,ay 22 1 21,cj 23 216 20 22,I 7 23] (aa [I 24 0,aF 25 1 1 5,ay 26 1 25,cj 27 216 24 26,I 8 27] (.seq (aa [I 28 7,I 29 8,br 30 .eql 28 29] (aZ 30 (aa [bA 6 true] .ret) .skip)) (.seq (aa [I 31 8,I 32 7,br 33 .lss 31 32] (aZ 33 (.region [I 34 8,I 35 7,I 7 34,I 8 35]) .skip)) (aa [I 36 0,gp 37 36,aF 38 0 1 37,ay 39 1 38,I 40 8,I 41 7,dr (.mput .i (.t 39) (.t 40) (.t 41))] (.seq (aa [I 42 0,gp 43 42,aF 44 2 1 43,ay 45 1 44,I 46 8,b9 47 (.mget .i (.bool false) false (.t 45) (.t 46)),cR 48 47] (aZ 48 (aa [I 49 0,gp 50 49,aF 51 2 1 50,ay 52 1 51,I 53 7,b9 54 (.mget .i (.bool false) false (.t 52) (.t 53)),cR 55 54,I 56 55,cd 56 false 57 0,cd 56 false 58 0,ax 56 false (gp 59 58),ax 56 false (aF 60 1 1 59),ax 56 false (ay 61 1 60),cd 56 false 62 7,ym 56 false 63 (.mget .i (.agg eE) false (.t 61) (.t 62)),cd 56 false 64 7,ys 56 false (.mkmap 65 (some 715)),ax 56 false (eg 66 246 [.t 57,.t 63,.t 64,.t 65]),ax 56 false (cR 67 66),dq 68 56 67,I 6 68] .ret) .skip)) (aa [I 69 0,gp 70 69,aF 71 1 1 70,ay 72 1 71,I 73 8,b9 74 (.mget .i (.agg eE) false (.t 72) (.t 73)),dR 9 eE,bW 4 9 74] (.seq (aa [I 75 0,gp 76 75,aF 77 2 1 76,ay 78 1 77,I 79 7,b9 80 (.mget .i (.bool false) false (.t 78) (.t 79)),cR 81 80] (aZ 81 (aa [I 82 0,I 83 7,bq 84 4 9,eg 85 247 [.t 82,.t 83,.t 84],I 6 85] .ret) .skip)) (.seq (.drawnW [715,716] 198 [I 86 0,bq 87 4 9,I 88 7,dr (.mkmap 89 (some 715)),eg 90 246 [.t 86,.t 87,.t 88,.t 89],cR 91 90,I 92 91,cd 92 true 93 0,cd 92 true 94 0,ax 92 true (gp 95 94),ax 92 true (aF 96 1 1 95),ax 92 true (ay 97 1 96),cd 92 true 98 7,ym 92 true 99 (.mgetB .i (.agg eE) false (.t 97) (.t 98)),cd 92 true 100 7,ys 92 true (.mkmap 101 (some 716)),ax 92 true (eg 102 246 [.t 93,.t 99,.t 100,.t 101]),ax 92 true (cR 103 102),ev 104 92 103,I 105 104,cd 105 true 106 0,cd 105 true 107 0,ax 105 true (gp 108 107),ax 105 true (aF 109 1 1 108),ax 105 true (ay 110 1 109),cd 105 true 111 7,ym 105 true 112 (.mgetB .i (.agg eE) false (.t 110) (.t 111)),ax 105 true (bq 113 4 9),ax 105 true (eg 114 218 [.t 106,.t 112,.t 113]),ev 115 105 114,I 6 115]) .ret))))))))) (aa [aF 117 0 1 4,ay 118 1 117,aV 119 .eql 118 1,I 116 119] (aZ 116 (aa [I 120 0,aF 121 1 1 4,ay 122 1 121,cj 123 216 120 122,I 10 123] (.seq (aa [I 124 0,gp 125 124,aF 126 2 1 125,ay 127 1 126,I 128 10,b9 129 (.mget .i (.bool false) false (.t 127) (.t 128)),cR 130 129] (aZ 130 (aa [I 131 0,I 132 10,bq 133 4 5,eg 134 247 [.t 131,.t 132,.t 133],I 6 134] .ret) .skip)) (.seq (.drawn false 198 [I 135 0,I 136 0,gp 137 136,aF 138 1 1 137,ay 139 1 138,I 140 10,b9 141 (.mgetB .i (.agg eE) false (.t 139) (.t 140)),bq 142 4 5,eg 143 218 [.t 135,.t 141,.t 142],I 6 143]) .ret))) (aa [aF 145 0 1 5,ay 146 1 145,aV 147 .eql 146 1,I 144 147] (aZ 144 (aa [I 148 0,bq 149 4 5,bq 150 4 4,eg 151 218 [.t 148,.t 149,.t 150],I 6 151] .ret) (aa [aF 153 0 1 4,ay 154 1 153,aF 155 0 1 5,ay 156 1 155,br 157 .neq 154 156,I 158 157,ax 158 false (aF 159 1 1 4),ax 158 false (ay 160 1 159),ax 158 false (aF 161 1 1 5),ax 158 false (ay 162 1 161),ax 158 false (br 163 .neq 160 162),dq 164 158 163,I 165 164,ax 165 false (aF 166 2 1 4),ax 165 false (ay 167 1 166),ax 165 false (aF 168 2 1 5),ax 165 false (ay 169 1 168),ax 165 false (br 170 .neq 167 169),dq 171 165 170,I 152 171] (aZ 152 (aa [bA 6 false] .ret) (aa [aF 173 0 1 4,ay 174 1 173,aV 175 .eql 174 4,I 172 175] (aZ 172 (.seq (.drawn false 198 [I 176 0,aF 177 3 1 4,ay 178 1 177,ku 179 4 178 0,bq 180 4 179,aF 181 3 1 5,ay 182 1 181,ku 183 4 182 0,bq 184 4 183,eg 185 218 [.t 176,.t 180,.t 184],I 186 185,cd 186 true 187 0,ax 186 true (aF 188 3 1 4),ax 186 true (ay 189 1 188),ax 186 true (ku 190 4 189 1),ax 186 true (bq 191 4 190),ax 186 true (aF 192 3 1 5),ax 186 true (ay 193 1 192),ax 186 true (ku 194 4 193 1),ax 186 true (bq 195 4 194),ax 186 true (eg 196 218 [.t 187,.t 191,.t 195]),ev 197 186 196,I 6 197]) .ret) .skip))))))))))) (aa [bA 6 true] .ret)))
def RA:C:=(.region [ay 3 1 1,I 4 0,cj 5 216 3 4])
def RB:C:=(aa [dc 4 0,dc 5 1,dc 6 2,dc 7 3,bA 8 false] (aa [dr (.alloc 9 (some 712) (.bool false)),dr (.store 1 (.t 9) (.c (.bool false)))] (.seq (.fz false 7 (.fz false 6 (.fz false 4 (.region [bq 10 4 5,b9 11 (.mkf 257 [.t 4,.t 9,.t 6,.t 7]),cj 12 134 10 11])))) (aa [ay 13 1 9,I 8 13] .ret))))
def Ry:C:=(aa [dc 5 2,bA 6 false] (.seq (.drawn true 24 [I 7 0,gp 8 7,aF 9 1 1 8,ay 10 1 9,I 11 1,bq 12 4 5,dr (.mput .i (.t 10) (.t 11) (.t 12))]) (aa [I 13 0,gp 14 13,aF 15 2 1 14,ay 16 1 15,I 17 1,dr (.mput .i (.t 16) (.t 17) (.c (.bool true)))] (aa [I 18 0,bq 19 4 5,I 20 1,dr (.mkmap 21 (some 715)),eg 22 246 [.t 18,.t 19,.t 20,.t 21],cR 23 22,I 6 23] .ret))))
def Ax:C:=(aa [dc 2 0,bA 4 false] (.seq (.seq (.fz false 2 (.region [ay 6 1 2,gp 7 6,aF 8 3 1 7,ay 9 1 8,I 10 1,b9 11 (.mget .i (.int .i64 0) false (.t 9) (.t 10)),aV 12 .eql 11 2])) (aZ 12 (aa [bA 4 true] .ret) .skip)) (.seq (aa [ay 13 1 2,gp 14 13,aF 15 3 1 14,ay 16 1 15,I 17 1,b9 18 (.mget .i (.int .i64 0) false (.t 16) (.t 17)),aV 19 .eql 18 1] (aZ 19 (aa [bA 4 false] .ret) .skip)) (aa [ay 20 1 2,gp 21 20,aF 22 3 1 21,ay 23 1 22,I 24 1,dr (.mput .i (.t 23) (.t 24) (gP 1))] (aa [ay 25 1 2,gp 26 25,aF 27 4 1 26,ay 28 1 27,I 29 1,dr (.mput .i (.t 28) (.t 29) (gP 1))] (.seq (aa [ay 30 1 2,gp 31 30,aF 32 2 1 31,ay 33 1 32,I 34 1,b9 35 (.mget .i (.bool false) false (.t 33) (.t 34))] (aZ 35 (aa [dr (.alloc 5 (some 712) (.bool false)),dr (.store 1 (.t 5) (.c (.bool true)))] (aa [ay 36 1 2,gp 37 36,aF 38 1 1 37,ay 39 1 38,I 40 1,b9 41 (.mget .i (.agg eE) false (.t 39) (.t 40)),b9 42 (.mkf 258 [.t 5,.t 2]),cj 43 134 41 42] (.seq (aa [ay 44 1 5,cR 45 44] (aZ 45 (aa [bA 4 false] .ret) .skip)) (.drawn false 64 [ay 46 1 2,gp 47 46,aF 48 4 1 47,ay 49 1 48,I 50 1,ay 51 1 2,gp 52 51,aF 53 1 1 52,ay 54 1 53,I 55 1,b9 56 (.mgetB .i (.agg eE) false (.t 54) (.t 55)),b9 57 (.mkf 259 [.t 2]),cj 58 192 56 57,dr (.mput .i (.t 49) (.t 50) (.t 58))])))) .skip)) (aa [ay 59 1 2,gp 60 59,aF 61 3 1 60,ay 62 1 61,I 63 1,dr (.mput .i (.t 62) (.t 63) (gP 2))] (aa [bA 4 true] .ret))))))))
def Ge:C:=(aa [dc 2 0,dR 4 eE] (.seq (.seq (.fz false 2 (.region [ay 9 1 2,gp 10 9,aF 11 5 1 10,ay 12 1 11,I 13 1,b9 14 (.mget .i (.agg eE) true (.t 12) (.t 13)),I 8 14,dm 15 0 8,dm 16 1 8,dR 5 eE,bW 4 5 15,I 6 16])) (aa [I 17 6] (aZ 17 (aa [bq 18 4 5,bW 4 4 18] .ret) .skip))) (aa [I 19 1,da 20 116 19,dR 7 eE,bW 4 7 20] (.seq (aa [ay 21 1 2,gp 22 21,aF 23 2 1 22,ay 24 1 23,I 25 1,b9 26 (.mget .i (.bool false) false (.t 24) (.t 25))] (aZ 26 (.region [ay 27 1 2,gp 28 27,aF 29 1 1 28,ay 30 1 29,I 31 1,b9 32 (.mget .i (.agg eE) false (.t 30) (.t 31)),b9 33 (.mkf 260 [.t 2]),cj 34 194 32 33,bW 4 7 34]) .skip)) (.seq (.drawn true 42 [ay 35 1 2,gp 36 35,aF 37 5 1 36,ay 38 1 37,I 39 1,bq 40 4 7,dr (.mput .i (.t 38) (.t 39) (.t 40))]) (aa [bq 41 4 7,bW 4 4 41] .ret))))))
def RC:C:=(aa [ay 7 1 1,I 8 0,cj 9 216 7 8,I 6 9] (.seq (aa [ay 10 1 2,I 11 10,cd 11 false 12 6,ax 11 false (ay 13 1 3),ax 11 false (br 14 .eql 12 13),dq 15 11 14] (aZ 15 (aa [dr (.store 1 (.t 2) (.c (.bool true)))] .ret) .skip)) (aa [ay 16 1 4,I 17 6,b9 18 (.mget .i (.bool false) false (.t 16) (.t 17)),cR 19 18,I 20 19,ax 20 true (ay 21 1 1),ax 20 true (gp 22 21),ax 20 true (aF 23 2 1 22),ax 20 true (ay 24 1 23),cd 20 true 25 6,ax 20 true (b9 26 (.mget .i (.bool false) false (.t 24) (.t 25))),ev 27 20 26] (aZ 27 (aa [ay 28 1 4,I 29 6,dr (.mput .i (.t 28) (.t 29) (.c (.bool true)))] (.drawn false 40 [ay 30 1 1,ay 31 1 1,gp 32 31,aF 33 1 1 32,ay 34 1 33,I 35 6,b9 36 (.mgetB .i (.agg eE) false (.t 34) (.t 35)),ay 37 1 3,ay 38 1 4,eg 39 246 [.t 30,.t 36,.t 37,.t 38],bW 1 2 39])) .skip))))
def Kx:C:=(.seq (.drawn false 13 [b9 4 (.loadB false 1 (.t 1)),I 5 4,ax 5 true (ay 6 1 2),ax 5 true (ay 7 1 2),cd 5 true 8 0,ax 5 true (cj 9 216 7 8),ax 5 true (cj 10 248 6 9),ax 5 true (cR 11 10),ev 12 5 11]) (aZ 12 (.region [dr (.store 1 (.t 1) (.c (.bool false)))]) .skip))
def RG:C:=(aa [bQ 3 0] (.seq (.drawn false 12 [ay 4 1 1,gp 5 4,aF 6 4 1 5,ay 7 1 6,ay 8 1 1,I 9 0,cj 10 216 8 9,b9 11 (.mgetB .i (.int .i64 0) false (.t 7) (.t 10)),I 3 11]) .ret))
def RF:C:=(aa [dR 3 eE,bA 4 false] (.seq (.drawn false 10 [ay 5 1 1,ay 6 1 1,I 7 0,cj 8 216 6 7,cj 9 249 5 8,bW 4 3 9,bA 4 true]) .ret))
def ana:b6 aS R0 [.cell 2 true 4] 1 Tryz.f116=true:=bi
def amY:b6 aS RO [.tmp 0] 0 Tryz.f215=true:=bi
def amN:b6 aS RD [.tmp 4] 2 Tryz.f216=true:=bi
def amJ:b6 aS Rz [] 2 Tryz.f217=true:=bi
def zE:b6 aS wT [.tmp 6] 3 Tryz.f218=true:=bi
def amK:b6 aS RA [] 2 Tryz.f245=true:=bi
def amL:b6 aS RB [.tmp 8] 4 Tryz.f246=true:=bi
def amI:b6 aS Ry [.tmp 6] 3 Tryz.f247=true:=bi
def EJ:b6 aS Ax [.tmp 4] 2 Tryz.f248=true:=bi
def Om:b6 aS Ge [.cell 4 true 4] 2 Tryz.f249=true:=bi
def amM:b6 aS RC [] 5 Tryz.f257=true:=bi
def Ys:b6 aS Kx [] 3 Tryz.f258=true:=bi
def amQ:b6 aS RG [.tmp 3] 2 Tryz.f259=true:=bi
def amP:b6 aS RF [.cell 3 true 4,.tmp 4] 2 Tryz.f260=true:=bi
end
section
open Go Go.Pv
section
variable {α:Type} (S:α->cQ) (dC:∀a,eB (S a)) (e9:∀a b,Same (S a) (S b)) (g:Nat) (dE:List af) (aw:∀a,aH (aK (S a)) dE) (du:cf dE=dE)
include dC e9 aw du in
theorem UR(e:α->Prop)(f:Int->α->bc α)(o:∀v a bs,e a->f v a=some bs->e bs/\bD au g (aj v::dE) (S a) fun r d=>r= .tuple []/\d=S bs)(t:T):
  ∀a bs,e a->t.foldO f a=some bs->e bs/\bD au 134 [t.e,.func g dE] (S a) fun r d=>r= .tuple []/\d=S bs:=by
 have b:∀a m,ad (.loc m) (S a).b=none:=fun a=>(dC a).obj.1;have hu:∀a m cs,cH (.loc m) cs (S a).b=(S a).b++[(.loc m,cs)]:=fun a m cs=>kH (b a m);have ar:∀a m,aA.loc m∉cI (S a):=fun a=>kE (dC a).obj;induction t with
 |pair x y l k=>intro a bs hi he;have c:=dC a;simp only[T.foldO,n4]at he;obtain⟨h,J,U⟩:=he;obtain⟨i1,g1⟩:=l a h hi J;obtain⟨i2,g2⟩:=k h bs i1 U;refine⟨i2,?_⟩;refine bD.mk mixed a7 Tryz.func134 B2 Ψ c.obj fun j i=>?_;unfold yD;simp[hu,ar,c0,b,du];(repeat' first|refine aq ?_|simp[hu,ar,c0,b]);refine CallDo.ob g1 c aW aW (by simp[aw]) ?_;rintro r d ⟨rfl,rfl⟩;refine⟨e9 _ _,?_⟩;simp[hM,jt,cJ,b];(repeat' first|refine aq ?_|simp[hu,ar,c0,b]);rw[du];refine CallDo.ob g2 (dC h) aW aW (by simp[aw]) ?_;rintro r d ⟨rfl,rfl⟩;refine⟨e9 _ _,?_⟩;simp[hM,jt,cJ,b];refine c3.at (S bs) (.inr rfl) (dC _) (e9 _ _) aW aW ?_;simp[c9,ba,bd,a1]
 |var n=>intro a bs hi he;have c:=dC a;simp only[T.foldO]at he;obtain⟨i1,g1⟩:=o n a bs hi he;refine⟨i1,?_⟩;refine bD.mk mixed a7 Tryz.func134 B2 Ψ c.obj fun j i=>?_;unfold yD;simp[hu,ar,c0,b,du];(repeat' first|refine aq ?_|simp[hu,ar,c0,b]);refine CallDo.ob g1 c aW aW (by simp[aw]) ?_;rintro r d ⟨rfl,rfl⟩;refine⟨e9 _ _,?_⟩;simp[hM,jt,cJ,b,c0];refine c3.at (S bs) (.inr rfl) (dC _) (e9 _ _) aW aW ?_;simp[c9,ba,bd,a1]
 |_=>intro a bs hi he;have c:=dC a;simp only[T.foldO,dS]at he;subst he;refine⟨hi,?_⟩;refine bD.mk mixed a7 Tryz.func134 B2 Ψ c.obj fun j i=>?_;unfold yD;simp[hu,ar,c0,b,du];(repeat' first|refine aq ?_|simp[hu,ar,c0,b]);refine c3.at (S a) (.inr rfl) c (Same.refl _) aW aW ?_;simp[c9,ba,bd,a1]
include dC e9 aw du in
theorem LL(f:Int->α->bc α)(c:∀v a bs,f v a=some bs->bD au g (aj v::dE) (S a) fun r b=>r= .tuple []/\b=S bs)(t:T)(a bs:α)(h:t.foldO f a=some bs):bD au 134 [t.e,.func g dE] (S a) fun r b=>r= .tuple []/\b=S bs:=(UR S dC e9 g dE aw du (fun _=>True) f (fun v a bs _ h=>⟨trivial,c v a bs h⟩) t a bs trivial h).2
include dC e9 aw du in
theorem ah2(f:Int->α->bc (T×α))(s:∀v a p,f v a=some p->bD au g (aj v::dE) (S a) fun r h=>r= .tuple [p.1.e,.bool true]/\h=S p.2)(t:T):
  ∀a p,t.mapO f a=some p->bD au 194 [t.e,.func g dE] (S a) fun r h=>r=p.1.e/\h=S p.2:=by
 have b:∀a m,ad (.loc m) (S a).b=none:=fun a=>(dC a).obj.1;have j:∀a m,ad (.loc m) (S a).e=none:=fun a=>(dC a).obj.2;have hu:∀a m cs,cH (.loc m) cs (S a).b=(S a).b++[(.loc m,cs)]:=fun a m cs=>kH (b a m);have ar:∀a m,aA.loc m∉cI (S a):=fun a=>kE (dC a).obj;have c:∀a m p r,cH (.loc m) p ((S a).b++r)=(S a).b++cH (.loc m) p r:=fun a m p r=>CC (b a m);induction t with
 |pair x y q o=>intro a p he;have d:=dC a;simp only[T.mapO,n4,hl]at he;obtain⟨e,J,i,U,rfl⟩:=he;refine bD.mk mixed a7 Tryz.func194 B3 Ψ d.obj fun l k=>?_;unfold yE;simp[hu,ar,c0,b,j,du,c];(repeat' first|refine aq ?_|simp[hu,ar,c0,b,j,c]);refine hn.ob (q a e J) d (dC e.2) (e9 _ _) aW aW (by simp[aw]) ?_;simp[hM,jt,cJ,b,du];(repeat' first|refine aq ?_|simp[hu,ar,c0,b,j,c]);refine hn.ob (o e.2 i U) (dC e.2) (dC i.2) (e9 _ _) aW aW (by simp[aw,du]) ?_;simp[hM,jt,cJ,b,du];(repeat' first|refine aq ?_|refine aP (JO _ _) ?_|refine aQ (JO _ _) ?_|simp[c0,b,c]);refine c3.at (S i.2) (.inl rfl) (dC _) (e9 _ _) aW aW ?_;simp[c9,ba,bd,a1,c0,b]
 |var n=>
  intro a p he;have d:=dC a;simp only[T.mapO]at he;refine bD.mk mixed a7 Tryz.func194 B3 Ψ d.obj fun l k=>?_;unfold yE;simp[hu,ar,c0,b,du,c];(repeat' first|refine aq ?_|simp[hu,ar,c0,b,c]);refine CallDo.ob (s n a p he) d aW aW (by simp[aw]) ?_;rintro r h ⟨rfl,rfl⟩;refine⟨e9 _ _,?_⟩;simp[hM,jt,cJ,b,hu,ar,c0];(repeat' first|refine aq ?_|refine aP (yi _) ?_|refine aQ (yi _) ?_|simp[hu,ar,c0,b,c]);all_goals refine c3.at (S p.2) (.inl rfl) (dC _) (e9 _ _) aW aW ?_
  all_goals simp[c9,ba,bd,a1,c0,b]
 |_=>intro a p he;have d:=dC a;simp only[T.mapO,dS]at he;subst he;refine bD.mk mixed a7 Tryz.func194 B3 Ψ d.obj fun l k=>?_;unfold yE;simp[hu,ar,c0,b,du,c];(repeat' first|refine aq ?_|simp[hu,ar,c0,b,c]);refine c3.at (S a) (.inl rfl) d (Same.refl _) aW aW ?_;simp[c9,ba,bd,a1,c0,b]
include dC e9 aw du in
theorem aio(i:α->Prop)(f:Int->α->bc (Int×α))(A:∀v a p,i a->f v a=some p->i p.2/\0<=p.1/\p.1<=1000000)(z:∀v a p,i a->f v a=some p->bD au g (aj v::dE) (S a) fun r e=>r=aj p.1/\e=S p.2)(t:T):
  ∀a p,i a->t.sizeO f a=some p->i p.2/\(0<=p.1/\p.1<=5001)/\bD au 192 [t.e,.func g dE] (S a) fun r e=>r=aj p.1/\e=S p.2:=by
 have b:∀a m,ad (.loc m) (S a).b=none:=fun a=>(dC a).obj.1;have hu:∀a m cs,cH (.loc m) cs (S a).b=(S a).b++[(.loc m,cs)]:=fun a m cs=>kH (b a m);have ar:∀a m,aA.loc m∉cI (S a):=fun a=>kE (dC a).obj;induction t with
 |pair x y s q=>
  intro a p hi he;have c:=dC a;simp only[T.sizeO,n4]at he;obtain⟨d,J,U⟩:=he;obtain⟨i1,u,g1⟩:=s a d hi J;by_cases o:5000<d.1
  ·rw[if_pos o]at U;cases U;refine⟨i1,u,?_⟩;refine bD.mk mixed a7 Tryz.func192 zF Ψ c.obj fun k j=>?_;unfold wU;simp[hu,ar,c0,b,du];(repeat' first|refine aq ?_|simp[hu,ar,c0,b]);refine CallDo.ob g1 c aW aW (by simp[aw]) ?_;rintro r e ⟨rfl,rfl⟩;refine⟨e9 _ _,?_⟩;simp[hM,jt,cJ,b];((with_reducible repeat' first|((first|apply cu|apply cy|apply cx)<;>intro h<;>try simp at h)|refine aq ?_|simp[hu,ar,c0,b])<;>(try contradiction));all_goals first|omega|(refine c3.at (S p.2) (.inl rfl) (dC _) (e9 _ _) aW aW ?_;simp[c9,ba,bd,a1])
  ·rw[if_neg o,hl]at U;obtain⟨l,U,rfl⟩:=U;obtain⟨i2,B,g2⟩:=q d.2 l i1 U;refine⟨i2,by simp only;split<;>omega,?_⟩;refine bD.mk mixed a7 Tryz.func192 zF Ψ c.obj fun k j=>?_;unfold wU;simp[hu,ar,c0,b,du];(with_reducible repeat' first|((first|apply cu|apply cy|apply cx)<;>intro h<;>try simp at h)|refine aq ?_|simp[hu,ar,c0,b]);refine CallDo.ob g1 c aW aW (by simp[aw]) ?_;rintro r e ⟨rfl,rfl⟩;refine⟨e9 _ _,?_⟩;simp[hM,jt,cJ,b];((repeat' first|refine aq ?_|simp[hu,ar,c0,b]|((first|apply cu|apply cy|apply cx)<;>intro h<;>try simp at h))<;>(try exact c4));all_goals first|omega|skip
   rw[du];refine CallDo.ob g2 (dC d.2) aW aW (by simp[aw]) ?_;rintro r s2 ⟨rfl,rfl⟩;refine⟨e9 _ _,?_⟩;simp[hM,jt,cJ,b];(repeat' first|refine aq ?_|simp[hu,ar,c0,b]);refine c3.at (S l.2) (.inl rfl) (dC _) (e9 _ _) aW aW ?_;simp[c9,ba,bd,a1]
 |var n=>intro a p hi he;have c:=dC a;simp only[T.sizeO,hl]at he;obtain⟨d,J,rfl⟩:=he;have w:=A n a d hi J;refine⟨w.1,by simp only;split<;>omega,?_⟩;refine bD.mk mixed a7 Tryz.func192 zF Ψ c.obj fun k j=>?_;unfold wU;simp[hu,ar,c0,b,du];(repeat' first|refine aq ?_|simp[hu,ar,c0,b]);refine CallDo.ob (z n a d hi J) c aW aW (by simp[aw]) ?_;rintro r e ⟨rfl,rfl⟩;refine⟨e9 _ _,?_⟩;simp[hM,jt,cJ,b];refine c3.at (S d.2) (.inl rfl) (dC _) (e9 _ _) aW aW ?_;simp[c9,ba,bd,a1]
 |_=>intro a p hi he;have c:=dC a;simp only[T.sizeO,dS]at he;subst he;refine⟨hi,Ψ,?_⟩;refine bD.mk mixed a7 Tryz.func192 zF Ψ c.obj fun k j=>?_;unfold wU;simp[hu,ar,c0,b,du];(repeat' first|refine aq ?_|simp[hu,ar,c0,b]);refine c3.at (S a) (.inl rfl) c (Same.refl _) aW aW ?_;simp[c9,ba,bd,a1]
end
end
end Go.Proofs.YtahlgcidhnjlbaaGreat
namespace Go.Pv
section
open Go Go.RowKit
section
variable {P:cG} {ob:List aA} {st:bo} {Q:Exit->bo->Prop} {c:C} {α:Type}
def eY(b:List Nat)(cs:Nat->α->List (Nat×af))(n:Nat)(d:Nat->α->Prop)(a0:α)(hw:gk ob st (qE st b (cs 0 a0)))(g:d 0 a0)(e:∀a,d n a->(∀i,eU (get i (qE st b (cs n a)).t))->dd P ob c (bV ob (Ah (fun i a=>qE st b (cs i a)) n d) 0 Q) (qE st b (cs n a)))
  (f:∀i a,i<n->d i a->(∀j,eU (get j (qE st b (cs i a)).t))->dd P ob c (bV ob (Ah (fun i a=>qE st b (cs i a)) n d) (n-i) Q) (qE st b (cs i a))):dd P ob (.loop c) Q st:=
 fX (fun i a=>qE st b (cs i a)) n d a0 hw g e f
def w2(b:List Nat)(cs:α->List (Nat×af))(μ:α->Nat)(d:α->Prop)(a0:α)(hw:gk ob st (qE st b (cs a0)))(f:d a0)
  (e:∀a,d a->(∀j,eU (get j (qE st b (cs a)).t))->dd P ob c (bV ob (CM (fun a=>qE st b (cs a)) μ d) (μ a) Q) (qE st b (cs a))):dd P ob (.loop c) Q st:=
 oY (fun a=>qE st b (cs a)) μ d a0 hw f e
end
attribute [simp] alY
end
end Go.Pv
namespace Go.Proofs.YtahlgcidhnjlbaaGreat
section
open Go Go.Pv
def NF{α β:Type}(k:aA):∀{l:List (aA×α)} {a:List (aA×β)},l.map (·.1)=a.map (·.1)->(ad k l).isSome=(ad k a).isSome
 |[],[],_=>rfl
 |[],_::_,h=>by simp at h
 |_::_,[],h=>by simp at h
 |(i,x)::r,(j,y)::b,h=>by
  simp only[hc,rD]at h;simp only[ad];obtain⟨rfl,h⟩:=h;split
  ·rfl
  ·exact NF k h
def _root_.Go.Pv.Same.keys{s a:cQ}(b:s.b.map (·.1)=a.b.map (·.1))(he:s.e.map (·.1)=a.e.map (·.1)):Same s a:=⟨fun k=>NF k b,fun k=>NF k he⟩
section
variable {α:Type} (e:α->af)
def tq(l:List (Int×α)):List af:=kT (l.map fun x=>(x.1,e x.2))
def QQ(k:Int):∀l:List (Int×α),yz k (l.map fun x=>(x.1,e x.2))=(dn k l).map e
 |[]=>rfl
 |(i,v)::r=>by
  simp only[hc,yz,dn];split
  ·rfl
  ·exact QQ k r
def QX(k:Int)(v:α):∀l:List (Int×α),qc k (e v) (l.map fun x=>(x.1,e x.2))=if(dn k l).isSome then some ((fy k v l).map fun x=>(x.1,e x.2))else none
 |[]=>rfl
 |(i,w)::r=>by
  simp only[hc,qc,dn,fy];by_cases h:k=i
  ·subst h;simp
  ·simp only[h,if_false,QX k v r];cases (dn k r).isSome<;>simp
def abw{k:Int}{v:α}:∀{l:List (Int×α)},dn k l=none->fy k v l=l++[(k,v)]
 |[],_=>rfl
 |(i,w)::r,h=>by
  simp only[dn]at h;split at h
  ·cases h
  ·rename_i a;simp[fy,a,abw h]
def NZ(k:Int)(v:α)(l:List (Int×α)):qF .i (aj k) (e v) (tq e l)=some (tq e (fy k v l)):=by
 simp only[tq,Yb,F5,QX];cases h:dn k l with
 |some w=>simp
 |none=>simp[abw h]
def NU(f:aA->bc (List af))(m:aA)(l:List (Int×α))(z:af)(ok:Bool)(k:Int)(hm:f m=some (tq e l)):o7 f .i z ok (.gmap m) (aj k)=some (True,if ok then .tuple [((dn k l).map e).getD z,.bool (dn k l).isSome]else((dn k l).map e).getD z):=by rw[alH f m _ z ok k hm,QQ];cases dn k l<;>rfl
@[simp]def avV(l:List (Int×α)):gR (tq e l)=false:=rfl
def Nq(S:aA->Prop)(he:∀x,az S (e x))(l:List (Int×α)):aH S (tq e l):=by
 have:∀l:List (Int×α),aH S (flat (l.map fun x=>(x.1,e x.2))):=by
  intro l;induction l with
  |nil=>simp[flat,aH]
  |cons x r a=>simp[flat,aH,a,he]
 simp[tq,kT,aH,this,az]
end
def oz:List (Int×Int)->List af:=tq (af.int .i64)
def rh:List (Int×Bool)->List af:=tq af.bool
def uU:List (Int×T)->List af:=tq T.e
@[simp]def avS(l):gR (oz l)=false:=rfl
@[simp]def avQ(l):gR (rh l)=false:=rfl
@[simp]def avU(l):gR (uU l)=false:=rfl
@[simp]def auC(S:aA->Prop)(l):aH S (oz l)=True:=h0 (Nq _ S (fun _=>by simp) l)
@[simp]def auB(S:aA->Prop)(l):aH S (rh l)=True:=h0 (Nq _ S (fun _=>by simp) l)
@[simp]def auD(S:aA->Prop)(l):aH S (uU l)=True:=h0 (Nq _ S (fun _=>by simp) l)
@[simp]def avA(k v:Int)(l):qF .i (aj k) (aj v) (oz l)=some (oz (fy k v l)):=NZ _ k v l
@[simp]def avz(k:Int)(v:Bool)(l):qF .i (aj k) (.bool v) (rh l)=some (rh (fy k v l)):=NZ _ k v l
@[simp]def avC(k:Int)(v:T)(l):qF .i (aj k) v.e (uU l)=some (uU (fy k v l)):=NZ _ k v l
def Ex(a:ka)(z:af)(ok:Bool)(o:bc (List af))(k:af):bc (Prop×af):=o7 (fun _=>o) a z ok (.gmap (.loc 0)) k
@[simp]def avx(f:aA->bc (List af))(a:ka)(z:af)(ok:Bool)(m:aA)(k:af):o7 f a z ok (.gmap m) k=Ex a z ok (f m) k:=by simp only[Ex,XR]
def alJ(f:aA->bc (List af))(m:aA)(l:List (Int×Int))(ok:Bool)(k:Int)(hm:f m=some (oz l)):o7 f .i (aj 0) ok (.gmap m) (aj k)=some (True,if ok then .tuple [aj (jO l k),.bool (dn k l).isSome]else aj (jO l k)):=by rw[NU _ f m l _ ok k hm];unfold jO;cases dn k l<;>rfl
def alI(f:aA->bc (List af))(m:aA)(l:List (Int×Bool))(ok:Bool)(k:Int)(hm:f m=some (rh l)):o7 f .i (.bool false) ok (.gmap m) (aj k)=some (True,if ok then .tuple [.bool ((dn k l).getD false),.bool (dn k l).isSome]else .bool ((dn k l).getD false)):=by rw[NU _ f m l _ ok k hm];cases dn k l<;>rfl
def abg:af:= .agg [aj 0,aj 0,.str [],.slice 4 .nil []]
def yg(o:bc T):af:=(o.map T.e).getD abg
def alK(f:aA->bc (List af))(m:aA)(l:List (Int×T))(ok:Bool)(k:Int)(hm:f m=some (uU l)):o7 f .i (.agg [aj 0,aj 0,.str [],.slice 4 .nil []]) ok (.gmap m) (aj k)=some (True,if ok then .tuple [yg (dn k l),.bool (dn k l).isSome]else yg (dn k l)):=by rw[NU _ f m l _ ok k hm];rfl
@[simp]def avv(l:List (Int×Int))(ok:Bool)(k:Int):Ex .i (aj 0) ok (some (oz l)) (aj k)=some (True,if ok then .tuple [aj (jO l k),.bool (dn k l).isSome]else aj (jO l k)):=alJ _ _ l ok k rfl
@[simp]def avu(l:List (Int×Bool))(ok:Bool)(k:Int):Ex .i (.bool false) ok (some (rh l)) (aj k)=some (True,if ok then .tuple [.bool ((dn k l).getD false),.bool (dn k l).isSome]else .bool ((dn k l).getD false)):=alI _ _ l ok k rfl
@[simp]def avw(l:List (Int×T))(ok:Bool)(k:Int):Ex .i (.agg [aj 0,aj 0,.str [],.slice 4 .nil []]) ok (some (uU l)) (aj k)=some (True,if ok then .tuple [yg (dn k l),.bool (dn k l).isSome]else yg (dn k l)):=alK _ _ l ok k rfl
@[simp]def awT(o:bc T):b5 (yg o)=(o.getD .nil).e:=by cases o<;>simp[yg,abg,b5,cf]
@[simp]def avj:[af.hdm 0 []]=kT []:=rfl
def aE:af:= .eptr (.agg [.gmap (.obj 702),.gmap (.obj 703),.gmap (.obj 704),.gmap (.obj 705),.gmap (.obj 706),.gmap (.obj 707)])
def aD(c:bH):List (aA×List af):=[(.obj 702,oz c.up),(.obj 703,uU c.shape),(.obj 704,rh c.shaped),(.obj 705,oz c.color),(.obj 706,oz c.size),(.obj 707,uU c.full)]
def aO(c:bH):cQ:=⟨aD c,[]⟩
def ct(c:bH):eB (aO c):=by unfold aO aD;exact eB.of ⟨by intro m;simp[ad],by intro m;simp[ad]⟩ Ψ Ψ
def FW(c a:bH):Same (aO c) (aO a):=by
 refine⟨fun k=>?_,fun k=>rfl⟩;simp only[aO,aD,ad];repeat' split
 all_goals rfl
def sH(c:bH)(v r:Int)(d:bH)(he:rt c v=some (r,d)):bD au 216 [aE,aj v] (aO c) fun g j=>g=aj r/\j=aO d:=by
 have f:=ct c;have e:=ct d;have e9:=FW c d;simp only[rt,hl,jj]at he;obtain⟨⟨i,m1⟩,he,rfl,rfl⟩:=he;unfold aO aD at f e e9⊢;simp only at e e9⊢;unfold aE;refine bD.mk mixed a7 Tryz.func216 amN Ψ f.obj fun o l=>?_;unfold RD;simp;(with_reducible repeat' first|((first|apply cu|apply cy|apply cx)<;>intro h<;>try simp at h)|refine aq ?_|simp);all_goals
  refine oY (α:=Nat×Int×List (Int×Int)) (fun a=>⟨[(0,aE),(1,aj a.2.1)],[(.obj 702,oz a.2.2),(.obj 703,uU c.shape),(.obj 704,rh c.shaped),(.obj 705,oz c.color),(.obj 706,oz c.size),(.obj 707,uU c.full)],[],0,[.obj 702,.obj 703,.obj 704,.obj 705,.obj 706,.obj 707]⟩) (fun a=>a.1) (fun a=>x6 a.1 a.2.2 a.2.1=some (i,m1)) (v.toNat+1,v,Ao v c.up) (by simp[Ao,h,aE];exact⟨by simp[fresh,aH,az,cb,aK,ad,aE],ep (by simp[fresh,aH,az,cb,aK,ad,aE]),er (by simp[fresh,aH,az,dU,aK,ad,aE]),Ψ⟩) he ?_
  rintro⟨n,u,m⟩ b k
  simp only at b k⊢
  cases n with
  |zero=>simp[x6]at b
  |succ n=>
   simp only[x6]at b
   simp[aE]
   (with_reducible repeat' first|((first|apply cu|apply cy|apply cx)<;>intro h<;>try simp at h)|refine aq ?_|simp)
   ·rw[if_neg h]at b
    refine bV.whl (n,jO (fy u (jO m (jO m u)) m) u,fy u (jO m (jO m u)) m) (Nat.lt_succ_self n) b ?_
    simp[aE]
    exact⟨by simp[fresh,aH,az,cb,aK,ad,aE],ep (by simp[fresh,aH,az,cb,aK,ad,aE]),er (by simp[fresh,aH,az,dU,aK,ad,aE]),Ψ⟩
   ·rw[if_pos h]at b
    cases b
    refine c3.at _ (.inl rfl) e e9 aW aW ?_
    simp[c9,ba,bd,a1]
end
section
open Go Go.Pv
def aib(c:bH)(v r:Int)(a:bH)(he:rt c v=some (r,a)):bD au 245 [aj v,.eptr aE] (aO c) fun e b=>e= .tuple []/\b=aO a:=by have d:=ct c;simp only[aO,aD]at d⊢;refine bD.mk mixed a7 Tryz.func245 amK Ψ d.obj fun g f=>?_;unfold RA;simp[aE];(refine CallDo.ob (sH c v r a he) ci bv bv d7 ?_;rintro r b ⟨rfl,rfl⟩;refine⟨(Same.keys co co),?_⟩;simp[cJ,aO,aD,aE]);(refine c3.at (aO a) Ψ ci (Same.keys co co) bv bv ?_;simp[c9,ba,bd,a1,aK,ad,aO,aD,aE])
def LO(c:bH)(t:T)(b:bH)(he:BN t c=some b):bD au 217 [aE,t.e] (aO c) fun f d=>f= .tuple []/\d=aO b:=by
 have e:=ct c;have key:=LL aO ct FW 245 [.eptr aE] (fun a=>by simp[aO,aD,aE,aK,ad]) rfl (fun(v:Int) (c:bH)=>(rt c v).map Prod.snd) (fun v a bs h=>by rw[hl]at h;obtain⟨⟨r,g⟩,J,rfl⟩:=h;exact aib a v r g J) t c b he
 simp only[aO,aD]at e⊢;refine bD.mk mixed a7 Tryz.func217 amJ Ψ e.obj fun j i=>?_;unfold Rz;simp[aE];(refine CallDo.ob (key) ci bv bv d7 ?_;rintro r d ⟨rfl,rfl⟩;refine⟨(Same.keys co co),?_⟩;simp[cJ,aO,aD,aE]);(refine c3.at (aO b) Ψ ci (Same.keys co co) bv bv ?_;simp[c9,ba,bd,a1,aK,ad,aO,aD,aE])
def e8(K:Nat)(a:bH×List (Int×Bool)):cQ:=⟨aD a.1++[(.obj K,rh a.2)],[]⟩
def gQ(K:Nat)(a:vn):cQ:=⟨aD a.c++[(.obj K,rh a.seen),(.obj 712,[.bool a.found])],[]⟩
def zC(K:Nat):Prop:=K=715\/K=716
def iY{K:Nat}(b:zC K)(a):eB (e8 K a):=by unfold e8 aD;rcases b with rfl|rfl;all_goals exact eB.of ⟨by intro m;simp[ad],by intro m;simp[ad]⟩ Ψ Ψ
def qU{K:Nat}(b:zC K)(a):eB (gQ K a):=by unfold gQ aD;rcases b with rfl|rfl;all_goals exact eB.of ⟨by intro m;simp[ad],by intro m;simp[ad]⟩ Ψ Ψ
def J2{K:Nat}(a b):Same (gQ K a) (gQ K b):=by
 refine⟨fun k=>?_,fun k=>rfl⟩;simp only[gQ,aD,b3,ca,ad];repeat' split
 all_goals rfl
def aii{K:Nat}(k:zC K)(n:Nat)(x:Int)(m:∀t c seen a,qH n x t c seen=some a->bD au 246 [aE,t.e,aj x,.gmap (.obj K)] (e8 K (c,seen)) fun r g=>r= .bool a.found/\g=e8 K (a.c,a.seen))
  (v:Int) (a bs:vn) (he:x3 (qH n x) x v a=some bs):bD au 257 [aj v,.eptr aE,.ptr (.obj 712) 0,.eptr (aj x),.eptr (.gmap (.obj K))] (gQ K a) fun r g=>r= .tuple []/\g=gQ K bs:=by
 have l:=qU k a;simp only[x3,n4]at he;obtain⟨⟨r,b⟩,J,U⟩:=he;simp only at U;have o:=k;rcases o with rfl|rfl;all_goals
  simp only[gQ,aD,b3,ca]at l⊢
  refine bD.mk mixed a7 Tryz.func257 amM Ψ l.obj fun u s=>?_;unfold RC
  simp[aE]
  (refine CallDo.ob (sH a.c v r b J) ci bv bv d7 ?_;rintro r g ⟨rfl,rfl⟩;refine⟨(Same.keys co co),?_⟩;simp[cJ,aO,aD,aE])
  obtain⟨ac,e,q⟩:=a
  cases q with
  |true=>
   simp at U;subst U
   (repeat' first|refine aq ?_|simp)
   (refine c3.at (gQ _ ⟨b,e,true⟩) Ψ (by first|exact qU _|exact qU ‹_› _) (Same.keys (by simp[gQ,aD,aE]) (by simp[gQ,aD,aE])) d9 d9 ?_;simp[c9,ba,bd,a1,aK,ad,gQ,aD,aE])
  |false=>
   by_cases h:r=x
   ·simp[h]at U;subst U
    (repeat' first|refine aq ?_|simp[h])
    (refine c3.at (gQ _ ⟨b,e,true⟩) Ψ (by first|exact qU _|exact qU ‹_› _) (Same.keys (by simp[gQ,aD,aE]) (by simp[gQ,aD,aE])) d9 d9 ?_;simp[c9,ba,bd,a1,aK,ad,gQ,aD,aE])
   ·have i:(r==x)=false:=by simp[h]
    simp only[h,hN,or_self,if_false]at U
    cases d:(dn r e).getD false with
    |true=>
     simp[d]at U;subst U
     (repeat' first|refine aq ?_|simp[i,d])
     (refine c3.at (gQ _ ⟨b,e,false⟩) Ψ (by first|exact qU _|exact qU ‹_› _) (Same.keys (by simp[gQ,aD,aE]) (by simp[gQ,aD,aE])) d9 d9 ?_;simp[c9,ba,bd,a1,aK,ad,gQ,aD,aE])
    |false=>
     cases f:b.shd r with
     |false=>
      have j:(dn r b.shaped).getD false=false:=f
      simp[d,f]at U;subst U
      (repeat' first|refine aq ?_|simp[i,d,j])
      (refine c3.at (gQ _ ⟨b,e,false⟩) Ψ (by first|exact qU _|exact qU ‹_› _) (Same.keys (by simp[gQ,aD,aE]) (by simp[gQ,aD,aE])) d9 d9 ?_;simp[c9,ba,bd,a1,aK,ad,gQ,aD,aE])
     |true=>
      have j:(dn r b.shaped).getD false=true:=f
      simp[d,f]at U
      have p:=m _ _ _ _ U
      (repeat' first|refine aq ?_|simp[i,d,j])
      (refine hn.ob (p) d8 d8 (Same.keys (by simp[e8,aD,aE]) (by simp[e8,aD,aE])) (by simp only[e8,aD,aE,b3,ca];exact aW) (by simp only[e8,aD,aE,b3,ca];exact aW) (by simp[aK,ad,e8,aD,aE]) ?_;simp[cJ,e8,aD,aE])
      (repeat' first|refine aq ?_|simp)
      (refine c3.at (gQ _ bs) Ψ (by first|exact qU _|exact qU ‹_› _) (Same.keys (by simp[gQ,aD,aE]) (by simp[gQ,aD,aE])) d9 d9 ?_;simp[c9,ba,bd,a1,aK,ad,gQ,aD,aE])
def G1{K:Nat}(b:zC K)(x:Int)(n:Nat):∀(t:T) (c:bH) (seen:List (Int×Bool)) (a:vn),qH n x t c seen=some a->bD au 246 [aE,t.e,aj x,.gmap (.obj K)] (e8 K (c,seen)) fun r d=>r= .bool a.found/\d=e8 K (a.c,a.seen):=by
 induction n with
 |zero=>intro t c seen a h;simp[qH]at h
 |succ n f=>
  intro t c seen a h;simp only[qH]at h;have e:=iY b (c,seen);have key:=LL (gQ K) (qU b) J2 257 [.eptr aE,.ptr (.obj 712) 0,.eptr (aj x),.eptr (.gmap (.obj K))] (fun a=>by rcases b with rfl|rfl<;>simp[gQ,aD,aE,aK,ad]) rfl (x3 (qH n x) x) (fun v a bs h=>aii b n x f v a bs h) t ⟨c,seen,false⟩ a h;have g:=b;rcases g with rfl|rfl;all_goals
   simp only[e8,aD,b3,ca]at e⊢
   refine bD.mk mixed a7 Tryz.func246 amL Ψ e.obj fun j i=>?_;unfold RB
   simp[aE]
   refine CallDo.new key (qU b _) d9 d9 (by simp[aK,ad,gQ,aD,aE]) ?_
   rintro r d ⟨rfl,rfl⟩
   refine⟨fun m hm=>.inl ⟨?_,J2 _ _⟩,?_⟩
   ·exact((J2 _ _).inObs _).2 hm
   simp[cJ,gQ,aD]
   (repeat' first|refine aq ?_|simp)
   (refine c3.at (e8 _ (a.c,a.seen)) Ψ d8 (Same.keys (by simp[e8,aD,aE]) (by simp[e8,aD,aE])) (by simp only[e8,aD,aE,b3,ca];exact aW) (by simp only[e8,aD,aE,b3,ca];exact aW) ?_;simp[c9,ba,bd,a1,aK,ad,e8,aD,aE])
@[simp]def NH:rh []=kT []:=rfl
@[simp]def awW(t:T):yg (some t)=t.e:=rfl
@[simp]def awV:yg none= .agg [aj 0,aj 0,.str [],.slice 4 .nil []]:=rfl
def UX(n:Nat)(x:Int)(t:T)(c:bH)(p:Bool×bH)(he:wg n x t c=some p):bD au 247 [aE,aj x,t.e] (aO c) fun r b=>r= .bool p.1/\b=aO p.2:=by have d:=ct c;simp only[wg,hl]at he;obtain⟨a,J,rfl⟩:=he;have e:zC 715:= .inl rfl;have key:=G1 e x n t (c.know x t) [] a J;simp only[aO,aD]at d⊢;refine bD.mk mixed a7 Tryz.func247 amI Ψ d.obj fun g f=>?_;unfold Ry;simp[aE];(refine CallDo.ob (key) d8 (by simp only[e8,aD,aE,bH.know,b3,ca];exact aW) (by simp only[e8,aD,aE,bH.know,b3,ca];exact aW) (by simp[aK,ad,e8,aD,aE,bH.know]) ?_;rintro r b ⟨rfl,rfl⟩;refine⟨(Same.keys (by simp[e8,aD,aE,bH.know]) (by simp[e8,aD,aE,bH.know])),?_⟩;simp[cJ,e8,aD,aE,bH.know]);(refine c3.at (aO a.c) Ψ ci (Same.keys co co) bv bv ?_;simp[c9,ba,bd,a1,aK,ad,aO,aD,aE])
def US(n:Nat):∀(a b:T) (c:bH) (p:Bool×bH),hp n a b c=some p->bD au 218 [aE,a.e,b.e] (aO c) fun r w=>r= .bool p.1/\w=aO p.2:=by
 induction n with
 |zero=>intro a b c p h;simp[hp]at h
 |succ n L=>
  intro a b c p he;have t:=ct c;have D9:∀i j,a= .var i->b= .var j->bD au 218 [aE,a.e,b.e] (aO c) fun r w=>r= .bool p.1/\w=aO p.2:=by
   rintro i j rfl rfl;simp only[hp,n4]at he;obtain⟨⟨x,A⟩,J,⟨y,s⟩,U,E⟩:=he;simp only at U E;simp only[aO,aD]at t⊢;refine bD.mk mixed a7 Tryz.func218 zE Ψ t.obj fun M K=>?_;unfold wT;simp[aE];(refine CallDo.ob (sH c i x A J) ci bv bv d7 ?_;rintro r w ⟨rfl,rfl⟩;refine⟨(Same.keys co co),?_⟩;simp[cJ,aO,aD,aE]);(repeat' first|refine aq ?_|simp);(refine CallDo.ob (sH A j y s U) ci bv bv d7 ?_;rintro r w ⟨rfl,rfl⟩;refine⟨(Same.keys co co),?_⟩;simp[cJ,aO,aD,aE]);by_cases V:x=y
   ·rw[if_pos V]at E;cases E;(repeat' first|refine aq ?_|simp[V]);(refine c3.at (aO s) Ψ ci (Same.keys co co) bv bv ?_;simp[c9,ba,bd,a1,aK,ad,aO,aD,aE])
   ·rw[if_neg V]at E;have O:(x==y)=false:=by simp[V]
    have Vg:zC 715:= .inl rfl;have Z:zC 716:= .inr rfl;obtain⟨u,v,P,z⟩:∃u v,((u=y/\v=x/\y<x)\/(u=x/\v=y/\¬y<x))/\sF (hp n) n u v (s.join u v)=some p:=by
     by_cases q:y<x
     ·rw[if_pos q]at E;exact⟨y,x,.inl ⟨rfl,rfl,q⟩,E⟩
     ·rw[if_neg q]at E;exact⟨x,y,.inr ⟨rfl,rfl,q⟩,E⟩
    clear E;obtain⟨d,H⟩:∃d,d=s.join u v:=⟨_,rfl⟩;have m:d.up=fy v u s.up:=by rw[H];rfl
    have f:d.shape=s.shape:=by rw[H];rfl
    have e:d.shaped=s.shaped:=by rw[H];rfl
    have l:d.color=s.color:=by rw[H];rfl
    have k:d.size=s.size:=by rw[H];rfl
    have g:d.full=s.full:=by rw[H];rfl
    rw[<-H]at z;simp only[sF]at z;cases N:d.shd v with
    |false=>
     have F:(dn v s.shaped).getD false=false:=by rw[<-e];exact N
     rw[if_pos N]at z;cases hu:d.shd u with
     |false=>
      have B:(dn u s.shaped).getD false=false:=by rw[<-e];exact hu
      rw[if_pos hu]at z;cases z;rcases P with⟨rfl,rfl,q⟩|⟨rfl,rfl,q⟩;all_goals
       (repeat' first|refine aq ?_|simp[O,q,F,B])
       (refine c3.at (aO d) Ψ ci (Same.keys (by simp[aO,aD,aE,m,f,e,l,k,g]) (by simp[aO,aD,aE,m,f,e,l,k,g])) (by simp only[aO,aD,aE,m,f,e,l,k,g,b3,ca];exact aW) (by simp only[aO,aD,aE,m,f,e,l,k,g,b3,ca];exact aW) ?_;simp[c9,ba,bd,a1,aK,ad,aO,aD,aE,m,f,e,l,k,g])
     |true=>
      have B:(dn u s.shaped).getD false=true:=by rw[<-e];exact hu
      rw[if_neg (by simp[hu]),hl]at z;obtain⟨a,Y,rfl⟩:=z;have key:=G1 Vg u n _ _ _ _ Y;rw[show d.shp u=(dn u s.shape).getD .nil from by rw[<-f];rfl]at key;rcases P with⟨rfl,rfl,q⟩|⟨rfl,rfl,q⟩;all_goals
       (repeat' first|refine aq ?_|simp[O,q,F,B])
       (refine CallDo.ob (key) d8 (by simp only[e8,aD,aE,m,f,e,l,k,g,b3,ca];exact aW) (by simp only[e8,aD,aE,m,f,e,l,k,g,b3,ca];exact aW) (by simp[aK,ad,e8,aD,aE,m,f,e,l,k,g]) ?_;rintro r w ⟨rfl,rfl⟩;refine⟨(Same.keys (by simp[e8,aD,aE,m,f,e,l,k,g]) (by simp[e8,aD,aE,m,f,e,l,k,g])),?_⟩;simp[cJ,e8,aD,aE,m,f,e,l,k,g])
       (repeat' first|refine aq ?_|simp)
       (refine c3.at (aO a.c) Ψ ci (Same.keys co co) bv bv ?_;simp[c9,ba,bd,a1,aK,ad,aO,aD,aE])
    |true=>
     have F:(dn v s.shaped).getD false=true:=by rw[<-e];exact N
     rw[if_neg (by simp[N])]at z;rw[show d.shp v=(dn v s.shape).getD .nil from by rw[<-f];rfl]at z;cases hu:d.shd u with
     |false=>
      have B:(dn u s.shaped).getD false=false:=by rw[<-e];exact hu
      rw[if_pos hu]at z;have key:=UX n u _ d p z;cases G:dn v s.shape;all_goals
       rw[G]at key
       simp only[mK,oM]at key
       rcases P with⟨rfl,rfl,q⟩|⟨rfl,rfl,q⟩
       all_goals
        (repeat' first|refine aq ?_|simp[O,q,F,B,G])
        (refine CallDo.ob (key) ci (by simp only[aO,aD,aE,m,f,e,l,k,g,b3,ca];exact aW) (by simp only[aO,aD,aE,m,f,e,l,k,g,b3,ca];exact aW) (by simp[aK,ad,aO,aD,aE,m,f,e,l,k,g]) ?_;rintro r w ⟨rfl,rfl⟩;refine⟨(Same.keys (by simp[aO,aD,aE,m,f,e,l,k,g]) (by simp[aO,aD,aE,m,f,e,l,k,g])),?_⟩;simp[cJ,aO,aD,aE,m,f,e,l,k,g])
        (repeat' first|refine aq ?_|simp)
        (refine c3.at (aO p.2) Ψ ci (Same.keys co co) bv bv ?_;simp[c9,ba,bd,a1,aK,ad,aO,aD,aE])
     |true=>
      have B:(dn u s.shaped).getD false=true:=by rw[<-e];exact hu
      rw[if_neg (by simp[hu]),n4]at z;obtain⟨a,Y,R⟩:=z;have key:=G1 Vg u n _ _ _ _ Y;obtain⟨o,G⟩:∃o,dn v s.shape=o:=⟨_,rfl⟩;rw[G]at key R;obtain⟨ac,Cu,Kh⟩:=a;cases Kh with
      |true=>
       simp at R;subst R;cases o;all_goals
        simp only[mK,oM]at key
        rcases P with⟨rfl,rfl,q⟩|⟨rfl,rfl,q⟩
        all_goals
         (repeat' first|refine aq ?_|simp[O,q,F,B,G])
         (refine hn.ob (key) d8 d8 (Same.keys (by simp[e8,aD,aE,m,f,e,l,k,g]) (by simp[e8,aD,aE,m,f,e,l,k,g])) (by simp only[e8,aD,aE,m,f,e,l,k,g,b3,ca];exact aW) (by simp only[e8,aD,aE,m,f,e,l,k,g,b3,ca];exact aW) (by simp[aK,ad,e8,aD,aE,m,f,e,l,k,g]) ?_;simp[cJ,e8,aD,aE,m,f,e,l,k,g])
         (repeat' first|refine aq ?_|simp)
         (refine c3.at (aO ac) Ψ ci (Same.keys co co) bv bv ?_;simp[c9,ba,bd,a1,aK,ad,aO,aD,aE])
      |false=>
       simp only[hN,if_false,n4]at R;obtain⟨b,dW,S⟩:=R;have Q:=G1 Z u n _ _ _ _ dW;rw[show ac.shp u=(dn u ac.shape).getD .nil from rfl]at Q;obtain⟨Kn,asQ,ade⟩:=b;cases ade with
       |true=>
        simp at S;subst S;cases o;all_goals
         simp only[mK,oM]at key
         rcases P with⟨rfl,rfl,q⟩|⟨rfl,rfl,q⟩
         all_goals
          (repeat' first|refine aq ?_|simp[O,q,F,B,G])
          (refine hn.ob (key) d8 d8 (Same.keys (by simp[e8,aD,aE,m,f,e,l,k,g]) (by simp[e8,aD,aE,m,f,e,l,k,g])) (by simp only[e8,aD,aE,m,f,e,l,k,g,b3,ca];exact aW) (by simp only[e8,aD,aE,m,f,e,l,k,g,b3,ca];exact aW) (by simp[aK,ad,e8,aD,aE,m,f,e,l,k,g]) ?_;simp[cJ,e8,aD,aE,m,f,e,l,k,g])
          (repeat' first|refine aq ?_|simp)
          (refine hn.ob (Q) d8 d8 (Same.keys (by simp[e8,aD,aE]) (by simp[e8,aD,aE])) (by simp only[e8,aD,aE,b3,ca];exact aW) (by simp only[e8,aD,aE,b3,ca];exact aW) (by simp[aK,ad,e8,aD,aE]) ?_;simp[cJ,e8,aD,aE])
          (repeat' first|refine aq ?_|simp)
          (refine c3.at (aO Kn) Ψ ci (Same.keys co co) bv bv ?_;simp[c9,ba,bd,a1,aK,ad,aO,aD,aE])
       |false=>
        simp only[hN,if_false]at S;have Nh:=L _ _ _ _ S;rw[show Kn.shp u=(dn u Kn.shape).getD .nil from rfl]at Nh;cases o;all_goals
         simp only[mK,oM]at key Nh
         rcases P with⟨rfl,rfl,q⟩|⟨rfl,rfl,q⟩
         all_goals
          (repeat' first|refine aq ?_|simp[O,q,F,B,G])
          (refine hn.ob (key) d8 d8 (Same.keys (by simp[e8,aD,aE,m,f,e,l,k,g]) (by simp[e8,aD,aE,m,f,e,l,k,g])) (by simp only[e8,aD,aE,m,f,e,l,k,g,b3,ca];exact aW) (by simp only[e8,aD,aE,m,f,e,l,k,g,b3,ca];exact aW) (by simp[aK,ad,e8,aD,aE,m,f,e,l,k,g]) ?_;simp[cJ,e8,aD,aE,m,f,e,l,k,g])
          (repeat' first|refine aq ?_|simp)
          (refine hn.ob (Q) d8 d8 (Same.keys (by simp[e8,aD,aE]) (by simp[e8,aD,aE])) (by simp only[e8,aD,aE,b3,ca];exact aW) (by simp only[e8,aD,aE,b3,ca];exact aW) (by simp[aK,ad,e8,aD,aE]) ?_;simp[cJ,e8,aD,aE])
          (repeat' first|refine aq ?_|simp)
          (refine hn.ob (Nh) ci ci (Same.keys co co) bv bv d7 ?_;simp[cJ,aO,aD,aE])
          (repeat' first|refine aq ?_|simp)
          (refine c3.at (aO p.2) Ψ ci (Same.keys co co) bv bv ?_;simp[c9,ba,bd,a1,aK,ad,aO,aD,aE])
  have N:∀i,a= .var i->b.kind≠1->bD au 218 [aE,a.e,b.e] (aO c) fun r w=>r= .bool p.1/\w=aO p.2:=by
   rintro i rfl ag;have xf:((rt c i).bind fun p=>if p.2.shd p.1=false then wg n p.1 b p.2 else hp n (p.2.shp p.1) b p.2)=some p:=by cases b<;>first|exact he|simp at ag
   simp only[n4]at xf;obtain⟨⟨x,A⟩,J,U⟩:=xf;simp only at U;have dX:(b.kind==1)=false:=by simp[ag]
   simp only[aO,aD]at t⊢;refine bD.mk mixed a7 Tryz.func218 zE Ψ t.obj fun M K=>?_;unfold wT;simp[aE];(repeat' first|refine aq ?_|simp[dX,ag]);(refine CallDo.ob (sH c i x A J) ci bv bv d7 ?_;rintro r w ⟨rfl,rfl⟩;refine⟨(Same.keys co co),?_⟩;simp[cJ,aO,aD,aE]);cases W:A.shd x with
   |false=>have X:(dn x A.shaped).getD false=false:=W;rw[if_pos W]at U;(repeat' first|refine aq ?_|simp[X]);(refine CallDo.ob (UX n x b A p U) ci bv bv d7 ?_;rintro r w ⟨rfl,rfl⟩;refine⟨(Same.keys co co),?_⟩;simp[cJ,aO,aD,aE]);(refine c3.at (aO p.2) Ψ ci (Same.keys co co) bv bv ?_;simp[c9,ba,bd,a1,aK,ad,aO,aD,aE])
   |true=>have X:(dn x A.shaped).getD false=true:=W;rw[if_neg (by simp[W])]at U;have key:=L _ _ _ _ U;(repeat' first|refine aq ?_|simp[X]);(refine hn.ob (key) ci ci (Same.keys co co) bv bv d7 ?_;simp[cJ,aO,aD,aE]);(repeat' first|refine aq ?_|simp);(refine c3.at (aO p.2) Ψ ci (Same.keys co co) bv bv ?_;simp[c9,ba,bd,a1,aK,ad,aO,aD,aE])
  cases a with
  |var i=>
   cases b with
   |var j=>exact D9 i j rfl rfl
   |_=>exact N i rfl Ψ
  |pair bp a2=>
   cases b with
   |var j=>simp only[hp]at he;have key:=L _ _ _ _ he;simp only[aO,aD]at t⊢;refine bD.mk mixed a7 Tryz.func218 zE Ψ t.obj fun M K=>?_;unfold wT;simp[aE];(refine CallDo.ob (key) ci bv bv d7 ?_;rintro r w ⟨rfl,rfl⟩;refine⟨(Same.keys co co),?_⟩;simp[cJ,aO,aD,aE]);(refine c3.at (aO p.2) Ψ ci (Same.keys co co) bv bv ?_;simp[c9,ba,bd,a1,aK,ad,aO,aD,aE])
   |pair cm b8=>
    simp only[hp,n4]at he;obtain⟨⟨f1,A⟩,J,U⟩:=he;have key:=L _ _ _ _ J;simp only[aO,aD]at t⊢;refine bD.mk mixed a7 Tryz.func218 zE Ψ t.obj fun M K=>?_;unfold wT;simp[aE];(repeat' first|refine aq ?_|simp);(refine hn.ob (key) ci ci (Same.keys co co) bv bv d7 ?_;simp[cJ,aO,aD,aE]);cases f1 with
    |false=>simp at U;subst U;(repeat' first|refine aq ?_|simp);(refine c3.at (aO A) Ψ ci (Same.keys co co) bv bv ?_;simp[c9,ba,bd,a1,aK,ad,aO,aD,aE])
    |true=>simp at U;have Q:=L _ _ _ _ U;(repeat' first|refine aq ?_|simp);(refine hn.ob (Q) ci ci (Same.keys co co) bv bv d7 ?_;simp[cJ,aO,aD,aE]);(repeat' first|refine aq ?_|simp);(refine c3.at (aO p.2) Ψ ci (Same.keys co co) bv bv ?_;simp[c9,ba,bd,a1,aK,ad,aO,aD,aE])
   |_=>simp[hp]at he;subst he;simp only[aO,aD]at t⊢;refine bD.mk mixed a7 Tryz.func218 zE Ψ t.obj fun M K=>?_;unfold wT;simp[aE];(refine c3.at (aO c) Ψ ci (Same.keys co co) bv bv ?_;simp[c9,ba,bd,a1,aK,ad,aO,aD,aE])
  |_=>
   cases b with
   |var j=>simp only[hp]at he;have key:=L _ _ _ _ he;simp only[aO,aD]at t⊢;refine bD.mk mixed a7 Tryz.func218 zE Ψ t.obj fun M K=>?_;unfold wT;simp[aE];(refine CallDo.ob (key) ci bv bv d7 ?_;rintro r w ⟨rfl,rfl⟩;refine⟨(Same.keys co co),?_⟩;simp[cJ,aO,aD,aE]);(refine c3.at (aO p.2) Ψ ci (Same.keys co co) bv bv ?_;simp[c9,ba,bd,a1,aK,ad,aO,aD,aE])
   |_=>
    simp[hp]at he;subst he;simp only[aO,aD]at t⊢;refine bD.mk mixed a7 Tryz.func218 zE Ψ t.obj fun M K=>?_;unfold wT;simp[aE];((repeat' first|refine aq ?_|simp|((first|apply cu|apply cy|apply cx)<;>intro h<;>try simp at h))<;>(try exact c4));all_goals(refine c3.at (aO c) Ψ ci (Same.keys co co) bv bv ?_;simp[c9,ba,bd,a1,aK,ad,aO,aD,aE])
    all_goals simp_all
def nx(c:bH):Prop:= ∀x,0<=c.sz x/\c.sz x<=5001
def nx.rt{c:bH}(h:nx c){v r:Int}{a:bH}(he:rt c v=some (r,a)):nx a:=by simp only[Pv.rt,hl,jj]at he;obtain⟨p,_,_,rfl⟩:=he;exact h
def nx.put{c:bH}(h:nx c){x k:Int}(a:0<=k/\k<=5001)(m:List (Int×Int)):nx {c with size:=fy x k c.size,color:=m}:=fun z=>by
 show 0<=(dn z (fy x k c.size)).getD 0/\(dn z (fy x k c.size)).getD 0<=5001;rw[oH];split
 ·exact a
 ·exact h z
def aiA(c:bH)(v:Int)(p:Int×bH)(he:zX v c=some p):bD au 259 [aj v,.eptr aE] (aO c) fun r d=>r=aj p.1/\d=aO p.2:=by have b:=ct c;simp only[zX,hl]at he;obtain⟨⟨r,a⟩,J,rfl⟩:=he;simp only[aO,aD]at b⊢;refine bD.mk mixed a7 Tryz.func259 amQ Ψ b.obj fun f e=>?_;unfold RG;simp[aE];(refine hn.ob (sH c v r a J) ci ci (Same.keys co co) bv bv d7 ?_;simp[cJ,aO,aD,aE]);(repeat' first|refine aq ?_|simp);(refine c3.at (aO a) Ψ ci (Same.keys co co) bv bv ?_;simp[c9,ba,bd,a1,aK,ad,aO,aD,aE]);all_goals rfl
def hd(a:bH×Bool):cQ:=⟨aD a.1++[(.obj 712,[.bool a.2])],[]⟩
def rK(a):eB (hd a):=by unfold hd aD;exact eB.of ⟨by intro m;simp[ad],by intro m;simp[ad]⟩ Ψ Ψ
def acG(a b):Same (hd a) (hd b):=Same.keys (by simp[hd,aD]) (by simp[hd,aD])
def aiz(n:Nat)(h:∀x c p,rB n x c=some p->nx c->nx p.2/\bD au 248 [aE,aj x] (aO c) fun r d=>r= .bool p.1/\d=aO p.2)
  (v:Int) (a bs:bH×Bool) (g:nx a.1) (he:Ab (rB n) v a=some bs):nx bs.1/\bD au 258 [aj v,.ptr (.obj 712) 0,.eptr aE] (hd a) fun r d=>r= .tuple []/\d=hd bs:=by
 have b:=rK a;obtain⟨c,f⟩:=a;cases f with
 |false=>simp[Ab]at he;subst he;refine⟨g,?_⟩;simp only[hd,aD,b3,ca]at b⊢;refine bD.mk mixed a7 Tryz.func258 Ys Ψ b.obj fun k i=>?_;unfold Kx;simp[aE];(repeat' first|refine aq ?_|simp);(refine c3.at (hd (c,false)) Ψ (by first|exact rK _|exact rK ‹_› _) (Same.keys (by simp[hd,aD,aE]) (by simp[hd,aD,aE])) (by simp only[hd,aD,aE,b3,ca];exact aW) (by simp only[hd,aD,aE,b3,ca];exact aW) ?_;simp[c9,ba,bd,a1,aK,ad,hd,aD,aE])
 |true=>
  simp only[Ab,if_true,n4,hl]at he;obtain⟨⟨r,j⟩,J,⟨f2,e⟩,U,rfl⟩:=he;obtain⟨z2,key⟩:=h _ _ _ U (g.rt J);refine⟨z2,?_⟩;simp only[hd,aD,b3,ca]at b⊢;refine bD.mk mixed a7 Tryz.func258 Ys Ψ b.obj fun k i=>?_;unfold Kx;simp[aE];(repeat' first|refine aq ?_|simp);(refine hn.ob (sH c v r j J) ci ci (Same.keys co co) bv bv d7 ?_;simp[cJ,aO,aD,aE]);(repeat' first|refine aq ?_|simp);(refine hn.ob (key) ci ci (Same.keys co co) bv bv d7 ?_;simp[cJ,aO,aD,aE]);cases f2 with
  |true=>(repeat' first|refine aq ?_|simp);(refine c3.at (hd (e,true)) Ψ (by first|exact rK _|exact rK ‹_› _) (Same.keys (by simp[hd,aD,aE]) (by simp[hd,aD,aE])) (by simp only[hd,aD,aE,b3,ca];exact aW) (by simp only[hd,aD,aE,b3,ca];exact aW) ?_;simp[c9,ba,bd,a1,aK,ad,hd,aD,aE])
  |false=>(repeat' first|refine aq ?_|simp);(refine c3.at (hd (e,false)) Ψ (by first|exact rK _|exact rK ‹_› _) (Same.keys (by simp[hd,aD,aE]) (by simp[hd,aD,aE])) (by simp only[hd,aD,aE,b3,ca];exact aW) (by simp only[hd,aD,aE,b3,ca];exact aW) ?_;simp[c9,ba,bd,a1,aK,ad,hd,aD,aE])
def aiy(n:Nat):∀(x:Int) (c:bH) (p:Bool×bH),rB n x c=some p->nx c->nx p.2/\bD au 248 [aE,aj x] (aO c) fun r t=>r= .bool p.1/\t=aO p.2:=by
 induction n with
 |zero=>intro x c p h;simp[rB]at h
 |succ n z=>
  intro x c p he d;have b:=ct c;simp only[rB]at he;by_cases U:c.col x=2
  ·rw[if_pos U]at he;cases he;have l:jO c.color x=2:=U;refine⟨d,?_⟩;simp only[aO,aD]at b⊢;refine bD.mk mixed a7 Tryz.func248 EJ Ψ b.obj fun s q=>?_;unfold Ax;simp[aE];(repeat' first|refine aq ?_|simp[l]);(refine c3.at (aO c) Ψ ci (Same.keys co co) bv bv ?_;simp[c9,ba,bd,a1,aK,ad,aO,aD,aE])
  rw[if_neg U]at he;have l:(jO c.color x==2)=false:=by simp;exact U
  by_cases J:c.col x=1
  ·rw[if_pos J]at he;cases he;have g:jO c.color x=1:=J;refine⟨d,?_⟩;simp only[aO,aD]at b⊢;refine bD.mk mixed a7 Tryz.func248 EJ Ψ b.obj fun s q=>?_;unfold Ax;simp[aE];(repeat' first|refine aq ?_|simp[g]);(refine c3.at (aO c) Ψ ci (Same.keys co co) bv bv ?_;simp[c9,ba,bd,a1,aK,ad,aO,aD,aE])
  rw[if_neg J]at he;have g:(jO c.color x==1)=false:=by simp;exact J
  have y:nx (c.grey x):=d.put Ω _;cases o:(c.grey x).shd x with
  |false=>rw[if_pos o]at he;cases he;have m:(dn x c.shaped).getD false=false:=o;refine⟨y,?_⟩;simp only[aO,aD]at b⊢;refine bD.mk mixed a7 Tryz.func248 EJ Ψ b.obj fun s q=>?_;unfold Ax;simp[aE];(repeat' first|refine aq ?_|simp[l,g,m]);(refine c3.at (aO ((c.grey x).black x)) Ψ ci (Same.keys (by simp[aO,aD,aE,bH.grey,bH.black]) (by simp[aO,aD,aE,bH.grey,bH.black])) (by simp only[aO,aD,aE,bH.grey,bH.black,b3,ca];exact aW) (by simp only[aO,aD,aE,bH.grey,bH.black,b3,ca];exact aW) ?_;simp[c9,ba,bd,a1,aK,ad,aO,aD,aE,bH.grey,bH.black])
  |true=>
   rw[if_neg (by simp[o]),n4]at he;have m:(dn x c.shaped).getD false=true:=o;obtain⟨⟨e,f⟩,E,j⟩:=he;simp only at j;obtain⟨i,key⟩:=UR hd rK acG 258 [.ptr (.obj 712) 0,.eptr aE] (fun a=>by simp[hd,aD,aE,aK,ad]) rfl (fun a=>nx a.1) (Ab (rB n)) (fun v a bs d h=>aiz n z v a bs d h) _ _ _ y E;rw[show(c.grey x).shp x=(dn x c.shape).getD .nil from rfl]at key;cases f with
   |false=>simp at j;subst j;refine⟨i,?_⟩;simp only[aO,aD]at b⊢;refine bD.mk mixed a7 Tryz.func248 EJ Ψ b.obj fun s q=>?_;unfold Ax;simp[aE];(repeat' first|refine aq ?_|simp[l,g,m]);(refine CallDo.ob (key) (by first|exact rK _|exact rK ‹_› _) (by simp only[hd,aD,aE,bH.grey,b3,ca];exact aW) (by simp only[hd,aD,aE,bH.grey,b3,ca];exact aW) (by simp[aK,ad,hd,aD,aE,bH.grey]) ?_;rintro r t ⟨rfl,rfl⟩;refine⟨(Same.keys (by simp[hd,aD,aE,bH.grey]) (by simp[hd,aD,aE,bH.grey])),?_⟩;simp[cJ,hd,aD,aE,bH.grey]);(repeat' first|refine aq ?_|simp);(refine c3.at (aO e) Ψ ci (Same.keys co co) bv bv ?_;simp[c9,ba,bd,a1,aK,ad,aO,aD,aE])
   |true=>
    rw[if_neg Ψ,hl]at j;obtain⟨⟨k,w⟩,A,rfl⟩:=j;obtain⟨z2,B,u⟩:=aio aO ct FW 259 [.eptr aE] (fun a=>by simp[aO,aD,aE,aK,ad]) rfl nx zX (fun v a p d h=>by simp only[zX,hl]at h;obtain⟨⟨r,F⟩,J,rfl⟩:=h;exact⟨d.rt J,(d.rt J r).1,Int.le_trans (d.rt J r).2 Ω⟩) (fun v a p _ h=>aiA a v p h) _ _ _ i A
    rw[show bH.shp e x=(dn x e.shape).getD .nil from rfl]at u;refine⟨z2.put B _,?_⟩;simp only[aO,aD]at b⊢;refine bD.mk mixed a7 Tryz.func248 EJ Ψ b.obj fun s q=>?_;unfold Ax;simp[aE];(repeat' first|refine aq ?_|simp[l,g,m]);(refine CallDo.ob (key) (by first|exact rK _|exact rK ‹_› _) (by simp only[hd,aD,aE,bH.grey,b3,ca];exact aW) (by simp only[hd,aD,aE,bH.grey,b3,ca];exact aW) (by simp[aK,ad,hd,aD,aE,bH.grey]) ?_;rintro r t ⟨rfl,rfl⟩;refine⟨(Same.keys (by simp[hd,aD,aE,bH.grey]) (by simp[hd,aD,aE,bH.grey])),?_⟩;simp[cJ,hd,aD,aE,bH.grey]);(repeat' first|refine aq ?_|simp);(refine hn.ob (u) ci ci (Same.keys co co) bv bv d7 ?_;simp[cJ,aO,aD,aE]);(repeat' first|refine aq ?_|simp);(refine c3.at (aO (({w with size:=fy x k w.size}:bH).black x)) Ψ ci (Same.keys (by simp[aO,aD,aE,bH.black]) (by simp[aO,aD,aE,bH.black])) (by simp only[aO,aD,aE,bH.black,b3,ca];exact aW) (by simp only[aO,aD,aE,bH.black,b3,ca];exact aW) ?_;simp[c9,ba,bd,a1,aK,ad,aO,aD,aE,bH.black])
def aix(n:Nat)(d:∀x c p,rA n x c=some p->bD au 249 [aE,aj x] (aO c) fun r a=>r=p.1.e/\a=aO p.2)
  (v:Int) (c:bH) (p:T×bH) (he:CH (rA n) v c=some p):bD au 260 [aj v,.eptr aE] (aO c) fun r a=>r= .tuple [p.1.e,.bool true]/\a=aO p.2:=by
 have b:=ct c;simp only[CH,n4]at he;obtain⟨⟨r,e⟩,J,U⟩:=he;have key:=d _ _ _ U;simp only[aO,aD]at b⊢;refine bD.mk mixed a7 Tryz.func260 amP Ψ b.obj fun g f=>?_;unfold RF;simp[aE];(repeat' first|refine aq ?_|simp);(refine hn.ob (sH c v r e J) ci ci (Same.keys co co) bv bv d7 ?_;simp[cJ,aO,aD,aE]);(repeat' first|refine aq ?_|simp);(refine hn.ob (key) ci ci (Same.keys co co) bv bv d7 ?_;simp[cJ,aO,aD,aE]);(repeat' first|refine aq ?_|simp);(refine c3.at (aO p.2) Ψ ci (Same.keys co co) bv bv ?_;simp[c9,ba,bd,a1,aK,ad,aO,aD,aE])
def lT(n:Int):bX au 116 [aj n] (T.var n).e:=by refine bL a7 Tryz.func116 ana fun a=>?_;unfold R0;exact cB
def aiw(n:Nat):∀(x:Int) (c:bH) (p:T×bH),rA n x c=some p->bD au 249 [aE,aj x] (aO c) fun r j=>r=p.1.e/\j=aO p.2:=by
 induction n with
 |zero=>intro x c p h;simp[rA]at h
 |succ n l=>
  intro x c p he;have b:=ct c;simp only[rA]at he;cases d:dn x c.full with
  |some t=>rw[d]at he;cases he;simp only[aO,aD]at b⊢;refine bD.mk mixed a7 Tryz.func249 Om Ψ b.obj fun k g=>?_;unfold Ge;simp[aE];(repeat' first|refine aq ?_|simp[d]);(refine c3.at (aO c) Ψ ci (Same.keys co co) bv bv ?_;simp[c9,ba,bd,a1,aK,ad,aO,aD,aE])
  |none=>
   rw[d]at he;simp only at he;cases e:c.shd x with
   |false=>have f:(dn x c.shaped).getD false=false:=e;rw[if_pos e]at he;cases he;simp only[aO,aD]at b⊢;refine bD.mk mixed a7 Tryz.func249 Om Ψ b.obj fun k g=>?_;unfold Ge;simp[aE];(repeat' first|refine aq ?_|refine aP (lT _) ?_|refine aQ (lT _) ?_|simp[d,f]);(refine c3.at (aO {c with full:=fy x (.var x) c.full}) Ψ ci (Same.keys co co) bv bv ?_;simp[c9,ba,bd,a1,aK,ad,aO,aD,aE])
   |true=>have f:(dn x c.shaped).getD false=true:=e;rw[if_neg (by simp[e]),hl]at he;obtain⟨⟨t,i⟩,J,rfl⟩:=he;have key:=ah2 aO ct FW 260 [.eptr aE] (fun a=>by simp[aO,aD,aE,aK,ad]) rfl (CH (rA n)) (fun v a p h=>aix n l v a p h) _ _ _ J;rw[show c.shp x=(dn x c.shape).getD .nil from rfl]at key;simp only[aO,aD]at b⊢;refine bD.mk mixed a7 Tryz.func249 Om Ψ b.obj fun k g=>?_;unfold Ge;simp[aE];(repeat' first|refine aq ?_|refine aP (lT _) ?_|refine aQ (lT _) ?_|simp[d,f]);(refine CallDo.ob (key) ci bv bv d7 ?_;rintro r j ⟨rfl,rfl⟩;refine⟨(Same.keys co co),?_⟩;simp[cJ,aO,aD,aE]);(repeat' first|refine aq ?_|simp);(refine c3.at (aO {i with full:=fy x t i.full}) Ψ ci (Same.keys co co) bv bv ?_;simp[c9,ba,bd,a1,aK,ad,aO,aD,aE])
def aic:bD au 215 [] ⟨[],[]⟩ fun r a=>r=aE/\a=aO bH.new:=by have b:eB ⟨[],[]⟩:=eB.of sc Ψ Ψ;refine bD.mk mixed a7 Tryz.func215 amY Ψ b.obj fun d c=>?_;unfold RO;simp;refine c3.new (aO bH.new) (.inl rfl) (ct _) ⟨trivial,trivial⟩ (by simp only[aO,aD,bH.new];exact aW) (by simp only[aO,aD,bH.new];exact aW) ?_;simp[c9,ba,bd,a1,aK,ad,aO,aD,aE]
def aaR{a b:List Int}(h:a.Perm b):si a=si b:=by
 have e:∀a b c:Int,(decide (a<=b))=true->(decide (b<=c))=true->(decide (a<=c))=true:=by intro a b c;simp;omega
 have d:∀a b:Int,(decide (a<=b)||decide (b<=a))=true:=by intro a b;simp;omega
 have J:=List.pairwise_mergeSort e d a;have U:=List.pairwise_mergeSort e d b;refine Qv (le:=fun x y:Int=>(decide (x<=y))=true) (fun x y _ _ J U=>by simp at J U;omega) J U ?_;exact(List.mergeSort_perm a _).trans (h.trans (List.mergeSort_perm b _).symm)
def akH(l:List Int)(k:Nat)(st:bo):Prop:=∃(seen:List Nat) (xs:List Int),seen.Nodup/\(∀b∈seen,b<l.length)/\k=l.length-seen.length/\xs=seen.filterMap (fun b=>l[b]?)/\xs.length=seen.length/\st=⟨[(3,.row 1 (.obj 306) xs.length),(7,.ptr (.loc 0) 0)],[(.obj 304,pE l),(.loc 0,cb l.length seen (.obj 304))],[(.obj 306,⟨xs.length,3,1,some (eZ xs)⟩)],1,[.obj 306,.obj 304]⟩
@[simp]def auk(xs:List Int):(eZ xs).length=xs.length:=by simp[eZ]
@[simp]def awN(xs:List Int):cf (eZ xs)=eZ xs:=by
 induction xs with
 |nil=>rfl
 |cons x r a=>simp only[eZ,hc,cf,b5]at a⊢;rw[a]
@[simp]def aul:eZ []=[]:=rfl
def akC(xs:List Int)(x:Int):eZ xs++[af.int .i64 x]=eZ (xs++[x]):=by simp[eZ]
def aiv(l:List Int)(v:l.length<=1000000):bD au 136 [.gmap (.obj 304)] (vo l) fun r n=>r=cV (eZ (si l))/\n=vo l:=by
 have e:=QD l;unfold vo at e⊢;refine bD.mk mixed a7 Tryz.func136 am8 Ψ e.obj fun y m=>?_;unfold RY;simp;refine qi (akH l) l.length _ ⟨by simp[fresh,aH,az,cb,aK,ad,nQ,uM],ep (by simp[fresh,aH,az,cb,aK,ad,nQ,uM]),er (by simp[fresh,aH,az,dU,aK,ad,nQ,uM]),Ψ⟩ ⟨[],[],Ψ,Ψ,Ψ,Ψ,Ψ,rfl⟩ ?_;rintro k st ⟨seen,xs,d,a,w,i,s,rfl⟩ q m;clear q m;have hle:=Jo d a;simp;refine aez (mk:= .obj 304) (seen:=seen) (l:=l) Ψ Ψ rfl (fun p=>?_) (fun b x g o=>?_)
 ·simp;have h:=Pz d a p;rw[<-i]at h;refine CallDo.ob (ais 306 xs Ω) (J3 306 xs) (by unfold n9;exact aW) (by unfold n9;exact aW) (by simp[n9,aK,ad]) ?_;rintro r n ⟨rfl,rfl⟩;refine⟨⟨fun _=>rfl,fun k=>by simp only[n9,ad];split<;>rfl⟩,?_⟩;unfold n9;simp[cJ,aaQ];refine c3.at _ (.inl rfl) e (Same.refl _) aW aW ?_;simp[c9,ba,bd,a1];rw[aaR h];simp[az,uM]
 ·have t:∀f:aA->bc (List af),f (.loc 0)=some (cb l.length (seen++[b]) (.obj 304))->f (.obj 304)=some (pE l)->qD f (.ptr (.loc 0) 0)=some (True,.tuple [aj x,.bool true]):=fun f J U=>alB f (.loc 0) (.obj 304) l.length seen b l x J U rfl g;have j:b<l.length:=(fM.1 g).1;have u:=PA d a j o;simp[t,akC];refine⟨by unfold lim;omega,?_⟩;refine bV.next (l.length-(seen.length+1)) Ω ⟨seen++[b],xs++[x],Oc d o,(by simp;intro c aw;rcases aw with aw|rfl;exact a c aw;exact j),Ψ,by rw[List.filterMap_append,<-i];simp[g],by simp[s],rfl⟩ ⟨by simp[fresh,aH,az,cb,aK,ad,nQ,uM],ep (by simp[fresh,aH,az,cb,aK,ad,nQ,uM]),er (by simp[fresh,aH,az,dU,aK,ad,nQ,uM]),Ψ⟩
@[simp]def auA(S:aA->Prop)(xs:List Int):aH S (eZ xs)=True:=h0 (uM S xs)
@[simp]def as8:cells .junk=[.junk]:=rfl
def RX:C:=(aa [fw 6 5,bA 7 false] (aa [eg 12 215 [],I 8 12] (.seq (aa [I 13 0,cw 14 13,bQ 15 0] (gq 16 15 14 (.seq (.block 1 (aa [ck 17 5 13 15,bq 18 5 17,dR 10 kp,bW 5 10 18] (aa [I 19 8,aF 20 0 1 10,ay 21 1 20,cj 22 216 19 21] (aa [I 23 8,hk 24 1 4 10,bq 25 4 24,cj 26 217 23 25] (.seq (.drawn false 69 [I 27 8,aF 28 0 1 10,ay 29 1 28,da 30 116 29,hk 31 1 4 10,bq 32 4 31,eg 33 218 [.t 27,.t 30,.t 32],cR 34 33]) (aZ 34 (aa [fw 6 5,bA 7 false] .ret) .skip)))))) (.region [aV 35 .add 15 1,I 15 35])))) (.seq (aa [I 36 1,cw 37 36,bQ 38 0] (.block 2 (.loop (aa [br 39 .lss 38 37] (.seq (aZ 39 .skip (.exit 2)) (.seq (.block 3 (aa [I 40 38,I 11 40] (aa [I 41 8,I 42 1,I 43 11,ck 44 4 42 43,bq 45 4 44,cj 46 217 41 45] (aa [I 47 8,I 48 2,I 49 11,ck 50 4 48 49,bq 51 4 50,cj 52 217 47 51] (.seq (.drawn false 69 [I 53 8,I 54 1,I 55 11,ck 56 4 54 55,bq 57 4 56,I 58 2,I 59 11,ck 60 4 58 59,bq 61 4 60,eg 62 218 [.t 53,.t 57,.t 61],cR 63 62]) (aZ 63 (aa [fw 6 5,bA 7 false] .ret) .skip)))))) (.region [aV 64 .add 38 1,I 38 64]))))))) (aa [I 65 8,da 66 219 65,dm 67 0 66,dm 68 1 66,I 6 67,I 7 68] .ret)))))
def RE:C:=(aa [fw 2 5,bA 3 false] (aa [dr (.mkmap 12 (some 304)),I 4 12] (.seq (aa [I 13 0,gp 14 13,aF 15 0 1 14,ay 16 1 15,dr (.range 17 none (.t 16))] (.block 0 (.loop (aa [⟨none,.next 18 (.t 17)⟩,dm 19 0 18] (.seq (aZ 19 .skip (.exit 0)) (.block 1 (aa [b9 20 (.ment (.t 17)),dm 21 0 20,I 5 21] (.region [I 22 4,I 23 5,dr (.mput .i (.t 22) (.t 23) (.c (.bool true)))])))))))) (aa [I 24 4,da 25 136 24,I 6 25] (aa [dr (.bslm 26 none 5 113 []),I 7 26] (.seq (aa [I 27 6,cw 28 27,bQ 29 0] (.block 2 (.loop (aa [br 30 .lss 29 28] (.seq (aZ 30 .skip (.exit 2)) (.seq (.block 3 (aa [ck 31 1 27 29,ay 32 1 31,I 9 32] (aa [I 33 0,I 34 9,cj 35 216 33 34,I 10 35] (.seq (aa [I 36 0,I 37 10,cj 38 248 36 37,cR 39 38] (aZ 39 (aa [fw 2 5,bA 3 false] .ret) .skip)) (.seq (aa [I 40 10,I 41 9,br 42 .eql 40 41,I 43 42,cd 43 true 44 0,ax 43 true (gp 45 44),ax 43 true (aF 46 2 1 45),ax 43 true (ay 47 1 46),cd 43 true 48 10,ax 43 true (b9 49 (.mget .i (.bool false) false (.t 47) (.t 48))),ax 43 true (cR 50 49),ev 51 43 50] (aZ 51 (.exit 3) .skip)) (aa [I 52 7,I 53 9,j6 54 kp [(0,1,(.t 53))],fp 55 5 113 [.t 54],dr (.appm 56 none 5 113 (.t 52) (.t 55)),I 7 56] (aa [I 57 0,gp 58 57,aF 59 4 1 58,ay 60 1 59,I 61 10,b9 62 (.mget .i (.int .i64 0) false (.t 60) (.t 61)),aV 63 .gtr 62 5000,I 64 63,cd 64 false 65 7,ax 64 false (cw 66 65),ax 64 false (aV 67 .gtr 66 400),dq 68 64 67] (aZ 68 (aa [fw 2 5,bA 3 false] .ret) .skip)))))))) (.region [aV 69 .add 29 1,I 29 69]))))))) (.seq (aa [I 70 7,cw 71 70,bQ 72 0] (.block 4 (.loop (aa [br 73 .lss 72 71] (.seq (aZ 73 .skip (.exit 4)) (.seq (.block 5 (aa [I 74 72,I 11 74] (.region [I 75 7,I 76 11,I 77 0,I 78 0,I 79 7,I 80 11,ck 81 5 79 80,aF 82 0 1 81,ay 83 1 82,cj 84 216 78 83,cj 85 249 77 84,da 86 143 85,ck 87 5 75 76,hk 88 1 4 87,bW 4 88 86]))) (.region [aV 89 .add 72 1,I 72 89]))))))) (.seq (.pub 7 (.region [I 90 7,I 2 90,bA 3 true])) .ret))))))))
def am7:b6 aS RX [.tmp 6,.tmp 7] 3 Tryz.f186=true:=bi
def amO:b6 aS RE [.tmp 2,.tmp 3] 1 Tryz.f219=true:=bi
def hb(o:bc (List Bd)):af:= .tuple [bK ((o.getD []).map Bd.e),.bool o.isSome]
def alD(f:aA->bc (List af))(gi mk:aA)(n:Nat)(seen:List Nat)(b:Nat)(l:List (Int×Int))(x:Int×Int)(hi:f gi=some (cb n (seen++[b]) mk))(hm:f mk=some (oz l))(c:n=l.length)(a:l[b]? =some x):qD f (.ptr gi 0)=some (True,.tuple [aj x.1,aj x.2]):=by rw[XN f gi mk n seen b _ hi hm (by simpa using c)];simp[a]
def aeA{st:bo}{d:Nat}{K:bo->Prop}{gi mk:aA}{n:Nat}{seen:List Nat}{l:List (Int×Int)}(hi:ad gi st.b=some (cb n seen mk))(hm:ad mk st.b=some (oz l))(g:n=l.length)
  (J:(∀b,b<l.length->b∈seen)->K {st with t:=Pv.put d (.tuple [.bool false]) st.t}) (U:∀b x,l[b]? =some x->b∉seen->K {st with t:=Pv.put d (.tuple [.bool true,aj x.1,aj x.2]) st.t,b:=cH gi (cb n (seen++[b]) mk) st.b}):
  uo st d (.ptr gi 0) K:=by
 refine TY hi hm (by simpa using g) (fun h=>J fun b a=>h b Ω) (fun b k v a f=>?_);simp only[List.getElem?_map,hl]at a;obtain⟨x,e,c⟩:=a;simp only[jj]at c;obtain⟨rfl,rfl⟩:=c;exact U b x e f
@[simp]def avY(m:aA)(l:List (Int×Int)):zO m (oz l)=some (cb l.length [] m):=by simp[oz,tq]
def oS(v:Int):af:= .agg [aj v,aj 0,aj 0,.str [],.slice 4 .nil []]
@[simp]def ak3(S:aA->Prop)(l:List Int):aH S (l.map oS)=True:=by
 apply h0;induction l with
 |nil=>simp[aH]
 |cons x r a=>simp only[hc,aH];exact⟨by simp[oS,az,aH],a⟩
@[simp]def auO(S:aA->Prop)(v:Int):az S (oS v)=True:=by simp[oS,az,aH]
@[simp]def av9(v:Int):eS (oS v)=true:=rfl
@[simp]def asT(v:Int):cells (oS v)=[aj v,aj 0,aj 0,.str [],.slice 4 .nil []]:=rfl
def apH(v:Int)(f:Nat)(cs:List af):nY (oS v) f cs= .agg (nq [aj v,aj 0,aj 0,.str [],.slice 4 .nil []] f cs):=rfl
def kC{S:aA->Prop}:∀{a b:List af},aH S (a++b)↔(aH S a/\aH S b)
 |[],b=>by simp[aH]
 |x::a,b=>by simp[aH,kC (a:=a),and_assoc]
@[simp]def auz(S:aA->Prop)(k:Nat)(l:List Int):aH S (oK k (l.map oS))=True:=by rw[<-List.map_drop];exact ak3 S _
@[simp]def au4(S:aA->Prop)(o:bc (List Bd)):az S (hb o)=True:=by simp[hb]
def Km(l:List Int)(v:Int):l.map oS++[.agg [aj v,aj 0,aj 0,.str [],.slice 4 .nil []]]=(l++[v]).map oS:=by simp[oS]
def akD(c:bH)(k:Nat)(st:bo):Prop:=∃(seen:List Nat) (xs:List Int),seen.Nodup/\(∀b∈seen,b<c.up.length)/\k=c.up.length-seen.length/\xs=seen.filterMap (fun b=>(c.up[b]?).map (·.1))/\xs.length=seen.length/\st=⟨[(0,aE),(4,.gmap (.obj 304)),(17,.ptr (.loc 0) 0)],aD c++[(.obj 304,pE xs),(.loc 0,cb c.up.length seen (.obj 702))],[],1,[.obj 304,.obj 702,.obj 703,.obj 704,.obj 705,.obj 706,.obj 707]⟩
def apR{c:bH}{seen:List Nat}(e:seen.Nodup)(d:∀b∈seen,b<c.up.length)(a:∀b,b<c.up.length->b∈seen):(seen.filterMap fun b=>(c.up[b]?).map (·.1)).Perm (cF c.up):=by have:=Pz (l:=cF c.up) e (by simpa[cF]using d) (by simpa[cF]using a);simpa[cF]using this
def apS{c:bH}(g:(cF c.up).Nodup){seen:List Nat}{b:Nat}(j:b∉seen){x:Int×Int}(k:c.up[b]? =some x):x.1∉seen.filterMap fun b=>(c.up[b]?).map (·.1):=by
 intro hm;rw[List.mem_filterMap]at hm;obtain⟨b7,J,U⟩:=hm;obtain⟨y,i,l⟩:=hl.1 U;have e:(cF c.up)[b]? =some x.1:=by simp[cF,k]
 have f:(cF c.up)[b7]? =some x.1:=by simp[cF,i,l]
 have d:=(fM.1 e).1;have a:=(fM.1 f).1;have f1:=(fM.1 e).2;have f2:=(fM.1 f).2;rcases Nat.lt_trichotomy b b7 with h|h|h
 ·exact qS.1 g b b7 d a h (f1.trans f2.symm)
 ·subst h;exact j J
 ·exact qS.1 g b7 b a d h (f2.trans f1.symm)
def aiq(n:Nat)(c:bH)(o:bc (List Bd))(he:Fp n (sj (cF c.up)) c=some o)(DW:(cF c.up).Nodup)(hlen:c.up.length<=1000000)(bC:nx c):bD au 219 [aE] (aO c) fun r A=>r=hb o/\∃cA,A=aO cA:=by
 have ai:=ct c;simp only[aO,aD]at ai⊢;refine bD.mk mixed a7 Tryz.func219 amO Ψ ai.obj fun aT cZ=>?_;unfold RE;simp[aE];have O:∀S:aA->Prop,aH S (kT []):=fun S=>nQ S [];refine qi (akD c) c.up.length _ ⟨by simp[fresh,aH,az,cb,aK,ad,nQ,aE,aD,O],ep (by simp[fresh,aH,az,cb,aK,ad,nQ,aE,aD,O]),er (by simp[fresh,aH,az,dU,aK,ad,nQ,aE,aD,O]),Ψ⟩ ⟨[],[],Ψ,Ψ,Ψ,Ψ,Ψ,rfl⟩ ?_;rintro k st ⟨seen,xs,s,K,ab,P,kP,rfl⟩ lI cZ;clear lI cZ;have hle:=Jo s K;simp[aD,aE];refine aeA (mk:= .obj 702) (seen:=seen) (l:=c.up) Ψ Ψ rfl (fun mj=>?_) (fun b x N p=>?_);rotate_left
 ·have Bj:∀f:aA->bc (List af),f (.loc 0)=some (cb c.up.length (seen++[b]) (.obj 702))->f (.obj 702)=some (oz c.up)->qD f (.ptr (.loc 0) 0)=some (True,.tuple [aj x.1,aj x.2]):=fun f J U=>alD f (.loc 0) (.obj 702) c.up.length seen b c.up x J U rfl N;have gd:b<c.up.length:=(fM.1 N).1;have qu:=PA s K gd p;have jV:=apS DW p N;rw[<-P]at jV;simp[Bj,Kg,jV];refine bV.next (c.up.length-(seen.length+1)) Ω ⟨seen++[b],xs++[x.1],Oc s p,(by simp;intro c aw;rcases aw with aw|rfl;exact K c aw;exact gd),Ψ,by rw[List.filterMap_append,<-P];simp[N],by simp[kP],rfl⟩ ⟨by simp[fresh,aH,az,cb,aK,ad,nQ,aE,aD],ep (by simp[fresh,aH,az,cb,aK,ad,nQ,aE,aD]),er (by simp[fresh,aH,az,dU,aK,ad,nQ,aE,aD]),Ψ⟩
 ·simp;have xt:=apR s K mj;rw[<-P]at xt;have X:xs.length<=1000000:=Ω
  refine CallDo.ob (aiv xs X) (QD _) (by simp only[vo];exact aW) (by simp only[vo];exact aW) (by simp[aK,vo,ad]) ?_;rintro r A ⟨rfl,rfl⟩;refine⟨Same.refl _,?_⟩;have Bq:si xs=sj (cF c.up):=aaR xt;rw[Bq];obtain⟨bk,lg⟩:∃bk,bk=sj (cF c.up):=⟨_,rfl⟩;rw[<-lg]at he⊢;simp[vo,cJ];simp only[Fp,n4]at he;obtain⟨res,Ba,y⟩:=he;have pR:bk.length<=1000000:=by rw[lg,(Ft _).length_eq];simpa[cF]using hlen
  refine fX (α:=bH×List Int) (fun i a=>⟨[(0,aE),(27,cV (eZ bk)),(28,aj bk.length),(7,.row 5 (.loc 1) a.2.length),(29,aj i)],aD a.1,[(.loc 1,⟨a.2.length,113,5,some (a.2.map oS)⟩)],2,[.obj 702,.obj 703,.obj 704,.obj 705,.obj 706,.obj 707]⟩) bk.length (fun i a=>tG n (bk.drop i) a.1 a.2=some res/\nx a.1/\a.2.length<=400) (c,[]) (by simp[aE,aD];exact⟨by simp[fresh,aH,az,cb,aK,ad,nQ,aE,aD],ep (by simp[fresh,aH,az,cb,aK,ad,nQ,aE,aD]),er (by simp[fresh,aH,az,dU,aK,ad,nQ,aE,aD]),Ψ⟩) ⟨by simpa using Ba,bC,Ψ⟩ ?_ ?_
  ·rintro⟨Q,out⟩ ⟨J,U,M⟩ p;simp only at J U M p⊢;simp[tG]at J;subst J;simp only[hl]at y;obtain⟨⟨L,adw⟩,Z,rfl⟩:=y;simp[aE,aD];refine fX (α:=bH×List Bd) (fun j a=>⟨[(0,aE),(7,.row 5 (.loc 1) out.length),(71,aj out.length),(72,aj j)],aD a.1,[(.loc 1,⟨out.length,113,5,some (a.2.map Bd.e++(out.drop j).map oS)⟩)],2,[.obj 702,.obj 703,.obj 704,.obj 705,.obj 706,.obj 707]⟩) out.length (fun j a=>a.2.length=j/\∃rest,zY n (out.drop j) a.1=some (rest,adw)/\a.2++rest=L) (Q,[]) (by simp[aE,aD];exact⟨by simp[fresh,aH,az,cb,aK,ad,aE,aD],ep (by simp[fresh,aH,az,cb,aK,ad,aE,aD]),er (by simp[fresh,aH,az,dU,aK,ad,aE,aD]),Ψ⟩) ⟨rfl,L,by simpa using Z,rfl⟩ ?_ ?_
   ·rintro⟨w,done⟩ ⟨q,rest,m,g⟩ p;simp only at q m g p⊢;simp[zY]at m;obtain⟨rfl,rfl⟩:=m;simp at g;subst g;simp[aE,aD,q];refine c3.at (aO w) Ψ (ct _) (Same.keys (by simp[aO,aD]) (by simp[aO,aD])) (by simp only[aO,aD];exact aW) (by simp only[aO,aD];exact aW) ?_;simp[c9,ba,bd,a1,aO,aD,hb];exact⟨w,Ψ⟩
   ·rintro j ⟨w,done⟩ B ⟨q,rest,m,g⟩ p;simp only at q m g p⊢;obtain⟨v,u⟩:∃v,out[j]? =some v:=⟨_,cl B⟩;have s:out.drop j=v::out.drop (j+1):=by rw[lA B];rw[cl B]at u;cases u;rfl
    rw[s]at m;simp only[zY,n4,hl,jj]at m;obtain⟨⟨x,d⟩,dW,⟨t,h3⟩,lF,⟨V,atj⟩,uv,rfl,rfl⟩:=m;simp only at lF uv;have key:=aiw n x d _ lF;rw[s];have iH:∀R,(done.map Bd.e++oS v::R)[j]? =some (oS v):=fun R=>by rw[vg d6];simp[q]
    have xy:∀R x,(done.map Bd.e++oS v::R).set j x=done.map Bd.e++x::R:=fun R x=>by rw[List.set_append_right _ _ d6];simp[q]
    simp[aE,aD];(repeat' first|refine aq ?_|simp[iH,B]);(refine CallDo.ob (sH w v x d dW) ci bv bv d7 ?_;rintro r A ⟨rfl,rfl⟩;refine⟨(Same.keys co co),?_⟩;simp[cJ,aO,aD,aE]);(repeat' first|refine aq ?_|simp);(refine CallDo.ob (key) ci bv bv d7 ?_;rintro r A ⟨rfl,rfl⟩;refine⟨(Same.keys co co),?_⟩;simp[cJ,aO,aD,aE]);(repeat' first|refine aq ?_|refine aP (yi _) ?_|refine aQ (yi _) ?_|simp[iH,xy,B,apH,-nY]);refine bV.rng (h3,done++[⟨v,t⟩]) B ⟨by simp[q],V,uv,by simpa using g⟩ ?_;simp[aE,aD];exact⟨by simp[fresh,aH,az,cb,aK,ad,aE,aD,kC],ep (by simp[fresh,aH,az,cb,aK,ad,aE,aD,kC]),er (by simp[fresh,aH,az,dU,aK,ad,aE,aD,kC]),Ψ⟩
  ·rintro i ⟨Q,out⟩ hi ⟨J,U,M⟩ p;simp only at J U M p⊢;obtain⟨v,u⟩:∃v,bk[i]? =some v:=⟨_,cl hi⟩;have s:bk.drop i=v::bk.drop (i+1):=by rw[lA hi];rw[cl hi]at u;cases u;rfl
   rw[s]at J;simp only[tG,n4]at J;obtain⟨⟨x,w⟩,q,⟨f,d⟩,m,g⟩:=J;simp only at m g;obtain⟨z3,key⟩:=aiy n x w _ m (U.rt q);have Y:∀h,(eZ bk)[i]'h=aj v:=fun h=>by rw[cl hi]at u;simp only[dS]at u;simp[eZ,u]
   simp[aE,aD];(repeat' first|refine aq ?_|simp[Y,hi]);(refine CallDo.ob (sH Q v x w q) ci bv bv d7 ?_;rintro r A ⟨rfl,rfl⟩;refine⟨(Same.keys co co),?_⟩;simp[cJ,aO,aD,aE]);(repeat' first|refine aq ?_|simp);(refine CallDo.ob (key) ci bv bv d7 ?_;rintro r A ⟨rfl,rfl⟩;refine⟨(Same.keys co co),?_⟩;simp[cJ,aO,aD,aE]);cases f with
   |false=>simp at g;subst g;simp at y;subst y;(repeat' first|refine aq ?_|simp);refine c3.at (aO d) Ψ (ct _) (Same.keys (by simp[aO,aD]) (by simp[aO,aD])) (by simp only[aO,aD];exact aW) (by simp only[aO,aD];exact aW) ?_;simp[c9,ba,bd,a1,aO,aD,hb];exact⟨d,Ψ⟩
   |true=>
    simp only[Bool.true_eq_false,if_false]at g;by_cases aw:x=v/\d.shd x=false
    ·rw[if_pos aw]at g;obtain⟨W,ng⟩:=aw;subst W;have uF:(dn x d.shaped).getD false=false:=ng;(repeat' first|refine aq ?_|simp[uF]);refine bV.rng (d,out) hi ⟨g,z3,M⟩ ?_;exact⟨by simp[fresh,aH,az,cb,aK,ad,aE,aD],ep (by simp[fresh,aH,az,cb,aK,ad,aE,aD]),er (by simp[fresh,aH,az,dU,aK,ad,aE,aD]),Ψ⟩
    ·rw[if_neg aw]at g;have V3:(x==v)=false\/((x==v)=true/\(dn x d.shaped).getD false=true):=by
      by_cases e:x=v
      ·right;refine⟨by simp[e],?_⟩;cases aC:d.shd x with
       |false=>exact absurd ⟨e,aC⟩ aw
       |true=>exact aC
      ·left;simp[e]
     by_cases H:5000<d.sz x\/400<out.length+1
     ·rw[if_pos H]at g;cases g;simp at y;subst y;have oq:(decide (5000<jO d.size x))=true\/(decide (5000<jO d.size x)=false/\400<out.length+1):=by
       by_cases e:5000<jO d.size x
       ·left;simp[e]
       ·right;exact⟨by simp[e],H.resolve_left e⟩
      have E:True:=trivial;have F:True:=trivial;rcases V3 with z|⟨z,E⟩;all_goals
       rcases oq with G|⟨G,F⟩
       all_goals
        ((repeat' first|refine aq ?_|simp[z,E,G,F]|((first|apply cu|apply cy|apply cx)<;>intro h<;>try simp at h))<;>(try exact c4))
        refine c3.at (aO d) Ψ (ct _) (Same.keys (by simp[aO,aD]) (by simp[aO,aD])) (by simp only[aO,aD];exact aW) (by simp only[aO,aD];exact aW) ?_
        simp[c9,ba,bd,a1,aO,aD,hb]
        exact⟨d,Ψ⟩
     ·rw[if_neg H]at g;have G:decide (5000<jO d.size x)=false:=by simp;exact Int.not_lt.1 fun h=>H (.inl h)
      have F:¬400<out.length+1:=fun h=>H (.inr h);have E:True:=trivial;rcases V3 with z|⟨z,E⟩;all_goals
       ((repeat' first|refine aq ?_|simp[z,E,G,F]|((first|apply cu|apply cy|apply cx)<;>intro h<;>try simp at h))<;>(try exact c4))
       all_goals try refine⟨by unfold lim;omega,?_⟩
       ((repeat' first|refine aq ?_|simp[z,E,G,F]|((first|apply cu|apply cy|apply cx)<;>intro h<;>try simp at h))<;>(try exact c4))
       refine bV.rng (d,out++[v]) hi ⟨g,z3,by simp;omega⟩ ?_
       exact⟨by simp[fresh,aH,az,cb,aK,ad,aE,aD,Km,kC],ep (by simp[fresh,aH,az,cb,aK,ad,aE,aD,Km,kC]),er (by simp[fresh,aH,az,dU,aK,ad,aE,aD,Km,kC]),Ψ⟩
def abt:∀{a b:T},a.tm=b.tm->a=b:=by
 intro a;induction a with
 |pair x y d c=>intro b h;cases b<;>simp[T.tm]at h;rw[d h.1,c h.2]
 |_=>intro b h;cases b<;>simp[T.tm]at h⊢ <;>exact h
def acO(l:List Bt):Prop:= ∃s:List Bd,l=s.map Bd.b/\rn s/\jw s/\ir s
def J8(l:List Bt):Prop:= ∃s:List Bd,l=s.map Bd.b/\rn s/\gz s/\ir s
def Q8:∀{l:List Bt},(∀b∈l,b.t.fits=true)->∃s:List Bd,l=s.map Bd.b/\AU s
 |[],_=>⟨[],rfl,fun b d=>by simp at d⟩
 |b::l,h=>by
  obtain⟨s,J,U⟩:=Q8 (l:=l) fun c aw=>h c (by simp[aw]);obtain⟨x,a,e⟩:=Tm.fits_ex (h b Ψ);refine⟨⟨b.v,x⟩::s,by rw[J];simp[Bd.b,a],fun c aw=>?_⟩;rcases gK.1 aw with rfl|aw
  ·exact e
  ·exact U c aw
def JQ{l:List Bt}:Am l↔acO l:=by
 constructor
 ·rintro⟨J,U⟩;obtain⟨s,rfl,f⟩:=Q8 (l:=l) fun b a=>by obtain⟨i,hi,e⟩:=pk a;exact(U i hi b (by rw[cl hi,e])).2.2
  have n:∀b∈s,b.t.ok=true/\b.t.size<=5000:=fun b a=>by have:=f b a;simpa[T.fit]using this
  refine⟨s,rfl,fun b a=>⟨?_,(n b a).1⟩,?_,by simpa using J,fun b a=>(n b a).2⟩
  ·obtain⟨i,hi,e⟩:=pk a;have:=(U i (by simpa using hi) b.b (by simp[cl hi,e])).1;exact this
  ·rw[jw,qS];have g:∀i (h:i+1<s.length),s[i].v<s[i+1].v:=fun i h=>by have:=(U (i+1) (by simpa using h) s[i+1].b (by simp[cl h])).2.1 s[i].b Ω (by simp[cl (show i<s.length by omega)]);exact this
   have:∀(d i:Nat) (h:i+d+1<s.length),s[i].v<s[i+d+1].v:=by
    intro d;induction d with
    |zero=>intro i h;exact g i h
    |succ d p=>intro i h;have o:=p i Ω;have a2:=g (i+d+1) Ω;simp only[Nat.add_assoc]at o a2⊢;omega
   intro i j hi w u;have:=this (j-i-1) i Ω;simpa[show i+(j-i-1)+1=j from by omega]using this
 ·rintro⟨s,rfl,ar,q,m⟩;refine⟨by simpa using m.1,fun i hi b a=>?_⟩;simp only[List.getElem?_map,hl]at a;obtain⟨c,aw,rfl⟩:=a;have hm:=fx aw;refine⟨(ar c hm).1,fun d v k=>?_,?_⟩
  ·simp only[List.getElem?_map,hl]at k;obtain⟨e,he,rfl⟩:=k;obtain⟨J,r⟩:=fM.1 he;obtain⟨U,t⟩:=fM.1 aw;have:=qS.1 q (i-1) i J U Ω;rw[r,t]at this;exact this
  ·show c.t.tm.fits=true;rw[Tm.fits_T];simp[T.fit,(ar c hm).2,m.2 c hm]
def wX(s:List Bd)(v:Int)(f:Bool):Bool:=if 0<=og s v then false else f
def ny(s:List Bd)(b:Bd):Bool:=b.t.fold (wX s) true&& !(b.t.kind==1&&decide (b.v<=b.t.int))
def UE{s:List Bd}(e:jw s)(t:T):∀f:Bool,t.fold (wX s) f=true↔f=true/\∀w,t.occ w=true->dD s w=none:=by
 induction t with
 |var n=>
  intro f;simp only[T.fold,T.occ,ey,wX];have:=UA e n;by_cases h:0<=og s n
  ·rw[if_pos h];constructor
   ·intro h;cases h
   ·rintro⟨_,U⟩;have:=this.2 (U n rfl);omega
  ·rw[if_neg h];exact⟨fun i=>⟨i,fun w hw=>by subst hw;exact this.1 Ω⟩,fun h=>h.1⟩
 |pair a b d c=>
  intro f;simp only[T.fold,d,c,T.occ,n2];constructor
  ·rintro⟨⟨J,U⟩,g⟩;exact⟨J,fun w hw=>hw.elim (U w) (g w)⟩
  ·rintro⟨J,U⟩;exact⟨⟨J,fun w hw=>U w (.inl hw)⟩,fun w hw=>U w (.inr hw)⟩
 |_=>intro f;simp[T.fold,T.occ]
def Ko{s:List Bd}(c:jw s)(b:Bd):ny s b=true↔(∀w,b.t.occ w=true->dD s w=none)/\∀w,b.t= .var w->w<b.v:=by
 unfold ny;rw[cP,UE c];simp only[true_and];refine and_congr_right fun _=>?_;constructor
 ·intro h w hw;have a:(b.t.kind==1)=true:=by rw[hw];rfl
  have hi:b.t.int=w:=by rw[hw];rfl
  rw[a,hi]at h;simpa using h
 ·intro h;cases a:(b.t.kind==1)with
  |false=>rfl
  |true=>
   obtain⟨w,hw⟩:∃w,b.t= .var w:=by
    cases e:b.t with
    |var w=>exact⟨w,rfl⟩
    |_=>rw[e]at a;simp at a
   have hi:b.t.int=w:=by rw[hw];rfl
   have:=h w hw;rw[hi];simpa using this
def aaP{s:List Bd}(c:jw s):gz s↔∀b∈s,ny s b=true:=by
 constructor
 ·intro h b a;exact(Ko c b).2 ⟨h.free b a,h.ori b a⟩
 ·intro h;exact⟨c,fun b a=>((Ko c b).1 (h b a)).1,fun b a=>((Ko c b).1 (h b a)).2⟩
def tf{α:Type}(p:α->Bool)(s:List α)(i:Nat)(_:Unit):Prop:= ∀k b,k<i->s[k]? =some b->p b=true
def tf.step{α:Type}{p:α->Bool}{s:List α}{i:Nat}(h:tf p s i ()){b:α}(d:s[i]? =some b)(a:p b=true):tf p s (i+1) ():=fun k c e aw=>by
 rcases(by omega:k<i\/k=i)with J|rfl
 ·exact h k c J aw
 ·rw[d]at aw;cases aw;exact a
open Classical in
noncomputable def hx(l:List Bt):Bool:=decide (J8 l)
def sn{l:List Bt}:hx l=true↔J8 l:=by unfold hx;simp
def jx(f:Bool):cQ:=⟨[(.obj 731,[.bool f])],[]⟩
def wM(f:Bool):eB (jx f):=by unfold jx;exact eB.of ⟨by intro m;simp[ad],by intro m;simp[ad]⟩ Ψ Ψ
def acE(a b:Bool):Same (jx a) (jx b):=Same.keys (by simp[jx]) (by simp[jx])
def ahL(s:List Bd)(a:s.length<=1000000)(v:Int)(f:Bool):bD au 159 [aj v,.eptr (bK (s.map Bd.e)),.ptr (.obj 731) 0] (jx f) fun r d=>r= .tuple []/\d=jx (wX s v f):=by
 have b:=wM f;simp only[jx]at b⊢;by_cases h:0<=og s v
 ·rw[wX,if_pos h];refine bD.mk mixed a7 Tryz.func159 Yq Ψ b.obj fun e c=>?_;unfold Kv;simp;(repeat' first|refine aq ?_|refine aP (vd s v a) ?_|refine aQ (vd s v a) ?_|simp[h]);(refine c3.at (jx false) Ψ (by first|exact wM _|exact wM ‹_› _) (Same.keys (by simp[jx]) (by simp[jx])) (by simp only[jx,b3,ca];exact aW) (by simp only[jx,b3,ca];exact aW) ?_;simp[c9,ba,bd,a1,aK,ad,jx])
 ·rw[wX,if_neg h];refine bD.mk mixed a7 Tryz.func159 Yq Ψ b.obj fun e c=>?_;unfold Kv;simp;(repeat' first|refine aq ?_|refine aP (vd s v a) ?_|refine aQ (vd s v a) ?_|simp[h]);(refine c3.at (jx f) Ψ (by first|exact wM _|exact wM ‹_› _) (Same.keys (by simp[jx]) (by simp[jx])) (by simp only[jx,b3,ca];exact aW) (by simp only[jx,b3,ca];exact aW) ?_;simp[c9,ba,bd,a1,aK,ad,jx])
def P7(l:List Bt):bX au 86 [bK (l.map Bt.e)] (.bool (hx l)):=by
 have q:=aq3 l;by_cases h:Am l;rotate_left
 ·have n:hx l=false:=by unfold hx;simp only[iL];rintro⟨s,J,U,g,B⟩;exact h (JQ.2 ⟨s,J,U,g.asc,B⟩)
  rw[n];refine bL a7 Tryz.func86 Yp fun L=>?_;unfold Ku;exact cB
 ·obtain⟨s,rfl,ar,G,E⟩:=JQ.1 h;have H:s.length<=1000000:=by have:=E.1;omega
  have K:(s.map Bd.b).map Bt.e=s.map Bd.e:=by rw[List.map_map];exact List.map_congr_left fun b _=>Bd.b_e b
  have n:hx (s.map Bd.b)=s.all (ny s):=by
   rw[qP,j7,sn,<-aaP G];constructor
   ·rintro⟨A,J,U,g,B⟩;have:A=s:=by
     have o:∀a b:List Bd,a.map Bd.b=b.map Bd.b->a=b:=by
      intro a;induction a with
      |nil=>intro b c;cases b<;>simp at c⊢
      |cons x a F=>
       intro b c;cases b with
       |nil=>simp at c
       |cons y b=>simp only[hc,rD,Bd.b,Bt.mk.injEq]at c;rw[F b c.2];have:=abt c.1.2;obtain⟨⟨M,_⟩,_⟩:=c;cases x;cases y;simp_all
     exact(o _ _ J).symm
    rw[<-this];exact g
   ·intro g;exact⟨s,rfl,ar,g,E⟩
  rw[n];rw[K]at q⊢;refine bL a7 Tryz.func86 Yp fun L=>?_;unfold Ku;simp;(repeat' first|refine aq ?_|refine aP q ?_|refine aQ q ?_|simp[h]);refine fX (α:=Unit) (fun i _=>⟨[(1,.eptr (bK (s.map Bd.e))),(9,bK (s.map Bd.e)),(10,aj s.length),(11,aj i)],[],[],1,[]⟩) s.length (tf (ny s) s) () cc (fun k b d=>Ω) (fun _ m _=>?_) (fun i _ hi m _=>?_)
  ·have:s.all (ny s)=true:=by rw[j7];intro b c;obtain⟨k,d,e⟩:=pk c;exact m k b d (by rw[cl d,e])
   rw[this];exact cB
  ·obtain⟨b,f⟩:∃b,s[i]? =some b:=⟨_,cl hi⟩;have w:∀h,(s[i]'h)=b:=fun h=>by rw[cl hi]at f;exact e7 f
   have key:=UQ jx wM acE 159 [.eptr (bK (s.map Bd.e)),.ptr (.obj 731) 0] (fun a=>by simp[jx,aK,ad]) Ψ (wX s) (fun v a=>ahL s H v a) b.t true;have u:ny s b=false->s.all (ny s)=false:=fun h=>by rw[Bool.eq_false_iff];intro z;rw[j7]at z;rw[z b (fx f)]at h;cases h
   simp[hi,w];(repeat' first|refine aq ?_|simp[w,hi]);(refine CallDo.ob (key) (by first|exact wM _|exact wM ‹_› _) (by simp only[jx,b3,ca];exact aW) (by simp only[jx,b3,ca];exact aW) (by simp[aK,ad,jx]) ?_;rintro r A ⟨rfl,rfl⟩;refine⟨(Same.keys (by simp[jx]) (by simp[jx])),?_⟩;simp[cJ,jx]);generalize p:b.t.fold (wX s) true=t;have j:ny s b=(t&& !(b.t.kind==1&&decide (b.v<=b.t.int))):=by unfold ny;rw[p]
   cases t with
   |false=>rw[u (by rw[j];rfl)];exact cB
   |true=>
    cases d:(b.t.kind==1)with
    |false=>(repeat' first|refine aq ?_|simp[d]);refine bV.rng () hi (m.step f (by rw[j,d];rfl)) ?_;exact cc
    |true=>
     by_cases hle:b.v<=b.t.int
     ·rw[u (by rw[j,d];simp[hle])];exact cB
     ·(repeat' first|refine aq ?_|simp[d,hle]);refine bV.rng () hi (m.step f (by rw[j,d];simp[hle])) ?_;exact cc
@[simp]def auH(S:aA->Prop):aH S (kT [])=True:=h0 (nQ S [])
def aip(n:Nat)(s:List Bd)(l r:List T)(P:l.length=r.length)(V:s.length<=1000000)(S:l.length<=1000000)(o:bc (List Bd))(he:Cv n (iG s++l.zip r)=some o)
  (hinv:∀c,qX n (iG s++l.zip r) bH.new=some (true,c)->(cF c.up).Nodup/\c.up.length<=1000000/\nx c):bX au 186 [bK (s.map Bd.e),eb (l.map T.e),eb (r.map T.e)] (hb o):=by
 obtain⟨E,t⟩:∃E,E=iG s++l.zip r:=⟨_,rfl⟩;rw[<-t]at he hinv;simp only[Cv,n4]at he;obtain⟨fin,L,g⟩:=he;have hlen:E.length=s.length+l.length:=by rw[t];simp[iG,P]
 have G:∀i b,s[i]? =some b->E.drop i=(.var b.v,b.t)::E.drop (i+1):=fun i b e=>by
  have hi:=(fM.1 e).1;have be:E[i]? =some (.var b.v,b.t):=by rw[t,rE (by simp[iG];exact hi)];simp[iG,e]
  rw[lA Ω];rw[cl Ω]at be;simp only[dS]at be;rw[be]
 have H:∀i a b,l[i]? =some a->r[i]? =some b->E.drop (s.length+i)=(a,b)::E.drop (s.length+(i+1)):=fun i a b j e=>by
  have hi:=(fM.1 j).1;have be:E[s.length+i]? =some (a,b):=by rw[t,vg (by simp[iG])];simp[iG,List.getElem?_zip_eq_some,j,e]
  rw[lA Ω];rw[cl Ω]at be;simp only[dS]at be;rw[be];rfl
 refine bL a7 Tryz.func186 am7 fun X=>?_;unfold RX;simp;refine CallDo.new aic (eB.of sc Ψ Ψ) (fun k cs h=>by simp[ad]at h) (fun k cs h=>by simp[ad]at h) Ψ ?_;rintro r0 s0 ⟨rfl,rfl⟩;refine⟨fun m hm=>.inr Ψ,?_⟩;simp[aO,aD,cJ,aE];refine fX (α:=bH) (fun i c=>⟨[(1,eb (l.map T.e)),(2,eb (r.map T.e)),(8,aE),(13,bK (s.map Bd.e)),(14,aj s.length),(15,aj i)],aD c,[],0,[.obj 702,.obj 703,.obj 704,.obj 705,.obj 706,.obj 707]⟩) s.length (fun i c=>qX n (E.drop i) c=some fin) bH.new (by simp[aE,aD];exact⟨by simp[fresh,aH,az,cb,aK,ad,aE,aD,bH.new],ep (by simp[fresh,aH,az,cb,aK,ad,aE,aD,bH.new]),er (by simp[fresh,aH,az,dU,aK,ad,aE,aD,bH.new]),Ψ⟩) (by simpa using L) ?_ ?_
 ·rintro c J e;simp[aE,aD];refine fX (α:=bH) (fun i c=>⟨[(1,eb (l.map T.e)),(2,eb (r.map T.e)),(8,aE),(37,aj l.length),(38,aj i)],aD c,[],0,[.obj 702,.obj 703,.obj 704,.obj 705,.obj 706,.obj 707]⟩) l.length (fun i c=>qX n (E.drop (s.length+i)) c=some fin) c (by simp[aE,aD];exact⟨by simp[fresh,aH,az,cb,aK,ad,aE,aD],ep (by simp[fresh,aH,az,cb,aK,ad,aE,aD]),er (by simp[fresh,aH,az,dU,aK,ad,aE,aD]),Ψ⟩) J ?_ ?_
  ·rintro p J e;rw[List.drop_eq_nil_of_le Ω]at J;simp[qX]at J;subst J;simp at g;obtain⟨R,O,N⟩:=hinv p L;simp[aE,aD];refine CallDo.ob (aiq n p o g R O N) (ct _) (by simp only[aO,aD];exact aW) (by simp only[aO,aD];exact aW) d7 ?_;rintro r0 s0 ⟨rfl,W,rfl⟩;refine⟨Same.keys (by simp[aO,aD]) (by simp[aO,aD]),?_⟩;simp[cJ,aO,aD,hb];exact cB
  ·rintro i c hi J e;simp only at J e⊢;obtain⟨a,j⟩:∃a,l[i]? =some a:=⟨_,cl hi⟩;obtain⟨b,A⟩:∃b,r[i]? =some b:=⟨_,cl Ω⟩;have w:∀h,(l[i]'h)=a:=fun h=>by rw[cl hi]at j;exact e7 j
   have z:∀h,(r[i]'h)=b:=fun h=>by rw[cl h]at A;exact e7 A
   have v:i<r.length:=Ω
   rw[H i a b j A]at J;simp only[qX,n4]at J;obtain⟨p,U,B,u,⟨f,y⟩,q,d⟩:=J;simp only at q d;have key:=US n _ _ _ _ q;simp[aE,aD];(repeat' first|refine aq ?_|simp[w,z,hi,v]);(refine CallDo.ob (LO c a p U) ci bv bv d7 ?_;rintro r F ⟨rfl,rfl⟩;refine⟨(Same.keys co co),?_⟩;simp[cJ,aO,aD,aE]);(repeat' first|refine aq ?_|simp[w,z,hi,v]);(refine CallDo.ob (LO p b B u) ci bv bv d7 ?_;rintro r F ⟨rfl,rfl⟩;refine⟨(Same.keys co co),?_⟩;simp[cJ,aO,aD,aE]);(repeat' first|refine aq ?_|simp[w,z,hi,v]);(refine hn.ob (key) ci ci (Same.keys co co) bv bv d7 ?_;simp[cJ,aO,aD,aE]);cases f with
   |false=>simp at d;subst d;simp at g;subst g;(repeat' first|refine aq ?_|simp);simp[b0,ba,bd,a1];simp[hb]
   |true=>simp at d;(repeat' first|refine aq ?_|simp);refine bV.rng y hi d ?_;simp[aE,aD];exact⟨by simp[fresh,aH,az,cb,aK,ad,aE,aD],ep (by simp[fresh,aH,az,cb,aK,ad,aE,aD]),er (by simp[fresh,aH,az,dU,aK,ad,aE,aD]),Ψ⟩
 ·rintro i c hi J e;simp only at J e⊢;obtain⟨b,Q,M⟩:=eX hi;rw[G i b Q]at J;simp only[qX,n4]at J;obtain⟨p,U,B,u,⟨f,y⟩,q,d⟩:=J;simp only[BN,T.foldO,hl]at U;obtain⟨⟨x,K⟩,U,rfl⟩:=U;simp only at U u q d;have key:=US n _ _ _ _ q;simp[aE,aD];(repeat' first|refine aq ?_|simp[M,hi]);(refine CallDo.ob (sH c b.v x K U) ci bv bv d7 ?_;rintro r F ⟨rfl,rfl⟩;refine⟨(Same.keys co co),?_⟩;simp[cJ,aO,aD,aE]);(repeat' first|refine aq ?_|simp);(refine CallDo.ob (LO K b.t B u) ci bv bv d7 ?_;rintro r F ⟨rfl,rfl⟩;refine⟨(Same.keys co co),?_⟩;simp[cJ,aO,aD,aE]);(repeat' first|refine aq ?_|refine aP (lT _) ?_|refine aQ (lT _) ?_|simp);(refine hn.ob (key) ci ci (Same.keys co co) bv bv d7 ?_;simp[cJ,aO,aD,aE]);cases f with
  |false=>simp at d;subst d;simp at g;subst g;(repeat' first|refine aq ?_|simp);simp[b0,ba,bd,a1];simp[hb]
  |true=>simp at d;(repeat' first|refine aq ?_|simp);refine bV.rng y hi d ?_;simp[aE,aD];exact⟨by simp[fresh,aH,az,cb,aK,ad,aE,aD],ep (by simp[fresh,aH,az,cb,aK,ad,aE,aD]),er (by simp[fresh,aH,az,dU,aK,ad,aE,aD]),Ψ⟩
def arY(s:List Bd)(l r:List T)(k:l.length=r.length)(u:gz s)(p:ir s)(ar:rn s)(g:l.length<=1000000)(J:∀t∈l,t.ok=true)(U:∀t∈r,t.ok=true):
  bX au 186 [bK (s.map Bd.e),eb (l.map T.e),eb (r.map T.e)] (hb (mgu s (l.zip r))):=by
 have d:∀e∈iG s++l.zip r,e.1.ok=true/\e.2.ok=true:=fun e he=>by
  rcases j2.1 he with he|he
  ·obtain⟨b,m,rfl⟩:=hz.1 he;have:=ar b m;exact⟨by simpa[T.ok]using this.1,this.2⟩
  ·exact⟨J _ (List.of_mem_zip he).1,U _ (List.of_mem_zip he).2⟩
 have h:Od (iG s++l.zip r):=fun e he v a=>by
  rcases a with a|a
  ·exact(yk (d e he).1 a).1
  ·exact(yk (d e he).2 a).1
 obtain⟨n,o,q,j,i⟩:=aqg _ h;rw[tu (acM.1 j)];refine aip n s l r k (by have:=p.1;omega) g o q fun c aw=>?_;obtain⟨f,a2,a3⟩:=i c aw;have:=WY f fun v a=>by
  obtain⟨e,he,a⟩:=a2 v a;rcases a with a|a
  ·exact yk (d e he).1 a
  ·exact yk (d e he).2 a
 refine⟨f,by simp[cF]at this;omega,fun x=>?_⟩;simp[bH.sz,a3,dn]
structure fm (s:List Bd):Prop where
 ok:rn s
 sol:gz s
 fits:ir s
def fm.len{s:List Bd}(h:fm s):s.length<=1000000:=by have:=h.fits.1;omega
def fm.fit{s:List Bd}(h:fm s):AU s:=fun b a=>by simp[T.fit,(h.ok b a).2,h.fits.2 b a]
def fm.mgu{s:List Bd}(h:fm s){E:List (T×T)}(b:∀e∈E,e.1.ok=true/\e.2.ok=true){a:List Bd}(hm:mgu s E=some a):fm a:=⟨alM h.sol h.fits h.ok b hm,(BO h.sol h.fits hm).1,(BO h.sol h.fits hm).2⟩
def zy(s:List Bd):(s.map Bd.b).map Bt.e=s.map Bd.e:=by rw[List.map_map];exact List.map_congr_left fun b _=>Bd.b_e b
def rz{s:List Bd}(h:fm s):bX au 86 [bK (s.map Bd.e)] (.bool true):=by have:=P7 (s.map Bd.b);rw[zy,sn.2 ⟨s,rfl,h.ok,h.sol,h.fits⟩]at this;exact this
def akT(t:List Bd)(i:Nat)(p:List T×List T):Prop:=p.1=(t.take i).map (fun b=>T.var b.v)/\p.2=(t.take i).map (·.t)
def arh(t:List Bd)(s:t.length<=1000000):bX au 205 [bK (t.map Bd.e)] (.tuple [eb ((t.map fun b=>T.var b.v).map T.e),eb ((t.map (·.t)).map T.e)]):=by
 generalize bu:((t.map fun b=>T.var b.v).map T.e)=q;generalize f:((t.map fun x=>x.t).map T.e)=o;have k:∀S:aA->Prop,aH S q=True:=fun S=>by rw[<-bu];exact W6 S _
 have j:∀S:aA->Prop,aH S o=True:=fun S=>by rw[<-f];exact W6 S _
 refine bX.mk mixed a7 Tryz.func205 amU Ψ (by simp[az,k,j]) fun r=>?_;unfold RK;simp;refine fX (α:=List T×List T) (fun i p=>⟨[(10,bK (t.map Bd.e)),(11,aj t.length),(4,.slice 4 (.own (.loc 0)) (p.1.map T.e)),(5,.slice 4 (.own (.loc 1)) (p.2.map T.e)),(12,aj i)],[],[(.loc 0,⟨p.1.length,30,4,none⟩),(.loc 1,⟨p.2.length,30,4,none⟩)],2,[]⟩) t.length (akT t) ([],[]) cc ⟨Ψ,Ψ⟩ (fun p d _=>?_) (fun i p hi d _=>?_)
 ·obtain⟨A,B⟩:=p;obtain⟨c,a⟩:=d;simp only at c a⊢;rw[iE (dL _)]at c a;rw[<-bu,<-f,<-c,<-a];simp;(repeat' first|refine aq ?_|simp);simp[b0,ba,bd,a1]
 ·obtain⟨A,B⟩:=p;obtain⟨c,a⟩:=d;simp only at c a⊢;obtain⟨b,n,g⟩:=eX hi;have e:t.take (i+1)=t.take i++[b]:=by rw[List.take_succ,n];rfl
  have m:A.length<=1000000:=by rw[c];simp;omega
  have l:B.length<=1000000:=by rw[a];simp;omega
  simp[hi,g];((repeat' first|refine aq ?_|refine aP (lT _) ?_|refine aQ (lT _) ?_|simp[g,hi]|((first|apply cu|apply cy|apply cx)<;>intro h<;>try simp at h))<;>(try exact c4));all_goals try refine⟨by unfold lim;omega,?_⟩
  (repeat' first|refine aq ?_|simp);all_goals try refine⟨by unfold lim;omega,?_⟩
  (repeat' first|refine aq ?_|simp);refine bV.rng (A++[.var b.v],B++[b.t]) hi ⟨by rw[e,c];simp,by rw[e,a];simp⟩ ?_;simp;exact⟨by simp[fresh,aH,az,cb,aK,ad,kC],ep (by simp[fresh,aH,az,cb,aK,ad,kC]),er (by simp[fresh,aH,az,dU,aK,ad,kC]),Ψ⟩
def aqV{s t:List Bd}(c:fm s)(a:fm t):bX au 165 [bK (s.map Bd.e),bK (t.map Bd.e)] (hb (mgu s (iG t))):=by
 have f:(t.map fun b=>T.var b.v).zip (t.map (·.t))=iG t:=by rw[iG,List.zip_map']
 have key:=arY s (t.map fun b=>T.var b.v) (t.map (·.t)) Ψ c.sol c.fits c.ok (by simpa using a.len) (fun x e=>by
  obtain⟨b,d,rfl⟩:=hz.1 e;have:=a.ok b d;simpa[T.ok]using this.1) (fun x e=>by
  obtain⟨b,d,rfl⟩:=hz.1 e;exact(a.ok b d).2)
 rw[f]at key;have heq:=arh t a.len;generalize (t.map fun b=>T.var b.v)=A at key heq;generalize (t.map fun x=>x.t)=B at key heq;refine bL a7 Tryz.func165 amw fun g=>?_;unfold Rm;simp;(repeat' first|refine aq ?_|refine aP (rz c) ?_|refine aQ (rz c) ?_|refine aP (rz a) ?_|refine aQ (rz a) ?_|refine aP heq ?_|refine aQ heq ?_|refine aP key ?_|refine aQ key ?_|simp);simp[b0,ba,bd,a1];simp[hb]
def nZ{α:Type}{t:List α}{i:Nat}{b:α}(a:t[i]? =some b):t.take (i+1)=t.take i++[b]:=by rw[List.take_succ,a];rfl
def hv(s t:List Bd):List Bd:=t.filter fun b=>(dD s b.v).isNone
def r9(s t:List Bd)(i:Nat)(out:List Bd):Prop:=out=hv s (t.take i)
def aqZ{s t:List Bd}(a:fm s)(g:fm t):bX au 166 [bK (s.map Bd.e),bK (t.map Bd.e)] (bK ((hv s t).map Bd.e)):=by
 have k:=g.len;generalize bu:hv s t=R;refine bL a7 Tryz.func166 amB fun m=>?_;unfold Rr;simp;(repeat' first|refine aq ?_|refine aP (rz a) ?_|refine aQ (rz a) ?_|refine aP (rz g) ?_|refine aQ (rz g) ?_|simp);refine fX (α:=List Bd) (fun i out=>⟨[(0,bK (s.map Bd.e)),(17,bK (t.map Bd.e)),(18,aj t.length),(5,.slice 5 (.own (.loc 0)) (out.map Bd.e)),(19,aj i)],[],[(.loc 0,⟨out.length,113,5,none⟩)],1,[]⟩) t.length (r9 s t) [] cc (by simp[r9,hv]) (fun out c _=>?_) (fun i out hi c _=>?_)
 ·rw[r9,iE (dL _),bu]at c;rw[<-c];exact cB
 ·obtain⟨b,j,f⟩:=eX hi;have l:out.length<=1000000:=by
   have:out.length<=(t.take i).length:=by rw[c];exact List.length_filter_le _ _
   simp at this;omega
  have h:=UA a.sol.asc b.v;simp[hi,f];by_cases d:og s b.v<0
  ·(repeat' first|refine aq ?_|refine aP (vd s b.v a.len) ?_|refine aQ (vd s b.v a.len) ?_|refine aP (yi _) ?_|refine aQ (yi _) ?_|simp[f,hi,d]);all_goals try refine⟨by unfold lim;omega,?_⟩
   (repeat' first|refine aq ?_|simp);refine bV.rng (out++[b]) hi (by rw[r9,nZ j,hv,List.filter_append,c];simp[hv,h.1 d]) ?_;simp;exact⟨by simp[fresh,aH,az,cb,aK,ad,kC],ep (by simp[fresh,aH,az,cb,aK,ad,kC]),er (by simp[fresh,aH,az,dU,aK,ad,kC]),Ψ⟩
  ·(repeat' first|refine aq ?_|refine aP (vd s b.v a.len) ?_|refine aQ (vd s b.v a.len) ?_|simp[f,hi,d]);refine bV.rng out hi (by
    have:dD s b.v≠none:=fun e=>d (h.2 e);rw[r9,nZ j,hv,List.filter_append,c];cases e:dD s b.v with
    |none=>exact absurd e this
    |some x=>simp[hv,e]) ?_
   exact cc
def tt(t:List Bd)(b:Bd):Bool:=decide (cO t b.v=b.t.ap (cO t))
def oA(s t:List Bd):Bool:=s.all (tt t)
def Fk{t:List Bd}(a:fm t)(v:Int):(cO t v).size<=5000:=by
 unfold cO;cases e:dD t v with
 |none=>simp[T.size]
 |some x=>exact a.fits.2 _ (kJ e)
def abX(s:List Bd){t:List Bd}(u:s.length<=1000000)(d:fm t):bX au 208 [bK (s.map Bd.e),bK (t.map Bd.e)] (.bool (oA s t)):=by
 refine bL a7 Tryz.func208 amX fun v=>?_;unfold RN;simp;refine eY [1,11,12] (fun i (_:Unit)=>[(13,aj i)]) s.length (tf (tt t) s) () cc (fun k b l=>Ω) (fun _ j _=>?_) (fun i _ hi j _=>?_)
 ·have:oA s t=true:=by rw[oA,j7];intro b r;obtain⟨k,l,e⟩:=pk r;exact j k b l (by rw[cl l,e])
  rw[this];exact cB
 ·obtain⟨b,p,g⟩:=eX hi;have n:tt t b=false->oA s t=false:=fun h=>by rw[Bool.eq_false_iff];intro o;rw[oA,j7]at o;rw[o b (fx p)]at h;cases h
  have a:=JP t (.var b.v) d.len d.sol.asc d.fit;have c:=JP t b.t d.len d.sol.asc d.fit;have m:=Fk d b.v;have q:((T.var b.v).ap (cO t)).size<=5000:=m;rw[if_pos q,n5 q]at a;rw[show(T.var b.v).ap (cO t)=cO t b.v from rfl]at a;simp[hi,g];by_cases f:(b.t.ap (cO t)).size<=5000
  ·rw[if_pos f,n5 f]at c;by_cases he:cO t b.v=b.t.ap (cO t)
   ·rw[he]at a;(repeat' first|refine aq ?_|refine aP (lT _) ?_|refine aQ (lT _) ?_|refine aP a ?_|refine aQ a ?_|refine aP c ?_|refine aQ c ?_|refine aP (vc _ _) ?_|refine aQ (vc _ _) ?_|simp[g,hi,he]);exact bV.rng () hi (j.step p (by simp[tt,he])) cc
   ·rw[n (by simp[tt,he])];(repeat' first|refine aq ?_|refine aP (lT _) ?_|refine aQ (lT _) ?_|refine aP a ?_|refine aQ a ?_|refine aP c ?_|refine aQ c ?_|refine aP (vc _ _) ?_|refine aQ (vc _ _) ?_|simp[g,hi,he]);simp[b0,ba,bd,a1]
  ·rw[if_neg f,po f]at c;rw[n (by simp only[tt,iL];intro e;rw[<-e]at f;exact f m)];(repeat' first|refine aq ?_|refine aP (lT _) ?_|refine aQ (lT _) ?_|refine aP a ?_|refine aQ a ?_|refine aP c ?_|refine aQ c ?_|refine aP (vc _ _) ?_|refine aQ (vc _ _) ?_|simp[g,hi]);simp[b0,ba,bd,a1]
def Ep(c:Bd->Bd->Int):∀a b:List Bd,a=[]\/b=[]->kD c a b=e6 a.length b.length
 |[],[],_=>by simp[kD,e6]
 |[],_::_,_=>by simp[kD,e6]<;>omega
 |_::_,[],_=>by simp[kD,e6]<;>omega
 |_::_,_::_,h=>by simp at h
def YQ(x y:Bd)(xs ys:List Bd):e5 (x::xs) (y::ys)=if e6 x.v y.v=0 then(if e2 x.t y.t=0 then e5 xs ys else e2 x.t y.t)else e6 x.v y.v:=by
 by_cases a:e6 x.v y.v=0
 ·by_cases b:e2 x.t y.t=0<;>simp[e5,kD,zI,a,b]
 ·simp[e5,kD,zI,a]
def YR(a b k:Int):e6 (a-k) (b-k)=e6 a b:=by unfold e6;(repeat' split)<;>omega
def M9(d e:List Bd)(i:Nat):Prop:=i<=d.length/\i<=e.length/\e5 (d.drop i) (e.drop i)=e5 d e
def JN(d e:List Bd):bX au 207 [bK (d.map Bd.e),bK (e.map Bd.e)] (aj (e5 d e)):=by
 generalize bu:e5 d e=R;refine bL a7 Tryz.func207 am0 fun l=>?_;unfold RQ;have q:d.length<=68719476736:=by simp[eP,eU,eQ,lim]at l;omega
 have he:e.length<=68719476736:=by simp[eP,eU,eQ,lim]at l;omega
 simp;refine w2 [0,1] (fun(i:Nat)=>[(5,aj i)]) (fun i=>d.length-i) (M9 d e) 0 cc ⟨Ω,Ω,Ψ⟩ (fun i n _=>?_);obtain⟨J,U,a⟩:=n;rw[bu]at a;by_cases hi:i<d.length
 ·by_cases b:i<e.length
  ·obtain⟨x,k⟩:∃x,d[i]? =some x:=⟨_,cl hi⟩;obtain⟨y,m⟩:∃y,e[i]? =some y:=⟨_,cl b⟩;have f:∀h,(d[i]'h)=x:=fun h=>by rw[cl hi]at k;exact e7 k
   have c:∀h,(e[i]'h)=y:=fun h=>by rw[cl b]at m;exact e7 m
   have p:d.drop i=x::d.drop (i+1):=by rw[lA hi,f]
   have o:e.drop i=y::e.drop (i+1):=by rw[lA b,c]
   rw[p,o]at a;rw[YQ]at a;simp[hi,b,f,c];by_cases g:e6 x.v y.v=0
   ·rw[if_pos g]at a;by_cases j:e2 x.t y.t=0
    ·rw[if_pos j]at a;(repeat' first|refine aq ?_|refine aP (pd _ _) ?_|refine aQ (pd _ _) ?_|refine aP (CG _ _) ?_|refine aQ (CG _ _) ?_|simp[f,c,hi,b,g,j]);refine bV.whl (i+1) Ω ⟨Ω,Ω,by rw[bu];exact a⟩ ?_;exact cc
    ·rw[if_neg j]at a;((repeat' first|refine aq ?_|refine aP (pd _ _) ?_|refine aQ (pd _ _) ?_|refine aP (CG _ _) ?_|refine aQ (CG _ _) ?_|simp[f,c,hi,b,g,j]|((first|apply cu|apply cy|apply cx)<;>intro h<;>try simp at h))<;>(try exact c4));simp[b0,ba,bd,a1];exact a
   ·rw[if_neg g]at a;((repeat' first|refine aq ?_|refine aP (pd _ _) ?_|refine aQ (pd _ _) ?_|simp[f,c,hi,b,g]|((first|apply cu|apply cy|apply cx)<;>intro h<;>try simp at h))<;>(try exact c4));simp[b0,ba,bd,a1];exact a
  ·have:e6 d.length e.length=R:=by rw[<-a,e5,Ep _ _ _ (.inr (List.drop_eq_nil_of_le Ω))];rw[<-YR d.length e.length i];simp only[tS];congr 1<;>omega
   simp[hi,b];(repeat' first|refine aq ?_|refine aP (pd _ _) ?_|refine aQ (pd _ _) ?_|simp[hi,b]);simp[b0,ba,bd,a1];exact this
 ·have:e6 d.length e.length=R:=by rw[<-a,e5,Ep _ _ _ (.inl (List.drop_eq_nil_of_le Ω))];rw[<-YR d.length e.length i];simp only[tS];congr 1<;>omega
  simp[hi];(repeat' first|refine aq ?_|refine aP (pd _ _) ?_|refine aQ (pd _ _) ?_|simp[hi]);simp[b0,ba,bd,a1];exact this
def abL(a b:List Bd)(w:a.length<=1000000):bX au 169 [bK (a.map Bd.e),bK (b.map Bd.e)] (.bool (decide (a=b))):=by
 by_cases r:a.length=b.length;rotate_left
 ·have s:decide (a=b)=false:=by simp only[iL];rintro rfl;exact r rfl
  have v:((a.length:Int) !=(b.length:Int))=true:=by simp;omega
  have u:¬(a.length:Int)=b.length:=Ω
  rw[s];refine bL a7 Tryz.func169 Yt fun t=>?_;unfold Ky;exact cB
 ·generalize bu:decide (a=b)=R;refine bL a7 Tryz.func169 Yt fun t=>?_;unfold Ky;simp;(repeat' first|refine aq ?_|simp[r]);refine eY [0,1,12] (fun i (_:Unit)=>[(13,aj i)]) b.length (fun i (_:Unit)=> ∀k,k<i->a[k]? =b[k]?) () cc (fun k p=>Ω) (fun _ o _=>?_) (fun i _ hi o _=>?_)
  ·have:R=true:=by
    rw[<-bu,gu];apply List.ext_getElem?;intro k;by_cases p:k<b.length
    ·exact o k p
    ·rw[qQ Ω,qQ Ω]
   rw[this];exact cB
  ·obtain⟨x,g⟩:∃x,a[i]? =some x:=⟨_,cl Ω⟩;obtain⟨y,c⟩:∃y,b[i]? =some y:=⟨_,cl hi⟩;have f:i<a.length:=Ω
   have m:∀h,(a[i]'h)=x:=fun h=>by rw[cl f]at g;exact e7 g
   have l:∀h,(b[i]'h)=y:=fun h=>by rw[cl hi]at c;exact e7 c
   have q:x≠y->R=false:=fun h=>by rw[<-bu,iL];rintro rfl;rw[g]at c;cases c;exact h rfl
   simp[hi,f,m,l];by_cases d:x.v=y.v
   ·have j:(x.v !=y.v)=false:=by simp[d]
    by_cases n:x.t=y.t
    ·(repeat' first|refine aq ?_|refine aP (vc _ _) ?_|refine aQ (vc _ _) ?_|simp[m,l,hi,f,d,j,n]);refine bV.rng () hi (fun k p=>?_) ?_
     ·rcases(by omega:k<i\/k=i)with h|rfl
      ·exact o k h
      ·rw[g,c];cases x;cases y;simp_all
     ·exact cc
    ·rw[q (fun e=>n (by rw[e]))];(repeat' first|refine aq ?_|refine aP (vc _ _) ?_|refine aQ (vc _ _) ?_|simp[m,l,hi,f,d,j,n]);simp[b0,ba,bd,a1]
   ·have j:(x.v !=y.v)=true:=by simp[d]
    rw[q (fun e=>d (by rw[e]))];exact cB
def jI(l:List (List Bd))(e:List Bd):Bool:=l.all fun d=>decide (d=e)|| !oA d e
def akY{l b:List (List Bd)}(h:∀x,x∈l↔x∈b)(e:List Bd):jI l e=jI b e:=by rw[qP,jI,jI,j7,j7];exact⟨fun J x a=>J x ((h x).2 a),fun J x a=>J x ((h x).1 a)⟩
def lO(l:List (List Bd)):List (List Bd):=(asc e5 l).filter (jI l)
def BP{l:List (List Bd)}{x:List Bd}:x∈lO l↔x∈l/\jI l x=true:=by rw[lO,oL,XK]
def XS(l:List (List Bd)):iM e5 (lO l):=(Kj mB l).filter _
def XT{l a:List (List Bd)}(b:iM e5 a)(hm:∀x,x∈a↔x∈l/\jI l x=true):lO l=a:=(XS l).ext mB b fun x=>by rw[hm,BP]
structure dO where
 n:Int
 b:List Bd
 d:List (List Bd)
 k:List bG
 m:List bn
 deriving DecidableEq,Inhabited
noncomputable def hJ(b:List Bd)(k:List bG)(m:List bn):List (List Bd)->bc (List (List Bd))
 |[]=>some []
 |d::r=>match mgu b (iG d)with
  |none=>hJ b k m r
  |some x=>if gO x k []=none\/gS x m []=none then hJ b k m r else if hv b x=[]then none else(hJ b k m r).map (hv b x:: ·)
def ln(k:List bG)(x:bn):Bool:=nk k x.v !=some 3
noncomputable def mG(s:dO):bc dO:=match gO s.b s.k []with
 |none=>none
 |some k=>match gS s.b s.m []with
  |none=>none
  |some m=>match hJ s.b k (m.filter (ln k)) s.d with
   |none=>none
   |some L=>if(lO L).length<=30 then some ⟨s.n,s.b,lO L,k,m.filter (ln k)⟩else none
def yB(t:T)(n:Int):Prop:= ∀v,t.occ v=true->v<n
def qV(l:List Bd)(n:Int):Prop:= ∀b∈l,b.v<n/\yB b.t n
structure yc (s:dO):Prop where
 n:0<=s.n/\s.n<=100000
 b:fm s.b
 d:∀x∈s.d,fm x
 k:ht s.k
 m:jK s.m
 bb:qV s.b s.n
 db:∀x∈s.d,qV x s.n
 kb:∀x∈s.k,x.v<s.n
 mb:∀x∈s.m,x.v<s.n
def Jx(s:dO):Prop:=yc s/\mG s=some s
def Cs{s:List Bd}(a:fm s){v:Int}(b:0<=v/\v<=100000):(cO s v).ok=true:=by have:=Jp a.ok (t:= .var v) (by simpa[T.ok]using b);exact this
def I3{s:List Bd}(c:fm s):∀{l acc a:List bG},(∀x∈l,(0<=x.v/\x.v<=100000)/\(x.k=2\/x.k=3))->ht acc->gO s l acc=some a->ht a
 |[],acc,a,_,h,he=>by simp only[gO,dS]at he;rw[<-he];exact h
 |x::r,acc,a,b,h,he=>by
  simp only[gO]at he;split at he
  ·rename_i g e;have d:=b x Ψ;exact I3 c (fun y f=>b y (by simp[f])) (Kc h (Cs c d.1) d.2 e) he
  ·cases he
def I4{s:List Bd}(c:fm s):∀{l acc a:List bn},(∀x∈l,(0<=x.v/\x.v<=100000)/\kn x.s=true)->jK acc->gS s l acc=some a->jK a
 |[],acc,a,_,h,he=>by simp only[gS,dS]at he;rw[<-he];exact h
 |x::r,acc,a,b,h,he=>by
  simp only[gS]at he;split at he
  ·rename_i g e;have d:=b x Ψ;exact I4 c (fun y f=>b y (by simp[f])) (Ke h (Cs c d.1) d.2 e) he
  ·cases he
def oG(G:List (List cW))(l:List bn):Prop:= ∀x∈l,x.s∈G
def Kf{G:List (List cW)}{l a:List bn}{t:T}{s:List cW}(h:oG G l)(b:s∈G)(he:mP l t s=some a):oG G a:=fun x c=>by
 rcases(Ew he x).1 c with J|⟨J,_⟩
 ·exact h x J
 ·rw[J];exact b
def Pa{G:List (List cW)}{s:List Bd}:∀{l acc a:List bn},oG G l->oG G acc->gS s l acc=some a->oG G a
 |[],acc,a,_,h,he=>by simp only[gS,dS]at he;rw[<-he];exact h
 |x::r,acc,a,b,h,he=>by
  simp only[gS]at he;split at he
  ·rename_i e c;exact Pa (fun y d=>b y (by simp[d])) (Kf h (b x Ψ) c) he
  ·cases he
def aoB{α:Type}[DecidableEq α]:∀{G:List α} {l:List (Nat×α)},l.Nodup->(∀x∈l,x.1<100001/\x.2∈G)->l.length<=100001*G.length:=by
 intro G l c h;have:=Qu c (l₂:=(List.range 100001).flatMap fun i=>G.map fun g=>(i,g)) (fun x b=>by obtain⟨J,U⟩:=h x b;rw[List.mem_flatMap];exact⟨x.1,List.mem_range.2 J,hz.2 ⟨x.2,U,rfl⟩⟩)
 have e:((List.range 100001).flatMap fun i=>G.map fun g=>(i,g)).length=100001*G.length:=by
  generalize 100001=n;induction n with
  |zero=>simp
  |succ n a=>rw[List.range_succ,List.flatMap_append,p6,a];simp[Nat.succ_mul]
 omega
def Eu{G:List (List cW)}{l:List bn}(h:jK l)(be:oG G l):l.length<=100001*G.length:=by
 have J:(l.map fun x=>(x.v.toNat,x.s)).Nodup:=by rw[List.nodup_iff_pairwise_ne,List.pairwise_map];refine asv (fun{a b} f g d e=>d ?_) (h.asc.nodup mC);have:=(h.at' a f).1;have:=(h.at' b g).1;simp only[jj]at e;cases a;cases b;simp only[bn.mk.injEq];simp only at*;exact⟨Ω,e.2⟩
 have:=aoB (G:=G) J fun x i=>by obtain⟨y,c,rfl⟩:=hz.1 i;have:=(h.at' y c).1;exact⟨by simp;omega,be y c⟩
 simpa using this
def tI(m:List bn):Prop:= ∃G:List (List cW),G.length<=687000/\oG G m
def tI.len{m:List bn}(h:tI m)(hm:jK m):m.length<=68719470000:=by obtain⟨G,J,U⟩:=h;have:=Eu hm U;omega
def tI.of{m:List bn}(h:m.length<=687000):tI m:=⟨m.map (·.s),by simpa using h,fun _ a=>List.mem_map_of_mem a⟩
def apP{s:List Bd}(h:fm s)(p:Bd->Bool):fm (s.filter p):=by
 have c:∀b∈s.filter p,b∈s:=fun b a=>(oL.1 a).1;have d:∀w,dD s w=none->dD (s.filter p) w=none:=fun w hw=>by rw[wQ]at hw⊢;exact fun b a=>hw b (c b a)
 exact⟨fun b a=>h.ok b (c b a),⟨aco p h.sol.asc,fun b a w hw=>d w (h.sol.free b (c b a) w hw),fun b a=>h.sol.ori b (c b a)⟩,
  kx (List.length_filter_le _ _) h.fits.1,fun b a=>h.fits.2 b (c b a)⟩
def Io{b x:List Bd}(h:fm x):fm (hv b x):=apP h _
def ama{b x:List Bd}(m:gz b)(d:gz x)(n:ir x)(h:∀a,hQ x a->hQ b a):jz b (iG (hv b x)) (some x):=by
 refine⟨⟨d,n⟩,fun a=>⟨fun i=>⟨h a i,fun e he=>?_⟩,fun⟨J,U⟩ c aw=>?_⟩⟩
 ·obtain⟨c,aw,rfl⟩:=hz.1 he;exact i c (oL.1 aw).1
 ·have g:∀c∈x,dD b c.v=none->a c.v=c.t.ap a:=fun c aw o=>by have:=U (.var c.v,c.t) (hz.2 ⟨c,oL.2 ⟨aw,by simp[o]⟩,rfl⟩);exact this
  have j:∀w,dD b w=none->(cO x w).ap a=a w:=fun w hw=>by
   unfold cO;cases e:dD x w with
   |none=>rfl
   |some t=>have hm:=kJ e;exact(g _ hm hw).symm
  cases e:dD b c.v with
  |none=>exact g c aw e
  |some t=>
   have l:a c.v=t.ap a:=J _ (kJ e);have f:=h (cO x) (zZ d) _ (kJ e);simp only at f;have k:cO x c.v=c.t:=by unfold cO;rw[wP d.asc aw];rfl
   rw[k]at f;rw[l,f,CV];exact vu fun w hw=>(j w (m.free _ (kJ e) w hw)).symm
def alO{s:List Bd}(b:gz s)(c:ir s){E:List (T×T)}{x:List Bd}(h:mgu s E=some x):∀a,hQ x a↔hQ s a/\kd E a:=by have:=Ii b c E;rw[h]at this;exact this.2
def alL{s:List Bd}(a:gz s)(b:ir s){E:List (T×T)}{x:List Bd}(h:mgu s E=some x):mgu s (iG (hv s x))=some x:=tu (ama a (BO a b h).1 (BO a b h).2 fun d c=>((alO a b h d).1 c).1)
def alN(p:Int->Prop){E:List (T×T)}:∀{s j:List Bd},gz s->ir s->(∀b∈s,p b.v/\∀w,b.t.occ w=true->p w)->(∀e∈E,(∀w,e.1.occ w=true->p w)/\∀w,e.2.occ w=true->p w)->mgu s E=some j->∀b∈j,p b.v/\∀w,b.t.occ w=true->p w:=by
 induction E with
 |nil=>intro s j d i J _ h;rw[NW d i]at h;cases h;exact J
 |cons e E v=>
  intro s j d i J U h;rw[NV d i]at h;split at h
  ·rename_i s1 m;obtain⟨V,a⟩:∃V,V=s.flatMap (fun b=>b.v::oI b.t)++oI e.1++oI e.2:=⟨_,rfl⟩;have q:∀w∈V,p w:=by
    intro w hw;rw[a]at hw;simp only[j2,List.mem_flatMap,gK]at hw;rcases hw with(⟨b,f,rfl|hw⟩|hw)|hw
    ·exact(J b f).1
    ·exact(J b f).2 w (FF.1 hw)
    ·exact(U e Ψ).1 w (FF.1 hw)
    ·exact(U e Ψ).2 w (FF.1 hw)
   obtain⟨n,o,x,t,r⟩:=aby V _ _ s e.1 e.2 d i (fun c aw=>⟨by rw[a];simp only[j2,List.mem_flatMap];exact .inl (.inl ⟨c,aw,Ψ⟩),fun w hw=>by rw[a];simp only[j2,List.mem_flatMap];exact .inl (.inl ⟨c,aw,by simp[zz hw]⟩)⟩)
    (fun w hw=>by rw[a];simp only[j2];exact .inl (.inr (zz hw))) (fun w hw=>by rw[a];simp only[j2];exact .inr (zz hw)) rfl rfl
   have k:=tu t;rw[m]at k;subst k;obtain⟨g,_⟩:=r s1 rfl;have l:=BO d i m;exact v l.1 l.2 (fun b f=>⟨q _ (g b f).1,fun w hw=>q w ((g b f).2 w hw)⟩) (fun u he=>U u (by simp[he])) h
  ·cases h
def apX{s:List Bd}(a:gz s){v n:Int}(h:cO s v= .var n):dD s n=none:=by have:=PC a (t:= .var v) (w:=n) (by show(cO s v).occ n=true;rw[h];simp[T.occ]);exact this
def QI{l b:List bG}{t:T}{k:Int}(h:kY l t k=some b):∀x∈b,x∈l\/t= .var x.v:=by
 unfold kY at h;split at h
 ·rename_i n;split at h
  ·split at h
   ·cases h;exact fun x a=>.inl a
   ·cases h
  ·cases h;intro x a;rcases Ig.1 a with rfl|a
   ·exact .inr rfl
   ·exact .inl a
 ·split at h
  ·cases h;exact fun x a=>.inl a
  ·cases h
def aaa{s:List Bd}(b:gz s):∀{l acc a:List bG},(∀x∈acc,dD s x.v=none)->gO s l acc=some a->∀x∈a,dD s x.v=none
 |[],acc,a,h,he=>by simp only[gO,dS]at he;rw[<-he];exact h
 |y::r,acc,a,h,he=>by
  simp only[gO]at he;split at he
  ·rename_i e c;refine aaa b (fun x d=>?_) he;rcases QI c x d with J|J
   ·exact h x J
   ·exact apX b J
  ·cases he
def Ww{x:bG}:∀{l:List bG},(∀y∈l,y.v<x.v)->ni x l=l++[x]
 |[],_=>rfl
 |y::l,h=>by simp only[ni,if_pos (h y Ψ),Ww (l:=l) fun z a=>h z (by simp[a]),b3]
def aab{s:List Bd}:∀{l acc:List bG},(acc++l).Pairwise (fun x y=>x.v<y.v)->(∀x∈l,dD s x.v=none)->gO s l acc=some (acc++l)
 |[],acc,_,_=>by simp[gO]
 |x::r,acc,b,c=>by
  have J:∀y∈acc,y.v<x.v:=fun y a=>(List.pairwise_append.1 b).2.2 y a x Ψ;have U:nk acc x.v=none:=El.2 fun y a=>by have:=J y a;omega
  have d:kY acc (cO s x.v) x.k=some (acc++[x]):=by rw[Cr (c x Ψ)];simp only[kY,U];rw[Ww J]
  simp only[gO,d];rw[aab (by simpa using b) fun y a=>c y (by simp[a])];simp
def aad{s:List Bd}(b:gz s):∀{l acc a:List bn},(∀x∈acc,dD s x.v=none)->gS s l acc=some a->∀x∈a,dD s x.v=none
 |[],acc,a,h,he=>by simp only[gS,dS]at he;rw[<-he];exact h
 |y::r,acc,a,h,he=>by
  simp only[gS]at he;split at he
  ·rename_i e c;refine aad b (fun x d=>?_) he;rcases(Ew c x).1 d with J|⟨_,J⟩
   ·exact h x J
   ·exact PC b (t:= .var y.v) J
  ·cases he
def aae{s:List Bd}:∀{l acc:List bn},iM gb (acc++l)->(∀x∈l,dD s x.v=none)->gS s l acc=some (acc++l)
 |[],acc,_,_=>by simp[gS]
 |x::r,acc,a,b=>by
  have c:mP acc (cO s x.v) x.s=some (acc++[x]):=by
   rw[Cr (b x Ψ)];refine Kd rfl (axf ?_ a) fun z=>?_
   ·simp
   ·simp only[j2,List.mem_singleton,T.occ,ey];refine or_congr_right ⟨fun h=>by rw[h];exact⟨rfl,rfl⟩,fun⟨J,U⟩=>?_⟩;cases z;cases x;simp_all
  simp only[gS,c];rw[aae (by simpa using a) fun y d=>b y (by simp[d])];simp
def yd(b:List Bd)(k:List bG)(m:List bn)(d:List Bd):Prop:= ∃x,mgu b (iG d)=some x/\¬(gO x k []=none\/gS x m []=none)/\hv b x=d/\d≠[]
def H5{b:List Bd}(a:fm b){k:List bG}{m:List bn}:∀{l L:List (List Bd)},hJ b k m l=some L->∀d∈L,yd b k m d
 |[],L,h=>by simp only[hJ,dS]at h;rw[<-h];simp
 |d0::r,L,h=>by
  simp only[hJ]at h;split at h
  ·exact H5 a h
  ·rename_i x e;split at h
   ·exact H5 a h
   ·rename_i f;split at h
    ·cases h
    ·rename_i g;rw[hl]at h;obtain⟨i,J,rfl⟩:=h;intro d c;rcases gK.1 c with rfl|c
     ·exact⟨x,alL a.sol a.fits e,f,rfl,g⟩
     ·exact H5 a J d c
def Xn{b:List Bd}{k:List bG}{m:List bn}:∀{L:List (List Bd)},(∀d∈L,yd b k m d)->hJ b k m L=some L
 |[],_=>rfl
 |d::L,h=>by obtain⟨x,J,U,a,c⟩:=h d Ψ;simp only[hJ,J,if_neg U,a,if_neg c,Xn (L:=L) fun e he=>h e (by simp[he]),pn]
def H4{b:List Bd}(g:fm b){k:List bG}{m:List bn}:∀{l L:List (List Bd)},(∀d∈l,fm d)->hJ b k m l=some L->∀d∈L,fm d
 |[],L,_,h=>by simp only[hJ,dS]at h;rw[<-h];simp
 |d0::r,L,f,h=>by
  simp only[hJ]at h;split at h
  ·exact H4 g (fun d a=>f d (by simp[a])) h
  ·rename_i x i;split at h
   ·exact H4 g (fun d a=>f d (by simp[a])) h
   ·split at h
    ·cases h
    ·rw[hl]at h;obtain⟨j,J,rfl⟩:=h;intro d a;rcases gK.1 a with rfl|a
     ·exact Io (g.mgu (fun e he=>by obtain⟨c,aw,rfl⟩:=hz.1 he;have:=(f d0 Ψ).ok c aw;exact⟨by simpa[T.ok]using this.1,this.2⟩) i)
     ·exact H4 g (fun d a=>f d (by simp[a])) J d a
def H3{b:List Bd}(f:fm b){n:Int}(i:qV b n){k:List bG}{m:List bn}:∀{l L:List (List Bd)},(∀d∈l,qV d n)->hJ b k m l=some L->∀d∈L,qV d n
 |[],L,_,h=>by simp only[hJ,dS]at h;rw[<-h];simp
 |d0::r,L,g,h=>by
  simp only[hJ]at h;split at h
  ·exact H3 f i (fun d a=>g d (by simp[a])) h
  ·rename_i x j;split at h
   ·exact H3 f i (fun d a=>g d (by simp[a])) h
   ·split at h
    ·cases h
    ·rw[hl]at h;obtain⟨o,J,rfl⟩:=h;intro d a;rcases gK.1 a with rfl|a
     ·have:=alN (fun v=>v<n) f.sol f.fits i (fun e he=>by obtain⟨c,aw,rfl⟩:=hz.1 he;have:=g d0 Ψ c aw;exact⟨fun w hw=>by simp[T.occ]at hw;subst hw;exact this.1,this.2⟩) j
      exact fun c aw=>this c (oL.1 aw).1
     ·exact H3 f i (fun d a=>g d (by simp[a])) J d a
def alR{L:List (List Bd)}:lO (lO L)=lO L:=XT (XS L) fun x=>by rw[BP,and_assoc];refine⟨fun⟨J,U⟩=>⟨J,U,?_⟩,fun⟨J,U,_⟩=>⟨J,U⟩⟩;rw[jI,j7]at U⊢;exact fun d a=>U d (BP.1 a).1
def WQ{b:List Bd}(c:fm b){n:Int}(a:qV b n){v w:Int}(d:v<n)(h:(cO b v).occ w=true):w<n:=by
 unfold cO at h;cases e:dD b v with
 |none=>rw[e]at h;simp[T.occ]at h;omega
 |some t=>rw[e]at h;exact(a _ (kJ e)).2 w h
def Z9{b:List Bd}(e:fm b){n:Int}(f:qV b n):∀{l acc a:List bG},(∀x∈l,x.v<n)->(∀x∈acc,x.v<n)->gO b l acc=some a->∀x∈a,x.v<n
 |[],acc,a,_,h,he=>by simp only[gO,dS]at he;rw[<-he];exact h
 |y::r,acc,a,d,h,he=>by
  simp only[gO]at he;split at he
  ·rename_i i g;refine Z9 e f (fun x c=>d x (by simp[c])) (fun x c=>?_) he;rcases QI g x c with J|J
   ·exact h x J
   ·exact WQ e f (d y Ψ) (by rw[J];simp[T.occ])
  ·cases he
def aac{b:List Bd}(e:fm b){n:Int}(f:qV b n):∀{l acc a:List bn},(∀x∈l,x.v<n)->(∀x∈acc,x.v<n)->gS b l acc=some a->∀x∈a,x.v<n
 |[],acc,a,_,h,he=>by simp only[gS,dS]at he;rw[<-he];exact h
 |y::r,acc,a,d,h,he=>by
  simp only[gS]at he;split at he
  ·rename_i i g;refine aac e f (fun x c=>d x (by simp[c])) (fun x c=>?_) he;rcases(Ew g x).1 c with J|⟨_,J⟩
   ·exact h x J
   ·exact WQ e f (d y Ψ) J
  ·cases he
def apU{s b:dO}(h:yc s)(he:mG s=some b):Jx b/\b.n=s.n/\b.b=s.b:=by
 unfold mG at he;split at he
 ·cases he
 rename_i k e;split at he
 ·cases he
 rename_i m hm;split at he
 ·cases he
 rename_i L c;split at he;rotate_left
 ·cases he
 rename_i i;cases he;have f:=I3 h.b h.k.at' ⟨Ψ,Ψ⟩ e;have m1:=I4 h.b h.m.at' ⟨Ψ,by simp[iM]⟩ hm;have m2:jK (m.filter (ln k)):=⟨fun x a=>m1.at' x (oL.1 a).1,aco _ m1.asc⟩;have du:=H5 h.b c;have g:=H4 h.b h.d c;refine⟨⟨⟨h.n,h.b,fun x a=>g x (BP.1 a).1,f,m2,h.bb,fun x a=>H3 h.b h.bb h.db c x (BP.1 a).1,Z9 h.b h.bb h.kb Ψ e,fun x a=>aac h.b h.bb h.mb Ψ hm x (oL.1 a).1⟩,?_⟩,rfl,rfl⟩;unfold mG;have n:gO s.b k []=some k:=aab (acc:=[]) f.asc (aaa h.b.sol Ψ e);have p:gS s.b (m.filter (ln k)) []=some (m.filter (ln k)):=aae (acc:=[]) m2.asc fun x a=>aad h.b.sol Ψ hm x (oL.1 a).1;have j:(m.filter (ln k)).filter (ln k)=m.filter (ln k):=by rw[List.filter_filter];simp
 have l:hJ s.b k (m.filter (ln k)) (lO L)=some (lO L):=Xn fun d o=>du d (BP.1 o).1;simp only[n,p,j,l,alR,if_pos i]
def uP{α:Type}{s:List α}{i:Nat}{t:α}(h:s[i]? =some t):s.drop i=t::s.drop (i+1):=by obtain⟨hi,e⟩:=fM.1 h;rw[lA hi,e]
def rj(L:List (List Bd))(a:List (List Bd))(e:List Bd):List (List Bd):=if jI L e=true then kQ e5 e a else a
def NX{L:List (List Bd)}:∀(xs:List (List Bd)) {a:List (List Bd)},iM e5 a->iM e5 (xs.foldl (rj L) a)
 |[],_,h=>h
 |x::xs,a,h=>NX xs (a:=rj L a x) (by unfold rj;split<;>first|exact M2 mB h|exact h)
def XV{L:List (List Bd)}{x:List Bd}:∀(xs:List (List Bd)) {a:List (List Bd)},x∈xs.foldl (rj L) a↔x∈a\/(x∈xs/\jI L x=true)
 |[],a=>by simp
 |y::xs,a=>by
  rw[List.foldl_cons,XV xs,gK];unfold rj;by_cases b:jI L y=true
  ·rw[if_pos b,If mB];constructor
   ·rintro((rfl|h)|h)
    ·exact .inr ⟨.inl rfl,b⟩
    ·exact .inl h
    ·exact .inr ⟨.inr h.1,h.2⟩
   ·rintro(h|⟨rfl|J,U⟩)
    ·exact .inl (.inr h)
    ·exact .inl (.inl rfl)
    ·exact .inr ⟨J,U⟩
  ·rw[if_neg b];constructor
   ·rintro(h|h)
    ·exact .inl h
    ·exact .inr ⟨.inr h.1,h.2⟩
   ·rintro(h|⟨rfl|J,U⟩)
    ·exact .inl h
    ·exact absurd U b
    ·exact .inr ⟨J,U⟩
def XU{L:List (List Bd)}:∀(xs a:List (List Bd)),(xs.foldl (rj L) a).length<=a.length+xs.length
 |[],a=>by simp
 |y::xs,a=>by
  have J:=XU (L:=L) xs (rj L a y);have U:(rj L a y).length<=a.length+1:=by
   unfold rj;split
   ·exact M4 _ _
   ·omega
  simp only[List.foldl_cons,mI];omega
def alT(L:List (List Bd)):lO L=L.foldl (rj L) []:=XT (NX L (by simp[iM])) fun x=>by rw[XV];simp
def zr(L:List (List Bd))(i:Nat)(a:List (List Bd)):Prop:=a=(L.take i).foldl (rj L) []
def zr.step{L:List (List Bd)}{i:Nat}{a:List (List Bd)}(h:zr L i a){e:List Bd}(he:L[i]? =some e):zr L (i+1) (rj L a e):=by rw[zr,nZ he,List.foldl_append,h];rfl
def xJ(e d:List Bd):Bool:=decide (d=e)|| !oA d e
def q9(L:List (List Bd))(e:List Bd)(j:Nat)(k:Bool):Prop:=k=(L.take j).all (xJ e)
def q9.step{L:List (List Bd)}{e:List Bd}{j:Nat}{k:Bool}(h:q9 L e j k){d:List Bd}(a:L[j]? =some d):q9 L e (j+1) (k&&xJ e d):=by rw[q9,nZ a,List.all_append,h];simp
def HL(a:List (List Bd))(e:List Bd)(k:Nat):Prop:=k<=a.length/\∀c,a[k]? =some c->0<=e5 c e
def HL.fin{a:List (List Bd)}{e:List Bd}{k:Nat}(h:HL a e k)(l:iM e5 a)(aw:∀d,0<k->a[k-1]? =some d->e5 d e<0):kQ e5 e a=if(match a[k]? with|some y=>decide (e5 y e=0)|none=>false)=true then a else a.take k++e::a.drop k:=
 (M3 mB e a k (fun i c hi b=>by
  have m:=h.1;obtain⟨d,f⟩:∃d,a[k-1]? =some d:=⟨_,cl Ω⟩;have J:=aw d Ω f;rcases Nat.lt_or_ge i (k-1)with U|U
  ·have g:=(fM.1 b);have j:=(fM.1 f);have:=qS.1 l i (k-1) g.1 j.1 U;rw[g.2,j.2]at this;exact mB.ltr this Ω
  ·have:i=k-1:=Ω
   subst this;rw[f]at b;cases b;exact J) h.2 h.1).trans (by cases a[k]?<;>rfl)
def WS(L:List (List Bd))(e:List Bd):jI L e=L.all (xJ e):=rfl
def aaS{l:List (List Bd)}{x:List Bd}:x∈p1 e5 l↔x∈l:=(z1 e5 l).mem_iff
def alS(l:List (List Bd)):lO l=(cS none (p1 e5 l)).filter (jI (p1 e5 l)):=by have h:jI l=jI (p1 e5 l):=funext fun e=>akY (fun x=>aaS.symm) e;rw[lO,h];rfl
def mw(s:List (List Bd))(i:Nat)(acc:List (List Bd)):Prop:=acc++(cS (if i=0 then none else s[i-1]?) (s.drop i)).filter (jI s)=(cS none s).filter (jI s)
def ju:dO:=⟨0,[],[],[],[]⟩
noncomputable def Cq(s:dO):dO:=match gO s.b s.k []with
 |none=>ju
 |some k=>match gS s.b s.m []with
  |none=>ju
  |some m=>match hJ s.b k (m.filter (ln k)) s.d with
   |none=>ju
   |some L=>⟨s.n,s.b,lO L,k,m.filter (ln k)⟩
def apV{s b:dO}(h:mG s=some b):Cq s=b:=by
 unfold mG at h;unfold Cq;cases J:gO s.b s.k []with
 |none=>rw[J]at h;cases h
 |some k=>
  rw[J]at h;simp only at h⊢;cases U:gS s.b s.m []with
  |none=>rw[U]at h;cases h
  |some m=>
   rw[U]at h;simp only at h⊢;cases a:hJ s.b k (m.filter (ln k)) s.d with
   |none=>rw[a]at h;cases h
   |some L=>
    rw[a]at h;simp only at h⊢;split at h
    ·cases h;rfl
    ·cases h
def acQ{k:List bG}(a:ht k)(v:Int):(kY k (.var v) 2).isSome=(nk k v !=some 3):=by
 unfold kY;simp only;cases h:nk k v with
 |none=>simp
 |some x=>have:=(a.at' _ (W0 h)).2;simp only at this;rcases this with rfl|rfl<;>simp
def acU{k:List bG}(a:k.Pairwise fun x y=>x.v<y.v)(v:Int):(k.any fun x=>x.v==v&&x.k==3)=(nk k v==some 3):=by
 rw[qP,List.any_eq_true,ey];constructor
 ·rintro⟨x,b,h⟩;simp only[cP,ey]at h;have:=Nj a b;rw[h.1,h.2]at this;exact this
 ·intro h;exact⟨_,W0 h,Ψ⟩
def NA{b:List Bd}{k:List bG}{m:List bn}{d:List Bd}{r:List (List Bd)}(h:mgu b (iG d)=none):hJ b k m (d::r)=hJ b k m r:=by rw[hJ,h]
def Nz{b:List Bd}{k:List bG}{m:List bn}{d x:List Bd}{r:List (List Bd)}(h:mgu b (iG d)=some x)(a:gO x k []=none\/gS x m []=none):hJ b k m (d::r)=hJ b k m r:=by rw[hJ,h];simp only[if_pos a]
def Ny{b:List Bd}{k:List bG}{m:List bn}{d x:List Bd}{r:List (List Bd)}(h:mgu b (iG d)=some x)(a:¬(gO x k []=none\/gS x m []=none))(c:hv b x=[]):hJ b k m (d::r)=none:=by rw[hJ,h];simp only[if_neg a,if_pos c]
def NB{b:List Bd}{k:List bG}{m:List bn}{d x:List Bd}{r:List (List Bd)}(h:mgu b (iG d)=some x)(a:¬(gO x k []=none\/gS x m []=none))(c:hv b x≠[]):hJ b k m (d::r)=(hJ b k m r).map (hv b x:: ·):=by rw[hJ,h];simp only[if_neg a,if_neg c]
def ra(b:List Bd)(k:List bG)(m:List bn)(aX:List (List Bd))(i:Nat)(a:List (List Bd)):Prop:=a.length<=i/\(∀x∈a,fm x)/\(hJ b k m (aX.drop i)).map (a++ ·)=hJ b k m aX
def jA(n:Int):T->Bool
 | .var v=>decide (v<n)
 | .pair a b=>jA n a&&jA n b
 |_=>true
def Kr{n:Int}:∀{t:T},jA n t=true↔yB t n
 | .var v=>by simp[jA,yB,T.occ]
 | .pair a b=>by simp only[jA,cP,Kr (t:=a),Kr (t:=b),yB,T.occ,n2];exact⟨fun h v c=>c.elim (h.1 v) (h.2 v),fun h=>⟨fun v c=>h v (.inl c),fun v c=>h v (.inr c)⟩⟩
 | .nil=>by simp[jA,yB,T.occ]
 | .sym _=>by simp[jA,yB,T.occ]
 | .num _=>by simp[jA,yB,T.occ]
def lD(n:Int)(b:Bd):Bool:=decide (b.v<n)&&jA n b.t
def wR{n:Int}{s:List Bd}:s.all (lD n)=true↔qV s n:=by simp[j7,lD,qV,Kr]
def tL(v m:Int):Int:=if m<v+1 then v+1 else m
def Qj{n:Int}:∀(t:T) (m:Int),t.fold tL m<=n↔m<=n/\jA n t=true
 | .var v,m=>by simp only[T.fold,tL,jA,gu];split<;>omega
 | .pair a b,m=>by simp only[T.fold,Qj b,Qj a,jA,cP,and_assoc]
 | .nil,m=>by simp[T.fold,jA]
 | .sym _,m=>by simp[T.fold,jA]
 | .num _,m=>by simp[T.fold,jA]
def FH(v m:Int):bc Int:=if 0<=v/\v<=100000 then some (tL v m)else none
def Qi:∀(t:T) (m:Int),t.ok=true->t.foldO FH m=some (t.fold tL m)
 | .var v,m,h=>by
  have:0<=v/\v<=100000:=by simpa[T.ok]using h
  simp[T.foldO,T.fold,FH,this]
 | .pair a b,m,h=>by
  have J:a.ok=true/\b.ok=true:=by simpa[T.ok]using h
  simp[T.foldO,T.fold,Qi a m J.1,Qi b _ J.2]
 | .nil,m,_=>rfl
 | .sym _,m,_=>rfl
 | .num _,m,_=>rfl
structure iv where
 n:Int
 b:List Bt
 d:List (List Bt)
 k:List bG
 m:List bn
def dO.r(s:dO):iv:=⟨s.n,s.b.map Bd.b,s.d.map fun x=>x.map Bd.b,s.k,s.m⟩
def u5(r:iv):Prop:= ∃s:dO,r=s.r/\Jx s
def k0(n:Int)(x:List Bt):Prop:= ∃s:List Bd,x=s.map Bd.b/\fm s/\qV s n
structure O8 (r:iv):Prop where
 n:0<=r.n/\r.n<=100000
 b:k0 r.n r.b
 d:∀x∈r.d,k0 r.n x
 k:ht r.k
 m:jK r.m
 kb:∀x∈r.k,x.v<r.n
 mb:∀x∈r.m,x.v<r.n
def u5.raw{r:iv}(h:u5 r):O8 r:=by obtain⟨s,rfl,J,_⟩:=h;exact⟨J.n,⟨s.b,rfl,J.b,J.bb⟩,fun x b=>by obtain⟨y,a,rfl⟩:=hz.1 b;exact⟨y,rfl,J.d y a,J.db y a⟩,J.k,J.m,J.kb,J.mb⟩
def wO:∀{a b:List Bd},a.map Bd.b=b.map Bd.b->a=b
 |[],b,h=>by cases b<;>simp at h⊢
 |x::a,[],h=>by simp at h
 |x::a,y::b,h=>by simp only[hc,rD,Bd.b,Bt.mk.injEq]at h;rw[wO h.2];have:=abt h.1.2;obtain⟨⟨J,_⟩,_⟩:=h;cases x;cases y;simp_all
def Q0:∀{a b:List (List Bd)},(a.map fun x=>x.map Bd.b)=(b.map fun x=>x.map Bd.b)->a=b
 |[],b,h=>by cases b<;>simp at h⊢
 |x::a,[],h=>by simp at h
 |x::a,y::b,h=>by rw[hc,hc,rD]at h;rw[Q0 h.2,wO h.1]
def dO.r_inj{s t:dO}(h:s.r=t.r):s=t:=by obtain⟨n,b,d,k,m⟩:=s;obtain⟨n',b7,g,bt,f⟩:=t;simp only[dO.r,iv.mk.injEq]at h;obtain⟨J,U,c,e,a⟩:=h;rw[J,wO U,Q0 c,e,a]
def TF{n:Int}:∀{d:List (List Bt)},(∀x∈d,k0 n x)->∃aX:List (List Bd),d=(aX.map fun x=>x.map Bd.b)/\(∀x∈aX,fm x)/\∀x∈aX,qV x n
 |[],_=>⟨[],rfl,Ψ,Ψ⟩
 |x::d,h=>by
  obtain⟨aX,J,U,c⟩:=TF (d:=d) fun y a=>h y (by simp[a]);obtain⟨s,e,f,b⟩:=h x Ψ;refine⟨s::aX,by rw[J,e];rfl,fun y a=>?_,fun y a=>?_⟩
  ·rcases gK.1 a with rfl|a
   ·exact f
   ·exact U y a
  ·rcases gK.1 a with rfl|a
   ·exact b
   ·exact c y a
def aaU{s:dO}(h:yc s):u5 s.r↔mG s=some s:=by
 constructor
 ·rintro⟨t,e,_,U⟩;rw[dO.r_inj e];exact U
 ·intro U;exact⟨s,rfl,h,U⟩
def ye{l:List Bt}:J8 l↔∃s:List Bd,l=s.map Bd.b/\fm s:=⟨fun⟨s,J,U,a,b⟩=>⟨s,J,U,a,b⟩,fun⟨s,J,U⟩=>⟨s,J,U.ok,U.sol,U.fits⟩⟩
def sE{α:Type}(a b:List α)(i:Nat)(_:Unit):Prop:= ∀k,k<i->a[k]? =b[k]?
def sE.fin{α:Type}{a b:List α}(h:sE a b b.length ())(d:a.length=b.length):a=b:=by
 apply List.ext_getElem?;intro k;by_cases c:k<b.length
 ·exact h k c
 ·rw[qQ Ω,qQ Ω]
def sE.step{α:Type}{a b:List α}{i:Nat}(h:sE a b i ()){x:α}(c:a[i]? =some x)(d:b[i]? =some x):sE a b (i+1) ():=fun k e=>by
 rcases(by omega:k<i\/k=i)with J|rfl
 ·exact h k J
 ·rw[c,d]
def tg{α:Type}(p:α->Prop)(s:List α)(i:Nat)(_:Unit):Prop:= ∀k b,k<i->s[k]? =some b->p b
def tg.step{α:Type}{p:α->Prop}{s:List α}{i:Nat}(h:tg p s i ()){b:α}(d:s[i]? =some b)(a:p b):tg p s (i+1) ():=fun k c e aw=>by
 rcases(by omega:k<i\/k=i)with J|rfl
 ·exact h k c J aw
 ·rw[d]at aw;cases aw;exact a
def tg.fin{α:Type}{p:α->Prop}{s:List α}(h:tg p s s.length ()):∀b∈s,p b:=fun b c=>by obtain⟨k,a,e⟩:=pk c;exact h k b a (by rw[cl a,e])
def Rn:C:=(aa [bA 2 false] (.seq (aa [I 5 0,cw 6 5,bQ 7 0] (gq 8 7 6 (.seq (.block 1 (aa [I 9 7,ck 10 2 5 7,bq 11 2 10,dr (.alloc 4 none (.agg [.int .i64 0,.int .i64 0])),I 3 9,bW 2 4 11] (.seq (.drawn true 46 [aF 12 0 1 4,ay 13 1 12,aV 14 .lss 13 0,I 15 14,ax 15 false (aF 16 0 1 4),ax 15 false (ay 17 1 16),ax 15 false (aV 18 .gtr 17 100000),dq 19 15 18,I 20 19,ax 20 false (aF 21 1 1 4),ax 20 false (ay 22 1 21),ax 20 false (aV 23 .neq 22 2),cd 20 false 24 23,ax 24 true (aF 25 1 1 4),ax 24 true (ay 26 1 25),ax 24 true (aV 27 .neq 26 3),ax 20 false (ev 28 24 27),dq 29 20 28,I 30 29,cd 30 false 31 3,ax 30 false (aV 32 .gtr 31 0),cd 30 false 33 32,cd 33 true 34 0,cd 33 true 35 3,ax 33 true (aV 36 .sub 35 1),ax 33 true (ck 37 2 34 36),ax 33 true (aF 38 0 1 37),ax 33 true (ay 39 1 38),ax 33 true (aF 40 0 1 4),ax 33 true (ay 41 1 40),ax 33 true (br 42 .geq 39 41),ax 30 false (ev 43 33 42),dq 44 30 43]) (aZ 44 (aa [bA 2 false] .ret) .skip)))) (.region [aV 45 .add 7 1,I 7 45])))) (aa [bA 2 true] .ret)))
def Ro:C:=(aa [bA 2 false] (.seq (aa [I 5 0,cw 6 5,bQ 7 0] (gq 8 7 6 (.seq (.block 1 (aa [I 9 7,ck 10 2 5 7,bq 11 2 10,dr (.alloc 4 none (.agg [.int .i64 0,.str []])),I 3 9,bW 2 4 11] (.seq (.drawn true 41 [aF 12 0 1 4,ay 13 1 12,aV 14 .lss 13 0,I 15 14,ax 15 false (aF 16 0 1 4),ax 15 false (ay 17 1 16),ax 15 false (aV 18 .gtr 17 100000),dq 19 15 18,I 20 19,ax 20 false (aF 21 1 1 4),ax 20 false (ay 22 1 21),ax 20 false (da 23 160 22),ax 20 false (cR 24 23),dq 25 20 24,I 26 25,cd 26 false 27 3,ax 26 false (aV 28 .gtr 27 0),cd 26 false 29 28,cd 29 true 30 0,cd 29 true 31 3,ax 29 true (aV 32 .sub 31 1),ax 29 true (ck 33 2 30 32),ax 29 true (bq 34 2 33),ax 29 true (bq 35 2 4),ax 29 true (cj 36 161 34 35),ax 29 true (cR 37 36),ax 26 false (ev 38 29 37),dq 39 26 38]) (aZ 39 (aa [bA 2 false] .ret) .skip)))) (.region [aV 40 .add 7 1,I 7 40])))) (aa [bA 2 true] .ret)))
def Aw:C:=(aa [dc 6 2,fw 8 2,bA 9 false] (.seq (aa [I 15 0,da 16 86 15,cR 17 16,I 18 17,ax 18 false (bq 19 4 6),ax 18 false (da 20 64 19),ax 18 false (cR 21 20),dq 22 18 21,I 23 22,cd 23 false 24 1,ax 23 false (da 25 87 24),ax 23 false (cR 26 25),dq 27 23 26,I 28 27,cd 28 false 29 3,ax 28 false (aV 30 .neq 29 2),cd 28 false 31 30,cd 31 true 32 3,ax 31 true (aV 33 .neq 32 3),ax 28 false (ev 34 31 33),dq 35 28 34] (aZ 35 (aa [fw 8 2,bA 9 false] .ret) .skip)) (aa [I 37 0,bq 38 4 6,cj 39 69 37 38,I 36 39,dm 40 0 36,dm 41 1 36,dR 10 eE,bW 4 10 40,I 11 41] (.seq (aa [I 42 11,cR 43 42] (aZ 43 (aa [fw 8 2,bA 9 false] .ret) .skip)) (aa [dr (.bslm 44 (some 803) 2 98 []),I 45 1,dr (.appm 46 none 2 98 (.t 44) (.t 45)),dr (.alloc 12 (some 804) (.slice 2 .nil [])),bW 1 12 46] (.seq (aa [aF 47 0 1 10,ay 48 1 47,aV 49 .neq 48 1] (aZ 49 (.seq (aa [aF 50 0 1 10,ay 51 1 50,I 52 3,br 53 .neq 51 52] (aZ 53 (aa [fw 8 2,bA 9 false] .ret) .skip)) (.seq (.pubB 12 (.region [ay 54 1 12,I 8 54,bA 9 true])) .ret)) .skip)) (.seq (aa [I 55 1,cw 56 55,bQ 57 0] (gq 58 57 56 (.seq (.block 1 (aa [ck 59 2 55 57,bq 60 2 59,dr (.alloc 14 none (.agg [.int .i64 0,.int .i64 0])),bW 2 14 60] (aa [aF 61 0 1 14,ay 62 1 61,aF 63 1 1 10,ay 64 1 63,br 65 .eql 62 64] (aZ 65 (.seq (aa [aF 66 1 1 14,ay 67 1 66,I 68 3,br 69 .neq 67 68] (aZ 69 (aa [fw 8 2,bA 9 false] .ret) .skip)) (.seq (.pubB 12 (.region [ay 70 1 12,I 8 70,bA 9 true])) .ret)) .skip)))) (.region [aV 71 .add 57 1,I 57 71])))) (aa [ay 72 1 12,aF 73 1 1 10,ay 74 1 73,I 75 3,b9 76 (.build [.int .i64 0,.int .i64 0] [(0,1,(.t 74)),(1,1,(.t 75))]),fp 77 2 98 [.t 76],dr (.appm 78 none 2 98 (.t 72) (.t 77)),bW 1 12 78] (aa [ay 79 1 12,b9 80 (.mkif 48 (.t 79)),b9 81 (.mkf 183 [.t 12]),cj 82 182 80 81] (.seq (.pubB 12 (.region [ay 83 1 12,I 8 83,bA 9 true])) .ret))))))))))
def Gc:C:=(aa [dc 6 2,dr (.box 7 (some 811) (.t 3)),fw 8 2,bA 9 false] (.seq (aa [I 17 0,da 18 86 17,cR 19 18,I 20 19,ax 20 false (bq 21 4 6),ax 20 false (da 22 64 21),ax 20 false (cR 23 22),dq 24 20 23,I 25 24,cd 25 false 26 1,ax 25 false (da 27 88 26),ax 25 false (cR 28 27),dq 29 25 28,I 30 29,ax 30 false (ay 31 1 7),ax 30 false (da 32 160 31),ax 30 false (cR 33 32),dq 34 30 33] (aZ 34 (aa [fw 8 2,bA 9 false] .ret) .skip)) (aa [I 36 0,bq 37 4 6,cj 38 69 36 37,I 35 38,dm 39 0 35,dm 40 1 35,dR 10 eE,bW 4 10 39,I 11 40] (.seq (aa [I 41 11,cR 42 41,I 43 42,ax 43 false (bq 44 4 10),ax 43 false (ay 45 1 7),ax 43 false (cj 46 177 44 45),dq 47 43 46] (aZ 47 (aa [fw 8 2,bA 9 false] .ret) .skip)) (aa [dr (.mkmap 48 (some 812)),dr (.alloc 12 (some 813) (.junk)),bW 1 12 48] (.seq (aa [I 49 1,cw 50 49,bQ 51 0] (gq 52 51 50 (.seq (.block 1 (aa [ck 53 2 49 51,bq 54 2 53,dr (.alloc 14 none (.agg [.int .i64 0,.str []])),bW 2 14 54] (.region [ay 55 1 12,bq 56 2 14,dr (.mput (.a [false,true]) (.t 55) (.t 56) (.c (.bool true)))]))) (.region [aV 57 .add 51 1,I 51 57])))) (aa [bq 58 4 10,b9 59 (.mkf 184 [.t 12,.t 7]),cj 60 134 58 59] (aa [dr (.bslm 61 (some 814) 2 100 []),dr (.alloc 15 (some 815) (.slice 2 .nil [])),bW 1 15 61] (.seq (aa [ay 62 1 12,dr (.range 63 none (.t 62))] (.block 2 (.loop (aa [⟨none,.next 64 (.t 63)⟩,dm 65 0 64] (.seq (aZ 65 .skip (.exit 2)) (.block 3 (aa [b9 66 (.ment (.t 63)),dm 67 0 66,dr (.alloc 16 none (.agg [.int .i64 0,.str []])),bW 2 16 67] (.region [ay 68 1 15,bq 69 2 16,fp 70 2 100 [.t 69],dr (.appm 71 none 2 100 (.t 68) (.t 70)),bW 1 15 71])))))))) (aa [ay 72 1 15,b9 73 (.mkif 49 (.t 72)),b9 74 (.mkf 185 [.t 15]),cj 75 182 73 74] (.seq (.pubB 15 (.region [ay 76 1 15,I 8 76,bA 9 true])) .ret)))))))))))
def Gd:C:=(aa [dc 2 0,dc 3 1,bA 4 false] (aa [aF 5 0 1 2,ay 6 1 5,aF 7 0 1 3,ay 8 1 7,br 9 .lss 6 8,I 10 9,ax 10 false (aF 11 0 1 2),ax 10 false (ay 12 1 11),ax 10 false (aF 13 0 1 3),ax 10 false (ay 14 1 13),ax 10 false (br 15 .eql 12 14),cd 10 false 16 15,ax 16 true (aF 17 1 1 2),ax 16 true (ay 18 1 17),ax 16 true (aF 19 1 1 3),ax 16 true (ay 20 1 19),ax 16 true (br 21 .lss 18 20),ax 10 false (ev 22 16 21),dq 23 10 22,I 4 23] .ret))
def Gf:C:=(aa [dc 2 0,bA 4 false] (.seq (aa [aF 5 0 1 2,ay 6 1 5,aV 7 .eql 6 4] (aZ 7 (aa [aF 8 3 1 2,ay 9 1 8,ku 10 4 9 0,bq 11 4 10,I 12 1,cj 13 177 11 12,I 14 13,ax 14 false (aF 15 3 1 2),ax 14 false (ay 16 1 15),ax 14 false (ku 17 4 16 1),ax 14 false (bq 18 4 17),cd 14 false 19 1,ax 14 false (cj 20 177 18 19),dq 21 14 20,I 4 21] .ret) .skip)) (aa [aF 22 0 1 2,ay 23 1 22,aV 24 .eql 23 2,I 25 24,ax 25 true (aF 26 2 1 2),ax 25 true (ay 27 1 26),cd 25 true 28 1,ax 25 true (br 29 .eql 27 28),ev 30 25 29,I 4 30] .ret)))
def Rk:C:=(aa [bA 5 false] (.seq (.drawn true 17 [ay 6 1 2,I 7 0,ck 8 2 6 7,aF 9 0 1 8,ay 10 1 9,ay 11 1 2,I 12 1,ck 13 2 11 12,aF 14 0 1 13,ay 15 1 14,br 16 .lss 10 15,I 5 16]) .ret))
def Ri:C:=(.region [ay 4 1 1,I 5 0,ay 6 1 2,b9 7 (.build [.int .i64 0,.str []] [(0,1,(.t 5)),(1,1,(.t 6))]),dr (.mput (.a [false,true]) (.t 4) (.t 7) (.c (.bool true)))])
def Rj:C:=(aa [bA 5 false] (.seq (.drawn true 15 [ay 6 1 2,I 7 0,ck 8 2 6 7,bq 9 2 8,ay 10 1 2,I 11 1,ck 12 2 10 11,bq 13 2 12,cj 14 161 9 13,I 5 14]) .ret))
def amx:b6 aS Rn [.tmp 2] 1 Tryz.f87=true:=bi
def amy:b6 aS Ro [.tmp 2] 1 Tryz.f88=true:=bi
def EI:b6 aS Aw [.tmp 8,.tmp 9] 4 Tryz.f118=true:=bi
def Oj:b6 aS Gc [.tmp 8,.tmp 9] 4 Tryz.f120=true:=bi
def Ol:b6 aS Gd [.tmp 4] 2 Tryz.f161=true:=bi
def On:b6 aS Gf [.tmp 4] 2 Tryz.f177=true:=bi
def amu:b6 aS Rk [.tmp 5] 3 Tryz.f183=true:=bi
def ams:b6 aS Ri [] 3 Tryz.f184=true:=bi
def amt:b6 aS Rj [.tmp 5] 3 Tryz.f185=true:=bi
def nj(x:bG):Prop:=(0<=x.v/\x.v<=100000)/\(x.k=2\/x.k=3)
def oy(x y:bG):Prop:=x.v<y.v
def HR{l:List bG}:ht l↔∀i,i<l.length->iZ nj oy l i:=by rw[QJ (p:=nj) (r:=oy) (fun a b c J U=>by unfold oy at*;omega)];exact⟨fun h=>⟨h.at',h.asc⟩,fun h=>⟨h.1,h.2⟩⟩
def kS(x:bn):Prop:=(0<=x.v/\x.v<=100000)/\kn x.s=true
def ll(x y:bn):Prop:=gb x y<0
def Ib{l:List bn}:jK l↔∀i,i<l.length->iZ kS ll l i:=by rw[QJ (p:=kS) (r:=ll) (fun a b c J U=>by unfold ll at*;exact mC.ltr J (Int.le_of_lt U))];exact⟨fun h=>⟨h.at',h.asc⟩,fun h=>⟨h.1,h.2⟩⟩
open Classical in
def abC(l:List bG):bX au 87 [b4 (l.map bG.e)] (.bool (decide (ht l))):=by
 generalize bu:decide (ht l)=R;refine bL a7 Tryz.func87 amx fun p=>?_;unfold Rn;have s:l.length<=68719476736:=by simp[eP,eU,eQ,lim]at p;omega
 simp;refine eY [0,5,6] (fun i (_:Unit)=>[(7,aj i)]) l.length (fun i _=> ∀j,j<i->iZ nj oy l j) () cc (fun k w=>Ω) (fun _ f _=>?_) (fun i _ hi f _=>?_)
 ·have:R=true:=by rw[<-bu,gu,HR];exact f
  rw[this];exact cB
 ·obtain⟨b,a⟩:∃b,l[i]? =some b:=⟨_,cl hi⟩;obtain⟨c,aw⟩:∃c,l[i-1]? =some c:=⟨_,cl Ω⟩;have m:∀h,(l[i]'h)=b:=fun h=>by rw[cl hi]at a;exact e7 a
  have o:¬iZ nj oy l i->R=false:=fun h=>by rw[<-bu,iL];exact fun d=>h (HR.1 d i hi)
  have du:iZ nj oy l i->∀j,j<i+1->iZ nj oy l j:=fun h j r=>by
   by_cases e:j=i
   ·rw[e];exact h
   ·exact f j Ω
  simp[hi,m,aw];((repeat' first|refine aq ?_|simp[m,aw,hi]|((first|apply cu|apply cy|apply cx)<;>intro h<;>try simp at h))<;>(try exact c4));all_goals first
   |(have q:¬iZ nj oy l i:=by(intro d;have J:=d b a;have U:=J.2 c;have v:=J.1;unfold nj oy at*;first|omega|(have x:=U Ω aw;omega)|(simp_all;done)|(simp_all;omega))
     rw[o q]
     simp[b0,ba,bd,a1]
     done)
   |(refine bV.rng () hi (du fun b7 n=>?_) ?_
     ·rw[a]at n;cases n
      refine⟨?_,fun t u g=>?_⟩
      ·unfold nj;first|(simp_all;done)|(simp_all;omega)
      ·rw[aw]at g;cases g;unfold oy;simp_all
     ·exact cc)
def CD(a b:bn):bX au 161 [a.e,b.e] (.bool (iJ gb a b)):=by
 rw[<-Ya];have bu:uX a b=(decide (a.v<b.v)||(a.v==b.v&&iq a.s b.s)):=rfl;rcases Int.lt_trichotomy a.v b.v with h|h|h
 ·have:uX a b=true:=by rw[bu];simp[h]
  rw[this];refine bL a7 Tryz.func161 Ol fun c=>?_;unfold Gd;exact cB
 ·have J:¬a.v<b.v:=Ω
  have U:(a.v==b.v)=true:=by simp[h]
  have:uX a b=iq a.s b.s:=by rw[bu];simp[h]
  rw[this];refine bL a7 Tryz.func161 Ol fun c=>?_;unfold Gd;exact cB
 ·have J:¬a.v<b.v:=Ω
  have U:¬a.v=b.v:=Ω
  have d:(a.v==b.v)=false:=by simp[U]
  have:uX a b=false:=by rw[bu];simp[J,U]
  rw[this];refine bL a7 Tryz.func161 Ol fun c=>?_;unfold Gd;exact cB
open Classical in
def abE(l:List bn):bX au 88 [b4 (l.map bn.e)] (.bool (decide (jK l))):=by
 generalize bu:decide (jK l)=R;refine bL a7 Tryz.func88 amy fun v=>?_;unfold Ro;have x:l.length<=68719476736:=by simp[eP,eU,eQ,lim]at v;omega
 simp;refine eY [0,5,6] (fun i (_:Unit)=>[(7,aj i)]) l.length (fun i _=> ∀j,j<i->iZ kS ll l j) () cc (fun k z=>Ω) (fun _ o _=>?_) (fun i _ hi o _=>?_)
 ·have:R=true:=by rw[<-bu,gu,Ib];exact o
  rw[this];exact cB
 ·obtain⟨b,d⟩:∃b,l[i]? =some b:=⟨_,cl hi⟩;obtain⟨c,aw⟩:∃c,l[i-1]? =some c:=⟨_,cl Ω⟩;have a:∀h,(l[i]'h)=b:=fun h=>by rw[cl hi]at d;exact e7 d
  have s:¬iZ kS ll l i->R=false:=fun h=>by rw[<-bu,iL];exact fun t=>h (Ib.1 t i hi)
  have du:iZ kS ll l i->∀j,j<i+1->iZ kS ll l j:=fun h j w=>by
   by_cases e:j=i
   ·rw[e];exact h
   ·exact o j Ω
  have g:∀p:Prop,(p->et)->(iZ kS ll l i->p)->R=false:=fun p J U=>s fun h=>J (U h);have f:iZ kS ll l i->kS b:=fun h=>(h b d).1;have u:iZ kS ll l i->0<i->iJ gb c b=true:=fun h n=>by simpa[iJ,ll]using(h b d).2 c n aw
  have m:kS b->(0<i->iJ gb c b=true)->iZ kS ll l i:=fun J U b7 r=>by rw[d]at r;cases r;exact⟨J,fun y n q=>by rw[aw]at q;cases q;simpa[iJ,ll]using U n⟩
  unfold kS at f m;by_cases g1:b.v<0
  ·rw[g _ (fun h=>Ω) (fun h=>(f h).1.1)];exact cB
  by_cases g2:100000<b.v
  ·rw[g _ (fun h=>Ω) (fun h=>(f h).1.2)];exact cB
  cases g3:kn b.s
  ·rw[g _ (fun h=>by rw[h]at g3;cases g3) (fun h=>(f h).2)];simp[hi,a,aw];(repeat' first|refine aq ?_|refine aP (vb _) ?_|refine aQ (vb _) ?_|simp[a,aw,hi,g1,g2,g3]);simp[b0,ba,bd,a1]
  by_cases g4:0<i
  ·cases g5:iJ gb c b
   ·rw[g _ (fun h=>by rw[h]at g5;cases g5) (fun h=>u h g4)];simp[hi,a,aw];(repeat' first|refine aq ?_|refine aP (vb _) ?_|refine aQ (vb _) ?_|refine aP (CD _ _) ?_|refine aQ (CD _ _) ?_|simp[a,aw,hi,g1,g2,g3,g4,g5]);simp[b0,ba,bd,a1]
   ·simp[hi,a,aw];(repeat' first|refine aq ?_|refine aP (vb _) ?_|refine aQ (vb _) ?_|refine aP (CD _ _) ?_|refine aQ (CD _ _) ?_|simp[a,aw,hi,g1,g2,g3,g4,g5]);exact bV.rng () hi (du (m ⟨⟨Ω,Ω⟩,g3⟩ fun _=>g5)) cc
  ·obtain rfl:i=0:=Ω
   simp[hi,a,aw];(repeat' first|refine aq ?_|refine aP (vb _) ?_|refine aQ (vb _) ?_|simp[a,aw,hi,g1,g2,g3,g4]);exact bV.rng () hi (du (m ⟨⟨Ω,Ω⟩,g3⟩ fun h=>Ω)) cc
def ari(s:List cW):∀t:T,bX au 177 [t.e,.str s] (.bool (t.has s)):=by
 intro t;induction t with
 |pair a b d c=>
  refine bL a7 Tryz.func177 On fun g=>?_;unfold Gf;simp;cases e:a.has s<;>cases f:b.has s<;>rw[e]at d<;>rw[f]at c;all_goals(repeat' first|refine aq ?_|refine aP d ?_|refine aQ d ?_|refine aP c ?_|refine aQ c ?_|simp)
  all_goals simp[b0,ba,bd,a1]
  all_goals simp[T.has,e,f]
 |sym n=>
  refine bL a7 Tryz.func177 On fun g=>?_;unfold Gf;simp;(repeat' first|refine aq ?_|simp);all_goals simp[b0,ba,bd,a1]
  all_goals simp[T.has]
 |_=>
  refine bL a7 Tryz.func177 On fun g=>?_;unfold Gf;simp;(repeat' first|refine aq ?_|simp);all_goals simp[b0,ba,bd,a1]
  all_goals simp[T.has]
def SF:C:=(aa [dc 2 0] (aa [bQ 4 20] (aa [I 8 4,bQ 5 0,I 6 8] (.seq (.block 0 (.loop (.seq (aa [I 9 6,I 10 1,br 11 .leq 9 10] (aZ 11 .skip (.exit 0))) (.block 1 (aa [bq 12 2 2,I 13 5,I 14 6,eg 15 231 [.t 12,.t 13,.t 14]] (aa [I 16 6,I 5 16] (.region [I 17 6,I 18 4,br 19 .add 17 18,I 6 19]))))))) (aa [bq 20 2 2,I 21 5,I 22 1,eg 23 231 [.t 20,.t 21,.t 22]] (.block 2 (.loop (.seq (aa [I 24 4,I 25 1,br 26 .lss 24 25] (aZ 26 .skip (.exit 2))) (.block 3 (aa [I 27 4,b9 28 (.bin .mul false (gP 2) (.t 27)),bQ 5 0,I 6 28] (.seq (.block 4 (.loop (.seq (aa [I 29 6,I 30 1,br 31 .leq 29 30] (aZ 31 .skip (.exit 4))) (.block 5 (aa [bq 32 2 2,I 33 5,I 34 5,I 35 4,br 36 .add 34 35,I 37 6,eg 38 232 [.t 32,.t 33,.t 36,.t 37]] (aa [I 39 6,I 5 39] (.region [I 40 6,I 41 4,b9 42 (.bin .mul false (gP 2) (.t 41)),br 43 .add 40 42,I 6 43]))))))) (.seq (aa [I 44 5,I 45 4,br 46 .add 44 45,I 7 46] (aa [I 47 7,I 48 1,br 49 .lss 47 48] (aZ 49 (.region [bq 50 2 2,I 51 5,I 52 7,I 53 1,eg 54 232 [.t 50,.t 51,.t 52,.t 53]]) .skip))) (.region [I 55 4,aV 56 .mul 55 2,I 4 56])))))))))))))
def KQ:C:=(aa [dc 3 0] (aa [I 8 1,aV 9 .add 8 1,I 6 9] (.block 0 (.loop (.seq (aa [I 10 6,I 11 2,br 12 .lss 10 11] (aZ 12 .skip (.exit 0))) (.seq (.block 1 (aa [I 15 6,I 7 15] (.block 2 (.loop (.seq (aa [I 16 7,I 17 1,br 18 .gtr 16 17,I 19 18,ax 19 true (aF 20 0 1 3),ax 19 true (ay 21 1 20),cd 19 true 22 7,cd 19 true 23 7,ax 19 true (aV 24 .sub 23 1),ax 19 true (hE 25 21 [.t 22,.t 24]),ev 26 19 25] (aZ 26 .skip (.exit 2))) (.seq (.block 3 (.region [aF 29 1 1 3,ay 30 1 29,I 31 7,I 32 7,aV 33 .sub 32 1,hE 34 30 [.t 31,.t 33]])) (.region [I 27 7,aV 28 .sub 27 1,I 7 28]))))))) (.region [I 13 6,aV 14 .add 13 1,I 6 14])))))))
def Gk:C:=(aa [I 164 16,I 165 22,br 166 .lss 164 165,I 167 166,cd 167 true 168 22,cd 167 true 169 3,ax 167 true (br 170 .lss 168 169),ev 171 167 170] (aZ 171 (.region [bq 172 2 4,I 173 16,I 174 22,I 175 3,eg 176 232 [.t 172,.t 173,.t 174,.t 175]]) .skip))
def Gl:C:=(.seq (aa [I 151 1,I 152 18,br 153 .lss 151 152,I 154 153,cd 154 true 155 18,cd 154 true 156 16,ax 154 true (br 157 .lss 155 156),ev 158 154 157] (aZ 158 (.region [bq 159 2 4,I 160 1,I 161 18,I 162 16,eg 163 232 [.t 159,.t 160,.t 161,.t 162]]) .skip)) Gk)
def KU:C:=(.seq (aa [I 138 18,I 139 2,br 140 .lss 138 139,I 141 140,cd 141 true 142 2,cd 141 true 143 22,ax 141 true (br 144 .lss 142 143),ev 145 141 144] (aZ 145 (.region [bq 146 2 4,I 147 18,I 148 2,I 149 22,eg 150 251 [.t 146,.t 147,.t 148,.t 149]]) .skip)) Gl)
def KV:C:=(aa [I 113 17,aV 114 .sub 113 1,I 20 114] (.seq (.block 8 (.loop (.seq (aa [I 115 18,I 116 19,br 117 .lss 115 116] (aZ 117 .skip (.exit 8))) (.block 9 (aa [I 118 18,I 119 19,br 120 .add 118 119,b9 121 (.conv .u64 (.t 120)),b9 122 (.bin .shr false (.t 121) (.c (.int .u64 1))),b9 123 (.conv .i64 (.t 122)),I 21 123] (aa [aF 124 0 1 4,ay 125 1 124,I 126 20,I 127 21,br 128 .sub 126 127,I 129 21,hE 130 125 [.t 128,.t 129],cR 131 130] (aZ 131 (.region [I 132 21,aV 133 .add 132 1,I 18 133]) (.region [I 134 21,I 19 134])))))))) (aa [I 135 17,I 136 18,br 137 .sub 135 136,I 22 137] KU)))
def SH:C:=(aa [dc 4 0] (.seq (aa [I 23 2,I 24 1,br 25 .sub 23 24,aV 26 .eql 25 1] (aZ 26 (aa [I 27 2,I 8 27] (aa [I 28 3,I 9 28] (.seq (.block 0 (.loop (.seq (aa [I 29 8,I 30 9,br 31 .lss 29 30] (aZ 31 .skip (.exit 0))) (.block 1 (aa [I 32 8,I 33 9,br 34 .add 32 33,b9 35 (.conv .u64 (.t 34)),b9 36 (.bin .shr false (.t 35) (.c (.int .u64 1))),b9 37 (.conv .i64 (.t 36)),I 10 37] (aa [aF 38 0 1 4,ay 39 1 38,I 40 10,I 41 1,hE 42 39 [.t 40,.t 41]] (aZ 42 (.region [I 43 10,aV 44 .add 43 1,I 8 44]) (.region [I 45 10,I 9 45])))))))) (.seq (aa [I 46 1,I 11 46] (.block 2 (.loop (.seq (aa [I 47 11,I 48 8,aV 49 .sub 48 1,br 50 .lss 47 49] (aZ 50 .skip (.exit 2))) (.seq (.block 3 (.region [aF 53 1 1 4,ay 54 1 53,I 55 11,I 56 11,aV 57 .add 56 1,hE 58 54 [.t 55,.t 57]])) (.region [I 51 11,aV 52 .add 51 1,I 11 52])))))) .ret)))) .skip)) (.seq (aa [I 59 3,I 60 2,br 61 .sub 59 60,aV 62 .eql 61 1] (aZ 62 (aa [I 63 1,I 12 63] (aa [I 64 2,I 13 64] (.seq (.block 4 (.loop (.seq (aa [I 65 12,I 66 13,br 67 .lss 65 66] (aZ 67 .skip (.exit 4))) (.block 5 (aa [I 68 12,I 69 13,br 70 .add 68 69,b9 71 (.conv .u64 (.t 70)),b9 72 (.bin .shr false (.t 71) (.c (.int .u64 1))),b9 73 (.conv .i64 (.t 72)),I 14 73] (aa [aF 74 0 1 4,ay 75 1 74,I 76 2,I 77 14,hE 78 75 [.t 76,.t 77],cR 79 78] (aZ 79 (.region [I 80 14,aV 81 .add 80 1,I 12 81]) (.region [I 82 14,I 13 82])))))))) (.seq (aa [I 83 2,I 15 83] (.block 6 (.loop (.seq (aa [I 84 15,I 85 12,br 86 .gtr 84 85] (aZ 86 .skip (.exit 6))) (.seq (.block 7 (.region [aF 89 1 1 4,ay 90 1 89,I 91 15,I 92 15,aV 93 .sub 92 1,hE 94 90 [.t 91,.t 93]])) (.region [I 87 15,aV 88 .sub 87 1,I 15 88])))))) .ret)))) .skip)) (aa [I 95 1,I 96 3,br 97 .add 95 96,b9 98 (.conv .u64 (.t 97)),b9 99 (.bin .shr false (.t 98) (.c (.int .u64 1))),b9 100 (.conv .i64 (.t 99)),I 16 100] (aa [I 101 16,I 102 2,br 103 .add 101 102,I 17 103] (aa [bQ 18 0,bQ 19 0] (.seq (aa [I 104 2,I 105 16,br 106 .gtr 104 105] (aZ 106 (aa [I 107 17,I 108 3,br 109 .sub 107 108,I 18 109] (.region [I 110 16,I 19 110])) (aa [I 111 1,I 18 111] (.region [I 112 2,I 19 112])))) KV)))))))
def SD:C:=(aa [dc 4 0] (aa [I 10 2,I 11 1,br 12 .sub 10 11,I 8 12] (aa [I 13 3,I 14 2,br 15 .sub 13 14,I 9 15] (.seq (.block 0 (.loop (.seq (aa [I 16 8,I 17 9,br 18 .neq 16 17] (aZ 18 .skip (.exit 0))) (.block 1 (aa [I 19 8,I 20 9,br 21 .gtr 19 20] (aZ 21 (aa [bq 22 2 4,I 23 2,I 24 8,br 25 .sub 23 24,I 26 2,I 27 9,eg 28 270 [.t 22,.t 25,.t 26,.t 27]] (.region [I 29 8,I 30 9,br 31 .sub 29 30,I 8 31])) (aa [bq 32 2 4,I 33 2,I 34 8,br 35 .sub 33 34,I 36 2,I 37 9,br 38 .add 36 37,I 39 8,br 40 .sub 38 39,I 41 8,eg 42 270 [.t 32,.t 35,.t 40,.t 41]] (.region [I 43 9,I 44 8,br 45 .sub 43 44,I 9 45])))))))) (.region [bq 46 2 4,I 47 2,I 48 8,br 49 .sub 47 48,I 50 2,I 51 8,eg 52 270 [.t 46,.t 49,.t 50,.t 51]])))))
def SG:C:=(aa [dc 4 0] (aa [bQ 8 0] (.block 0 (.loop (.seq (aa [I 9 8,I 10 3,br 11 .lss 9 10] (aZ 11 .skip (.exit 0))) (.seq (.block 1 (.region [aF 14 1 1 4,ay 15 1 14,I 16 1,I 17 8,br 18 .add 16 17,I 19 2,I 20 8,br 21 .add 19 20,hE 22 15 [.t 18,.t 21]])) (.region [I 12 8,aV 13 .add 12 1,I 8 13])))))))
def anQ:b6 aS SF [] 2 Tryz.f199=true:=bi
def YL:b6 aS KQ [] 3 Tryz.f231=true:=bi
def anS:b6 aS SH [] 4 Tryz.f232=true:=bi
def anO:b6 aS SD [] 4 Tryz.f251=true:=bi
def anR:b6 aS SG [] 4 Tryz.f270=true:=bi
end
section
open Go Go.Pv
structure fQ {α:Type} (S:List α->cQ) (n:Nat) (g cp:Nat) (lc cg:List af) (lt:α->α->Bool):Prop where
 ok:∀l,eB (S l)
 same:∀l bf,l.length=n->bf.length=n->Same (S l) (S bf)
 klc:∀l,l.length=n->aH (aK (S l)) lc
 ksc:∀l,l.length=n->aH (aK (S l)) cg
 slc:cf lc=lc
 ssc:cf cg=cg
 le:n<=68719476736
 less:∀l,l.length=n->∀(i j:Nat) x y,l[i]? =some x->l[j]? =some y->bD au g (aj i::aj j::lc) (S l) fun r ak=>r= .bool (lt x y)/\ak=S l
 swap:∀l,l.length=n->2<=n->∀i j:Nat,i<n->j<n->bD au cp (aj i::aj j::cg) (S l) fun r ak=>r= .tuple []/\ak=S (h9 l i j)
variable {α:Type} {S:List α->cQ} {n g cp:Nat} {lc cg:List af} {lt:α->α->Bool}
def fC(g cp:Nat)(lc cg:List af):af:= .agg [.func g lc,.func cp cg]
def LR(H:fQ S n g cp lc cg lt)(l:List α)(e:l.length=n)(a b c:Nat)(v:a+c<=b)(u:b+c<=n):
  bD au 270 [fC g cp lc cg,aj a,aj b,aj c] (S l) fun r o=>r= .tuple []/\∃h,o=S h/\hf a (b+c) l h/\∀k,h[k]? =l[tH a b c k]?:=by
 have j:=H.ok l;have d:∀l m,ad (.loc m) (S l).b=none:=fun l=>(H.ok l).obj.1;have hu:∀l m cs,cH (.loc m) cs (S l).b=(S l).b++[(.loc m,cs)]:=fun l m cs=>kH (d l m);have ar:∀m,aA.loc m∉cI (S l):=kE j.obj;have hle:=H.le;refine bD.mk mixed a7 Tryz.func270 anR Ψ j.obj fun t s=>?_;unfold SG;simp[fC,hu,ar,c0,d,H.slc,H.ssc];refine fX (fun i (lk:List α)=>⟨[(1,aj a),(2,aj b),(3,aj c),(4,.ptr (.loc 0) 0),(8,aj i)],[(.loc 0,[.func g lc,.func cp cg])]++(S lk).b,(S lk).e,1,cI (S l)⟩) c (fun i lk=>lk.length=n/\hf a (b+c) l lk/\∀k,lk[k]? =l[tH a b i k]?) l
  (gk.obL j (Same.refl _) dl (by simp[c0,d,az,aH,BX (H.klc l e),BX (H.ksc l e)]) aW aW) ⟨e,.refl _,fun k=>by simp[tH];split<;>(try split)<;>(try rfl)<;>(exfalso;omega)⟩ ?_ ?_
 ·rintro lk ⟨J,U,f⟩ _;simp;refine c3.at (S lk) (.inr rfl) (H.ok lk) (H.same _ _ e J) aW aW ?_;simp[c9,ba,bd,a1];exact⟨lk,rfl,U,f⟩
 ·rintro i lk hi ⟨J,U,f⟩ _;have p:((a:Int)+i)=(a+i:Nat):=Ω
  have q:((b:Int)+i)=(b+i:Nat):=Ω
  simp[hi,c0,d,H.ssc];(repeat' first|refine aq ?_|simp);rw[p,q];refine CallDo.ob (H.swap lk J Ω (a+i) (b+i) Ω Ω) (H.ok lk) aW aW (by simp[H.ksc lk J]) ?_;rintro r o ⟨rfl,rfl⟩;refine⟨H.same _ _ J (by simp[J]),?_⟩;simp[hM,jt,cJ,d];(repeat' first|refine aq ?_|simp);refine bV.rng (h9 lk (a+i) (b+i)) hi ⟨by simp[J],.step U Ω Ω Ω Ω Ω Ω,fun k=>?_⟩ (gk.obL (L:=[(.loc 0,[.func g lc,.func cp cg])]) (H.ok _) (H.same _ _ e (by simp[J])) dl (by simp[c0,d,az,aH,BX (H.klc (h9 lk (a+i) (b+i)) (by simp[J])),BX (H.ksc (h9 lk (a+i) (b+i)) (by simp[J]))]) aW aW);rw[BM _ _ _ _ Ω Ω,f,f,f];have:tH a b (i+1) k=if k=a+i then tH a b i (b+i)else if k=b+i then tH a b i (a+i)else tH a b i k:=by
   simp only[tH];repeat' split
   all_goals omega
  rw[this];split
  ·rfl
  ·split<;>rfl
section
variable (H:fQ S n g cp lc cg lt)
include H
theorem fQ.loc{l:List α}(m:Nat):ad (.loc m) (S l).b=none:=(H.ok l).obj.1 m
theorem fQ.weak{l lk:List α}(c:l.length=n)(a:lk.length=n){st:bo}{t':List (Nat×af)}(e:∀x∈t',Pv.get x.1 st.t=x.2/\az (nm (S lk) 1) x.2)(b:ad (.loc 0) st.b=some [.func g lc,.func cp cg])
  (d:∀k cs,ad k (S lk).b=some cs->ad k st.b=some cs) (he:∀k o,ad k (S lk).e=some o->ad k st.e=some o):
  gk (cI (S l)) st ⟨t',(.loc 0,[.func g lc,.func cp cg])::(S lk).b,(S lk).e,1,cI (S l)⟩:=
 gk.obL (L:=[(.loc 0,[.func g lc,.func cp cg])]) (H.ok _) (H.same _ _ c a) e (by simp[b,az,aH,BX (H.klc lk a),BX (H.ksc lk a)]) d he
theorem fQ.weakC{l lk:List α}(b:l.length=n)(c:lk.length=n){t t':List (Nat×af)}{q:Nat}{o:List aA}(d:∀x∈t',Pv.get x.1 t=x.2/\az (nm (S lk) 1) x.2):
  gk (cI (S l)) ⟨t,(.loc 0,[.func g lc,.func cp cg])::(S lk).b,(S lk).e,q,o⟩ ⟨t',(.loc 0,[.func g lc,.func cp cg])::(S lk).b,(S lk).e,1,cI (S l)⟩:=
 H.weak b c d (by simp[ad]) (fun k cs a=>by
  cases k with
  |loc m=>rw[H.loc m]at a;cases a
  |obj m=>simpa[ad]using a) (fun _ _ a=>a)
theorem fQ.call{lk:List α}(J:lk.length=n){f:Nat}{args:List af}{R:af->List α->Prop}(j:bD au f args (S lk) fun r c=> ∃a,c=S a/\R r a)(bu:∀r a,R r a->a.length=n)(i:aH (aK (S lk)) args){t:List (Nat×af)}{aX:List af}{o:List aA}{d:bc Nat}{K:bo->Prop}
  (h:∀r a,R r a->K ⟨e3 d r t,(.loc 0,aX)::(S a).b,(S a).e,1,o++cI (S a)⟩):CallDo au f args ⟨t,(.loc 0,aX)::(S lk).b,(S lk).e,1,o⟩ d K:=by
 refine CallDo.ob j (H.ok lk) (fun k cs b=>?_) (fun _ _ b=>b) i ?_
 ·cases k with
  |loc m=>rw[H.loc m]at b;cases b
  |obj m=>simpa[ad]using b
 ·rintro r c ⟨a,rfl,e⟩;refine⟨H.same _ _ J (bu _ _ e),?_⟩;have g:cJ (S lk).b ((.loc 0,aX)::(S lk).b)=[(.loc 0,aX)]:=by have:=jt (S lk).b [(aA.loc 0,aX)] (S lk).b;rw[hM]at this;simpa[cJ,H.loc]using this
  have l:cJ (S lk).e (S lk).e=[]:=hM _;have:=h _ _ e;simp only[g,l];exact this
theorem fQ.doSwap{lk:List α}(J:lk.length=n)(i j:Nat)(hi:i<n)(c:j<n)(U:2<=n){t:List (Nat×af)}{aX:List af}{o:List aA}{d:bc Nat}{K:bo->Prop}
  (h:K ⟨e3 d (.tuple []) t,(.loc 0,aX)::(S (h9 lk i j)).b,(S (h9 lk i j)).e,1,o++cI (S (h9 lk i j))⟩):CallDo au cp (aj i::aj j::cg) ⟨t,(.loc 0,aX)::(S lk).b,(S lk).e,1,o⟩ d K:=
 H.call J (R:=fun r a=>r= .tuple []/\a=h9 lk i j) ((H.swap lk J U i j hi c).mono fun r g ⟨b,f⟩=>⟨_,f,b,rfl⟩) (fun r a ⟨_,e⟩=>by rw[e];simp[J]) (by simp[az,aH,H.ksc lk J]) (by rintro r a ⟨rfl,rfl⟩;exact h)
theorem fQ.doLess{lk:List α}(J:lk.length=n)(i j:Nat){x y:α}(hi:lk[i]? =some x)(c:lk[j]? =some y){t:List (Nat×af)}{aX:List af}{o:List aA}{d:bc Nat}{K:bo->Prop}
  (h:K ⟨e3 d (.bool (lt x y)) t,(.loc 0,aX)::(S lk).b,(S lk).e,1,o++cI (S lk)⟩):CallDo au g (aj i::aj j::lc) ⟨t,(.loc 0,aX)::(S lk).b,(S lk).e,1,o⟩ d K:=
 H.call J (R:=fun r a=>r= .bool (lt x y)/\a=lk) ((H.less lk J i j x y hi c).mono fun r k ⟨b,f⟩=>⟨_,f,b,rfl⟩) (fun r a ⟨_,e⟩=>by rw[e];exact J) (by simp[az,aH,H.klc lk J]) (by rintro r a ⟨rfl,rfl⟩;exact h)
theorem fQ.doFn{lk:List α}(J:lk.length=n){f:Nat}{args:List af}{R:List α->Prop}(j:bD au f args (S lk) fun r b=>r= .tuple []/\∃a,b=S a/\R a)(bu:∀a,R a->a.length=n)(g:aH (aK (S lk)) args){t:List (Nat×af)}{aX:List af}{o:List aA}{d:bc Nat}{K:bo->Prop}
  (h:∀a,R a->K ⟨e3 d (.tuple []) t,(.loc 0,aX)::(S a).b,(S a).e,1,o++cI (S a)⟩):CallDo au f args ⟨t,(.loc 0,aX)::(S lk).b,(S lk).e,1,o⟩ d K:=
 H.call J (R:=fun r a=>r= .tuple []/\R a) (j.mono fun r b ⟨e,a,k,c⟩=>⟨a,k,e,c⟩) (fun r a h=>bu a h.2) g (by rintro r a ⟨rfl,i⟩;exact h a i)
theorem fQ.kdata{lk:List α}(J:lk.length=n):az (aK (S lk)) (fC g cp lc cg):=by simp[fC,az,aH,H.klc lk J,H.ksc lk J]
theorem fQ.ret{l lk:List α}(c:l.length=n)(J:lk.length=n){Q:af->cQ->Prop}{e:Exit}(he:e= .ret\/e= .normal){t:List (Nat×af)}{aX:List af}{q:Nat}{o:List aA}(b:Q (.tuple []) (S lk)):c3 [] (S l) Q e ⟨t,(.loc 0,aX)::(S lk).b,(S lk).e,q,o⟩:=by
 refine c3.at (S lk) he (H.ok lk) (H.same _ _ c J) (fun k cs a=>?_) (fun _ _ a=>a) ?_
 ·cases k with
  |loc m=>rw[H.loc m]at a;cases a
  |obj m=>simpa[ad]using a
 ·simp[c9,ba,a1,az,aH,b]
end
def jh(H:fQ S n g cp lc cg lt):b5 (fC g cp lc cg)=fC g cp lc cg:=by simp[fC,b5,cf,H.slc,H.ssc]
def ja:af.agg [.func g lc,.func cp cg]=fC g cp lc cg:=rfl
def aim(H:fQ S n g cp lc cg lt)(l:List α)(f:l.length=n)(a m b:Nat)(G:a<m)(A:m<b)(E:b<=n):
  bD au 251 [fC g cp lc cg,aj a,aj m,aj b] (S l) fun r y=>r= .tuple []/\∃c,y=S c/\hf a b l c/\∀k,c[k]? =l[iR a m b k]?:=by
 have u:=H.ok l;have s:∀l m,ad (.loc m) (S l).b=none:=fun l=>(H.ok l).obj.1;have hu:∀l m cs,cH (.loc m) cs (S l).b=(S l).b++[(.loc m,cs)]:=fun l m cs=>kH (s l m);have ar:∀m,aA.loc m∉cI (S l):=kE u.obj;have hle:=H.le;refine bD.mk mixed a7 Tryz.func251 anO Ψ u.obj fun F B=>?_;unfold SD;simp[fC,hu,ar,c0,s];(repeat' first|refine aq ?_|simp[hu,ar,c0,s]);refine oY (fun(x:(Nat×Nat)×List α)=>⟨[(2,aj m),(4,.ptr (.loc 0) 0),(8,aj x.1.1),(9,aj x.1.2)],(.loc 0,[.func g lc,.func cp cg])::(S x.2).b,(S x.2).e,1,cI (S l)⟩) (fun x=>x.1.1+x.1.2)
  (fun x=>x.2.length=n/\0<x.1.1/\0<x.1.2/\a+x.1.1<=m/\m+x.1.2<=b/\hf a b l x.2/\∀k,l[iR a m b k]? =x.2[iR (m-x.1.1) m (m+x.1.2) k]?) ((m-a,b-m),l)
  (H.weak f f (by simp[az];omega) (by simp[c0,s]) aW aW) ⟨f,by simp;omega,by simp;omega,by simp;omega,by simp;omega,.refl _,fun k=>by simp[show m-(m-a)=a by omega,show m+(b-m)=b by omega]⟩ ?_
 rintro⟨⟨i,j⟩,lk⟩ ⟨J,hi,v,t,w,U,q⟩ _;simp only at J hi v t w U q;simp[ad];((repeat' first|refine aq ?_|simp[ad]|((first|apply cu|apply cy|apply cx)<;>intro h<;>try simp at h))<;>(try exact c4))
 ·have p:((m:Int)-i)=(m-i:Nat):=Ω
  simp only[jh H,H.slc,H.ssc,p,ja];refine H.doFn J (LR H lk J (m-i) m j Ω Ω) (fun c h=>by rw[h.1.length];exact J) (by simp[aH,az,H.kdata J]) ?_;rintro c ⟨d,o⟩;have e:c.length=n:=by rw[d.length];exact J
  simp;((repeat' first|refine aq ?_|simp|((first|apply cu|apply cy|apply cx)<;>intro h<;>try simp at h))<;>(try exact c4));refine bV.whl ((i-j,j),c) d6 ⟨e,by simp;omega,v,by simp;omega,w,U.trans (d.mono Ω Ω),fun k=>?_⟩ (H.weakC f e (by simp[az];omega));rw[q,o];congr 1;simp only[iR,tH];repeat' split
  all_goals omega
 ·have p:((m:Int)-i)=(m-i:Nat):=Ω
  have z:((m:Int)+j-i)=(m+j-i:Nat):=Ω
  simp only[jh H,H.slc,H.ssc,p,z,ja];refine H.doFn J (LR H lk J (m-i) (m+j-i) i Ω Ω) (fun c h=>by rw[h.1.length];exact J) (by simp[aH,az,H.kdata J]) ?_;rintro c ⟨d,o⟩;have e:c.length=n:=by rw[d.length];exact J
  simp;(repeat' first|refine aq ?_|simp);refine bV.whl ((i,j-i),c) d6 ⟨e,hi,by simp;omega,t,by simp;omega,U.trans (d.mono Ω Ω),fun k=>?_⟩ (H.weakC f e (by simp[az];omega));rw[q,o];congr 1;simp only[iR,tH];repeat' split
  all_goals omega
 ·have p:((m:Int)-i)=(m-i:Nat):=Ω
  simp only[jh H,H.slc,H.ssc,p,ja];refine H.doFn J (LR H lk J (m-i) m i Ω Ω) (fun c h=>by rw[h.1.length];exact J) (by simp[aH,az,H.kdata J]) ?_;rintro c ⟨d,o⟩;have e:c.length=n:=by rw[d.length];exact J
  simp;refine H.ret f e (.inr rfl) ⟨rfl,c,rfl,U.trans (d.mono Ω Ω),fun k=>?_⟩;rw[q,o];congr 1;simp only[iR,tH];repeat' split
  all_goals omega
end
section
open Go Go.Pv
variable {α:Type} {S:List α->cQ} {n g cp:Nat} {lc cg:List af} {lt:α->α->Bool}
def vq(lt:α->α->Bool)(a b j:Nat)(l:List α):Prop:= ∀p q x y,a<=p->p<q->q<b->q≠j->l[p]? =some x->l[q]? =some y->lt y x=false
def vq.swap(n:rI lt){a b j:Nat}{l:List α}(h:vq lt a b (j+1) l)(s:a<=j)(t:j+1<b)(r:j+1<l.length){x y:α}(g:l[j+1]? =some x)(d:l[j]? =some y)(m:lt x y=true):vq lt a b j (h9 l (j+1) j):=by
 intro p q u v i k f o hu c;rw[BM _ _ _ _ r Ω]at hu c;rw[if_neg (by omega:¬(q=j))]at c;split at c
 ·rename_i e;subst e;rw[d]at c;cases c;split at hu
  ·omega
  ·split at hu
   ·rw[g]at hu;cases hu;exact n.asym _ _ m
   ·exact h p j u y i Ω Ω Ω hu d
 ·split at hu
  ·rename_i e;subst e;rw[d]at hu;cases hu;exact h j q y v s Ω f Ω d c
  ·split at hu
   ·rename_i e;subst e;rw[g]at hu;cases hu;exact h (p+1) q x v Ω Ω f Ω g c
   ·exact h p q u v i k f Ω hu c
def vq.done(m:rI lt){a b j:Nat}{l:List α}(h:vq lt a b (j+1) l)(r:a<=j)(s:j+1<b){x y:α}(n:l[j+1]? =some x)(g:l[j]? =some y)(d:lt x y=false):fW lt a b l:=by
 intro p q u v f i k hu c;by_cases e:q=j+1
 ·subst e;rw[n]at c;cases c;by_cases o:p=j
  ·subst o;rw[g]at hu;cases hu;exact d
  ·exact m.ntr _ _ _ (h p j u y f Ω Ω Ω hu g) d
 ·exact h p q u v f i k e hu c
def vq.first{a b:Nat}{l:List α}(h:vq lt a b a l):fW lt a b l:=fun p q u v e c d hu f=>h p q u v e c d Ω hu f
def fW.but{a b:Nat}{l:List α}(h:fW lt a b l):vq lt a (b+1) b l:=fun p q u v d c f g hu e=>h p q u v d c Ω hu e
def UW(H:fQ S n g cp lc cg lt)(B:rI lt)(l:List α)(d:l.length=n)(a b:Nat)(Q:a<=b)(W:b<=n):
  bD au 231 [fC g cp lc cg,aj a,aj b] (S l) fun r O=>r= .tuple []/\∃t,O=S t/\hf a b l t/\fW lt a b t:=by
 have E:=H.ok l;have s:∀l m,ad (.loc m) (S l).b=none:=fun l=>(H.ok l).obj.1;have hu:∀l m cs,cH (.loc m) cs (S l).b=(S l).b++[(.loc m,cs)]:=fun l m cs=>kH (s l m);have ar:∀m,aA.loc m∉cI (S l):=kE E.obj;have hle:=H.le;refine bD.mk mixed a7 Tryz.func231 YL Ψ E.obj fun X R=>?_;unfold KQ;simp[fC,hu,ar,c0,s];(repeat' first|refine aq ?_|simp[hu,ar,c0,s]);refine oY (fun(x:Nat×List α)=>⟨[(1,aj a),(2,aj b),(3,.ptr (.loc 0) 0),(6,aj x.1)],(.loc 0,[.func g lc,.func cp cg])::(S x.2).b,(S x.2).e,1,cI (S l)⟩) (fun x=>b+1-x.1)
  (fun x=>x.2.length=n/\a<x.1/\x.1<=b+1/\(x.1<=b\/x.1=a+1)/\hf a b l x.2/\fW lt a x.1 x.2) (a+1,l)
  (H.weak d d dl (by simp[c0,s]) aW aW) ⟨d,Ψ,by simp;omega,.inr rfl,.refl _,fun i j x y J U e=>by simp at e;omega⟩ ?_
 rintro⟨i,lk⟩ ⟨J,G,P,F,U,e⟩ _;simp only at J G P F U e;simp;((repeat' first|refine aq ?_|simp|((first|apply cu|apply cy|apply cx)<;>intro h<;>try simp at h))<;>(try exact c4))
 ·refine oY (fun(x:Nat×List α)=>⟨[(1,aj a),(2,aj b),(3,.ptr (.loc 0) 0),(6,aj i),(7,aj x.1)],(.loc 0,[.func g lc,.func cp cg])::(S x.2).b,(S x.2).e,1,cI (S l)⟩) (fun x=>x.1)
   (fun x=>x.2.length=n/\a<=x.1/\x.1<=i/\hf a b l x.2/\vq lt a (i+1) x.1 x.2) (i,lk)
   (H.weakC d J dl) ⟨J,by simp;omega,Ψ,U,fW.but e⟩ ?_
  rintro⟨j,f⟩ ⟨c,v,u,o,k⟩ _;simp only at c v u o k;simp[ad];((repeat' first|refine aq ?_|simp[ad]|((first|apply cu|apply cy|apply cx)<;>intro h<;>try simp at h))<;>(try exact c4))
  ·obtain⟨dg,rfl⟩:∃dg,j=dg+1:=⟨j-1,Ω⟩;obtain⟨x,w⟩:∃x,f[dg+1]? =some x:=⟨_,cl Ω⟩;obtain⟨y,z⟩:∃y,f[dg]? =some y:=⟨_,cl Ω⟩;have N:(((dg+1:Nat):Int)-1)=(dg:Nat):=Ω
   rw[H.slc,N];refine H.doLess c (dg+1) dg w z ?_;simp;cases A:lt x y with
   |true=>
    simp[ad];(repeat' first|refine aq ?_|simp[ad]);have L:((dg:Int)+1)=(dg+1:Nat):=Ω
    rw[H.ssc,L];refine H.doSwap c (dg+1) dg Ω Ω Ω ?_;simp;(repeat' first|refine aq ?_|simp);refine bV.whl (dg,h9 f (dg+1) dg) Ψ ⟨by simp[c],by simp;omega,by simp;omega,.step o Ω Ω Ω Ω Ω Ω,k.swap B Ω Ω Ω w z A⟩ (H.weakC d (by simp[c]) dl)
   |false=>simp;((repeat' first|refine aq ?_|simp|((first|apply cu|apply cy|apply cx)<;>intro h<;>try simp at h))<;>(try exact c4));refine bV.whl (i+1,f) d6 ⟨c,by simp;omega,by simp;omega,by simp;omega,o,k.done B Ω Ω w z A⟩ (H.weakC d c dl)
  ·obtain rfl:j=a:=Ω
   refine bV.whl (i+1,f) d6 ⟨c,by simp;omega,by simp;omega,by simp;omega,o,k.first⟩ (H.weakC d c dl)
 ·refine H.ret d J (.inr rfl) ⟨rfl,lk,rfl,U,fun p q x y M K V=>e p q x y M K Ω⟩
end
section
open Go Go.Pv
variable {α:Type} [Inhabited α] {S:List α->cQ} {n g cp:Nat} {lc cg:List af} {lt:α->α->Bool}
def Ap{d:Array α}{i:Nat}(h:i<d.size):d.toList[i]? =some d[i]!:=by simp[getElem!_pos,h]
def Ia(d:Array α){i j:Nat}(hi:i<d.size)(a:j<d.size):h9 d.toList i j=(Sort.swp d i j).toList:=by simp[h9,Sort.swp,Ap hi,Ap a]
section
variable (H:fQ S n g cp lc cg lt)
include H
theorem fQ.swapA{d:Array α}(J:d.size=n)(U:2<=n)(i j:Nat)(hi:i<n)(b:j<n){t:List (Nat×af)}{aX:List af}{o:List aA}{a:bc Nat}{K:bo->Prop}
  (h:∀o,K ⟨e3 a (.tuple []) t,(.loc 0,aX)::(S (Sort.swp d i j).toList).b,(S (Sort.swp d i j).toList).e,1,o⟩):CallDo au cp (.int .i64 i:: .int .i64 j::cg) ⟨t,(.loc 0,aX)::(S d.toList).b,(S d.toList).e,1,o⟩ a K:=by
 refine H.doSwap (by simpa using J) i j hi b U ?_;rw[Ia d Ω Ω];exact h _
theorem fQ.lessA{d:Array α}(J:d.size=n)(i j:Nat)(hi:i<n)(b:j<n){t:List (Nat×af)}{aX:List af}{o:List aA}{a:bc Nat}{K:bo->Prop}
  (h:∀o,K ⟨e3 a (.bool (lt d[i]! d[j]!)) t,(.loc 0,aX)::(S d.toList).b,(S d.toList).e,1,o⟩):CallDo au g (.int .i64 i:: .int .i64 j::lc) ⟨t,(.loc 0,aX)::(S d.toList).b,(S d.toList).e,1,o⟩ a K:=
 H.doLess (by simpa using J) i j (Ap Ω) (Ap Ω) (h _)
theorem fQ.fnA{d d2:Array α}(J:d.size=n)(U:d2.size=n){f:Nat}{args:List af}{r:af}(k:bD au f args (S d.toList) fun a g=>a=r/\g=S d2.toList)(j:aH (aK (S d.toList)) args){t:List (Nat×af)}{aX:List af}{o:List aA}{c:bc Nat}{K:bo->Prop}
  (h:∀o,K ⟨e3 c r t,(.loc 0,aX)::(S d2.toList).b,(S d2.toList).e,1,o⟩):CallDo au f args ⟨t,(.loc 0,aX)::(S d.toList).b,(S d.toList).e,1,o⟩ c K:=
 H.call (by simpa using J) (R:=fun a b=>a=r/\b=d2.toList) (k.mono fun r g ⟨i,l⟩=>⟨_,l,i,rfl⟩) (fun r b ⟨_,e⟩=>by rw[e];simpa using U) j (by rintro a b ⟨rfl,rfl⟩;exact h _)
end
section
variable (H:fQ S n g cp lc cg lt)
include H
theorem fQ.loopA{β:Type}{d:List α}(m:d.length=n){t:List (Nat×af)}{b:List (aA×List af)}{e:List (aA×dT)}{q:Nat}{o:List aA}(h:List Nat)(cs:β->List (Nat×af))(A:β->Array α)(μ:β->Nat)(f:β->Prop)(a0:β)(l:(A a0).size=n)(j:f a0)
  (i:ad (.loc 0) b=some [.func g lc,.func cp cg]) (s:∀k cs,ad k (S (A a0).toList).b=some cs->ad k b=some cs) (he:∀k o,ad k (S (A a0).toList).e=some o->ad k e=some o)
  (u:∀x∈wb t h++cs a0,Pv.get x.1 t=x.2/\az (nm (S (A a0).toList) 1) x.2) {c:C} {Q:Exit->bo->Prop}
  (p:∀a,f a->dd au (cI (S d)) c (bV (cI (S d)) (CM (fun a=>⟨wb t h++cs a,(.loc 0,[.func g lc,.func cp cg])::(S (A a).toList).b,(S (A a).toList).e,1,cI (S d)⟩) μ f) (μ a) Q) ⟨wb t h++cs a,(.loc 0,[.func g lc,.func cp cg])::(S (A a).toList).b,(S (A a).toList).e,1,cI (S d)⟩):
  dd au (cI (S d)) (.loop c) Q ⟨t,b,e,q,o⟩:=
 oY (fun a=>⟨wb t h++cs a,(.loc 0,[.func g lc,.func cp cg])::(S (A a).toList).b,(S (A a).toList).e,1,cI (S d)⟩) μ f a0 (H.weak m (by simpa using l) u i s he) j fun a r _=>p a r
theorem fQ.callA0{lk:List α}(J:lk.length=n){f:Nat}{args:List af}{R:af->List α->Prop}(j:bD au f args (S lk) fun r c=> ∃a,c=S a/\R r a)(bu:∀r a,R r a->a.length=n)(i:aH (aK (S lk)) args){t:List (Nat×af)}{aX:List af}{o:List aA}{d:bc Nat}{K:bo->Prop}
  (h:∀r a,R r a->∀o,K ⟨e3 d r t,(.loc 0,aX)::(S a).b,(S a).e,1,o⟩):CallDo au f args ⟨t,(S lk).b++[(.loc 0,aX)],(S lk).e,1,o⟩ d K:=by
 refine CallDo.ob j (H.ok lk) (fun k cs b=>by rw[c0,b]) (fun _ _ b=>b) i ?_;rintro r c ⟨a,rfl,e⟩;refine⟨H.same _ _ J (bu _ _ e),?_⟩;have g:cJ (S lk).b ((S lk).b++[(.loc 0,aX)])=[(.loc 0,aX)]:=by rw[jt,hM];simp[cJ,H.loc]
 have l:cJ (S lk).e (S lk).e=[]:=hM _;have:=h _ _ e (o++cI (S a));simp only[g,l];exact this
theorem fQ.swapA0{d:Array α}(J:d.size=n)(U:2<=n)(i j:Nat)(hi:i<n)(f:j<n){t:List (Nat×af)}{aX:List af}{o:List aA}{b:bc Nat}{K:bo->Prop}
  (h:∀o,K ⟨e3 b (.tuple []) t,(.loc 0,aX)::(S (Sort.swp d i j).toList).b,(S (Sort.swp d i j).toList).e,1,o⟩):CallDo au cp (.int .i64 i:: .int .i64 j::cg) ⟨t,(S d.toList).b++[(.loc 0,aX)],(S d.toList).e,1,o⟩ b K:=by
 refine H.callA0 (by simpa using J) (R:=fun r a=>r= .tuple []/\a=(Sort.swp d i j).toList) ((H.swap d.toList (by simpa using J) U i j hi f).mono fun r k ⟨c,g⟩=>⟨_,g,c,Ia d Ω Ω⟩) (fun r a ⟨_,e⟩=>by rw[e];simp[Sort.swp,J]) (by simp[az,aH,H.ksc d.toList (by simpa using J)]) ?_;rintro r a ⟨rfl,rfl⟩ o;exact h o
theorem fQ.retA{l:List α}{d:Array α}(b:l.length=n)(J:d.size=n){Q:af->cQ->Prop}{e:Exit}(he:e= .ret\/e= .normal){t:List (Nat×af)}{aX:List af}{q:Nat}{o:List aA}(a:Q (.tuple []) (S d.toList)):c3 [] (S l) Q e ⟨t,(.loc 0,aX)::(S d.toList).b,(S d.toList).e,q,o⟩:=H.ret b (by simpa using J) he a
theorem fQ.retR{b:List bU}{l:List α}{d:Array α}(c:l.length=n)(J:d.size=n){Q:af->cQ->Prop}{e:Exit}(he:e= .ret\/e= .normal){t:List (Nat×af)}{aX:List af}{q:Nat}{o:List aA}(h:c9 ⟨t,(.loc 0,aX)::(S d.toList).b,(S d.toList).e,q,o⟩ b fun r=>az (aK (S d.toList)) r/\Q r (S d.toList)):c3 b (S l) Q e ⟨t,(.loc 0,aX)::(S d.toList).b,(S d.toList).e,q,o⟩:=by
 refine c3.at (S d.toList) he (H.ok _) (H.same _ _ c (by simpa using J)) (fun k cs a=>?_) (fun _ _ a=>a) h;cases k with
 |loc m=>rw[H.loc m]at a;cases a
 |obj m=>simpa[ad]using a
end
def hL(d:Array α)(i j:Nat):(Sort.swp d i j).size=d.size:=by simp[Sort.swp]
end
section
open Go Go.Pv
def Sn:C:=(aa [bQ 2 0] (.seq (.cond (.c (.bool false)) (aa [I 3 0,b9 4 (.conv .u32 (.t 3)),da 5 236 4,I 2 5] .ret) .skip) (aa [I 6 0,da 7 237 6,I 2 7] .ret)))
def KR:C:=(aa [bq 91 2 4,I 92 1,I 93 2,I 94 11,eg 95 244 [.t 91,.t 92,.t 93,.t 94],I 90 95,dm 96 0 90,dm 97 1 90,I 14 96,I 15 97] (aa [I 98 15,I 9 98] (aa [I 99 14,I 100 1,br 101 .sub 99 100,I 102 2,I 103 14,br 104 .sub 102 103,I 16 101,I 17 104] (aa [I 105 10,aV 106 .quo 105 8,I 18 106] (aa [I 107 16,I 108 17,br 109 .lss 107 108] (aZ 109 (aa [I 110 16,I 111 18,br 112 .geq 110 111,I 8 112] (aa [bq 113 2 4,I 114 1,I 115 14,I 116 3,eg 117 214 [.t 113,.t 114,.t 115,.t 116]] (.region [I 118 14,aV 119 .add 118 1,I 1 119]))) (aa [I 120 17,I 121 18,br 122 .geq 120 121,I 8 122] (aa [bq 123 2 4,I 124 14,aV 125 .add 124 1,I 126 2,I 127 3,eg 128 214 [.t 123,.t 125,.t 126,.t 127]] (.region [I 129 14,I 2 129])))))))))
def C4:C:=(.seq (aa [I 73 1,aV 74 .gtr 73 0,I 75 74,ax 75 true (aF 76 0 1 4),ax 75 true (ay 77 1 76),cd 75 true 78 1,ax 75 true (aV 79 .sub 78 1),cd 75 true 80 11,ax 75 true (hE 81 77 [.t 79,.t 80]),ax 75 true (cR 82 81),ev 83 75 82] (aZ 83 (aa [bq 84 2 4,I 85 1,I 86 2,I 87 11,eg 88 243 [.t 84,.t 85,.t 86,.t 87],I 13 88] (aa [I 89 13,I 1 89] (.exit 1))) .skip)) KR)
def KS:C:=(.seq (aa [I 61 8,I 62 61,cd 62 true 63 9,ev 64 62 63,I 65 64,cd 65 true 66 12,ax 65 true (aV 67 .eql 66 1),ev 68 65 67] (aZ 68 (aa [bq 69 2 4,I 70 1,I 71 2,eg 72 242 [.t 69,.t 70,.t 71]] (aZ 72 .ret .skip)) .skip)) C4)
def KT:C:=(aa [bq 43 2 4,I 44 1,I 45 2,eg 46 240 [.t 43,.t 44,.t 45],I 42 46,dm 47 0 42,dm 48 1 42,I 11 47,I 12 48] (.seq (aa [I 49 12,aV 50 .eql 49 2] (aZ 50 (aa [bq 51 2 4,I 52 1,I 53 2,eg 54 241 [.t 51,.t 52,.t 53]] (aa [I 55 2,aV 56 .sub 55 1,I 57 11,I 58 1,br 59 .sub 57 58,br 60 .sub 56 59,I 11 60] (.region [bQ 12 1]))) .skip)) KS))
def SB:C:=(aa [dc 4 0] (aa [bA 8 true] (aa [bA 9 true] (.block 0 (.loop (.block 1 (aa [I 19 2,I 20 1,br 21 .sub 19 20,I 10 21] (.seq (aa [I 22 10,aV 23 .leq 22 12] (aZ 23 (aa [bq 24 2 4,I 25 1,I 26 2,eg 27 231 [.t 24,.t 25,.t 26]] .ret) .skip)) (.seq (aa [I 28 3,aV 29 .eql 28 0] (aZ 29 (aa [bq 30 2 4,I 31 1,I 32 2,eg 33 238 [.t 30,.t 31,.t 32]] .ret) .skip)) (.seq (aa [I 34 8,cR 35 34] (aZ 35 (aa [bq 36 2 4,I 37 1,I 38 2,eg 39 239 [.t 36,.t 37,.t 38]] (.region [I 40 3,aV 41 .sub 40 1,I 3 41])) .skip)) KT))))))))))
def Sp:C:=(aa [bQ 2 0] (.seq (aa [I 3 0,b9 4 (.bin .geq false (.t 3) (.c (.int .u64 4294967296)))] (aZ 4 (aa [I 5 0,b9 6 (.bin .shr false (.t 5) (.c (.int .u64 32))),I 0 6] (.region [bQ 2 32])) .skip)) (.seq (aa [I 7 0,b9 8 (.bin .geq false (.t 7) (.c (.int .u64 65536)))] (aZ 8 (aa [I 9 0,b9 10 (.bin .shr false (.t 9) (.c (.int .u64 16))),I 0 10] (.region [I 11 2,aV 12 .add 11 16,I 2 12])) .skip)) (.seq (aa [I 13 0,b9 14 (.bin .geq false (.t 13) (.c (.int .u64 256)))] (aZ 14 (aa [I 15 0,b9 16 (.bin .shr false (.t 15) (.c (.int .u64 8))),I 0 16] (.region [I 17 2,aV 18 .add 17 8,I 2 18])) .skip)) (aa [I 19 2,I 20 0,b9 21 (.conv .u8 (.t 20)),b9 22 (.sidx (.c (.str PY)) (.t 21)),b9 23 (.conv .i64 (.t 22)),br 24 .add 19 23,I 2 24] .ret)))))
def St:C:=(aa [dc 3 0] (aa [I 11 1,I 6 11] (aa [bQ 7 0] (aa [I 12 2,I 13 1,br 14 .sub 12 13,I 8 14] (.seq (aa [I 15 8,aV 16 .sub 15 1,aV 17 .quo 16 2,I 9 17] (.block 0 (.loop (.seq (aa [I 18 9,aV 19 .geq 18 0] (aZ 19 .skip (.exit 0))) (.seq (.block 1 (.region [bq 22 2 3,I 23 9,I 24 8,I 25 6,eg 26 252 [.t 22,.t 23,.t 24,.t 25]])) (.region [I 20 9,aV 21 .sub 20 1,I 9 21])))))) (aa [I 27 8,aV 28 .sub 27 1,I 10 28] (.block 2 (.loop (.seq (aa [I 29 10,aV 30 .geq 29 0] (aZ 30 .skip (.exit 2))) (.seq (.block 3 (aa [aF 33 1 1 3,ay 34 1 33,I 35 6,I 36 6,I 37 10,br 38 .add 36 37,hE 39 34 [.t 35,.t 38]] (.region [bq 40 2 3,I 41 7,I 42 10,I 43 6,eg 44 252 [.t 40,.t 41,.t 42,.t 43]]))) (.region [I 31 10,aV 32 .sub 31 1,I 10 32])))))))))))
def Sr:C:=(aa [dc 3 0] (aa [I 11 2,I 12 1,br 13 .sub 11 12,I 6 13] (aa [I 14 6,aV 15 .geq 14 8] (aZ 15 (aa [I 16 6,b9 17 (.conv .u64 (.t 16)),dr (.alloc 7 (some 902) (.int .u64 0)),bW 1 7 17] (aa [I 18 6,da 19 253 18,I 8 19] (aa [I 20 1,I 21 6,aV 22 .quo 21 4,aV 23 .mul 22 2,br 24 .add 20 23,aV 25 .sub 24 1,I 9 25] (.block 0 (.loop (.seq (aa [I 26 9,I 27 1,I 28 6,aV 29 .quo 28 4,aV 30 .mul 29 2,br 31 .add 27 30,aV 32 .add 31 1,br 33 .leq 26 32] (aZ 33 .skip (.exit 0))) (.seq (.block 1 (aa [da 36 254 7,I 37 8,b9 38 (.bin .sub true (.t 37) (.c (.int .u64 1))),br 39 .and 36 38,b9 40 (.conv .i64 (.t 39)),I 10 40] (.seq (aa [I 41 10,I 42 6,br 43 .geq 41 42] (aZ 43 (.region [I 44 10,I 45 6,br 46 .sub 44 45,I 10 46]) .skip)) (.region [aF 47 1 1 3,ay 48 1 47,I 49 9,I 50 1,I 51 10,br 52 .add 50 51,hE 53 48 [.t 49,.t 52]])))) (.region [I 34 9,aV 35 .add 34 1,I 9 35])))))))) .skip))))
def Ss:C:=(aa [dc 3 0,bQ 6 0,bQ 7 0] (aa [I 13 2,I 14 1,br 15 .sub 13 14,I 8 15] (aa [dr (.alloc 9 (some 901) (.int .i64 0))] (aa [I 16 1,I 17 8,aV 18 .quo 17 4,aV 19 .mul 18 1,br 20 .add 16 19,I 10 20] (aa [I 21 1,I 22 8,aV 23 .quo 22 4,aV 24 .mul 23 2,br 25 .add 21 24,I 11 25] (aa [I 26 1,I 27 8,aV 28 .quo 27 4,aV 29 .mul 28 3,br 30 .add 26 29,I 12 30] (.seq (aa [I 31 8,aV 32 .geq 31 8] (aZ 32 (.seq (aa [I 33 8,aV 34 .geq 33 50] (aZ 34 (aa [bq 35 2 3,I 36 10,eg 37 255 [.t 35,.t 36,.t 9],I 10 37] (aa [bq 38 2 3,I 39 11,eg 40 255 [.t 38,.t 39,.t 9],I 11 40] (.region [bq 41 2 3,I 42 12,eg 43 255 [.t 41,.t 42,.t 9],I 12 43]))) .skip)) (.region [bq 44 2 3,I 45 10,I 46 11,I 47 12,eg 48 256 [.t 44,.t 45,.t 46,.t 47,.t 9],I 11 48])) .skip)) (aa [ay 49 1 9] (.block 0 (aa [aV 52 .eql 49 0,I 51 52] (aZ 51 (aa [I 53 11,I 6 53,bQ 7 1] .ret) (aa [aV 55 .eql 49 12,I 54 55] (aZ 54 (aa [I 56 11,I 6 56,bQ 7 2] .ret) (aa [I 50 11,I 6 50,bQ 7 0] .ret))))))))))))))
def SC:C:=(aa [dc 3 0] (aa [I 8 1,I 6 8] (aa [I 9 2,aV 10 .sub 9 1,I 7 10] (.block 0 (.loop (.seq (aa [I 11 6,I 12 7,br 13 .lss 11 12] (aZ 13 .skip (.exit 0))) (.block 1 (aa [aF 14 1 1 3,ay 15 1 14,I 16 6,I 17 7,hE 18 15 [.t 16,.t 17]] (aa [I 19 6,aV 20 .add 19 1,I 6 20] (.region [I 21 7,aV 22 .sub 21 1,I 7 22]))))))))))
def Sy:C:=(aa [dc 3 0,bA 6 false] (aa [I 11 1,aV 12 .add 11 1,I 7 12] (.seq (aa [bQ 8 0] (.block 0 (.loop (.seq (aa [I 13 8,aV 14 .lss 13 5] (aZ 14 .skip (.exit 0))) (.seq (.block 1 (.seq (.block 2 (.loop (.seq (aa [I 17 7,I 18 2,br 19 .lss 17 18,I 20 19,ax 20 true (aF 21 0 1 3),ax 20 true (ay 22 1 21),cd 20 true 23 7,cd 20 true 24 7,ax 20 true (aV 25 .sub 24 1),ax 20 true (hE 26 22 [.t 23,.t 25]),ax 20 true (cR 27 26),ev 28 20 27] (aZ 28 .skip (.exit 2))) (.block 3 (.region [I 29 7,aV 30 .add 29 1,I 7 30]))))) (.seq (aa [I 31 7,I 32 2,br 33 .eql 31 32] (aZ 33 (aa [bA 6 true] .ret) .skip)) (.seq (aa [I 34 2,I 35 1,br 36 .sub 34 35,aV 37 .lss 36 50] (aZ 37 (aa [bA 6 false] .ret) .skip)) (aa [aF 38 1 1 3,ay 39 1 38,I 40 7,I 41 7,aV 42 .sub 41 1,hE 43 39 [.t 40,.t 42]] (.seq (aa [I 44 7,I 45 1,br 46 .sub 44 45,aV 47 .geq 46 2] (aZ 47 (aa [I 48 7,aV 49 .sub 48 1,I 9 49] (.block 4 (.loop (.seq (aa [I 50 9,aV 51 .geq 50 1] (aZ 51 .skip (.exit 4))) (.seq (.block 5 (.seq (aa [aF 54 0 1 3,ay 55 1 54,I 56 9,I 57 9,aV 58 .sub 57 1,hE 59 55 [.t 56,.t 58],cR 60 59] (aZ 60 (.exit 4) .skip)) (.region [aF 61 1 1 3,ay 62 1 61,I 63 9,I 64 9,aV 65 .sub 64 1,hE 66 62 [.t 63,.t 65]]))) (.region [I 52 9,aV 53 .sub 52 1,I 9 53])))))) .skip)) (aa [I 67 2,I 68 7,br 69 .sub 67 68,aV 70 .geq 69 2] (aZ 70 (aa [I 71 7,aV 72 .add 71 1,I 10 72] (.block 6 (.loop (.seq (aa [I 73 10,I 74 2,br 75 .lss 73 74] (aZ 75 .skip (.exit 6))) (.seq (.block 7 (.seq (aa [aF 78 0 1 3,ay 79 1 78,I 80 10,I 81 10,aV 82 .sub 81 1,hE 83 79 [.t 80,.t 82],cR 84 83] (aZ 84 (.exit 6) .skip)) (.region [aF 85 1 1 3,ay 86 1 85,I 87 10,I 88 10,aV 89 .sub 88 1,hE 90 86 [.t 87,.t 89]]))) (.region [I 76 10,aV 77 .add 76 1,I 10 77])))))) .skip)))))))) (.region [I 15 8,aV 16 .add 15 1,I 8 16])))))) (aa [bA 6 false] .ret))))
def Sz:C:=(aa [dc 4 0,bQ 8 0] (aa [aF 11 1 1 4,ay 12 1 11,I 13 1,I 14 3,hE 15 12 [.t 13,.t 14]] (aa [I 16 1,aV 17 .add 16 1,I 18 2,aV 19 .sub 18 1,I 9 17,I 10 19] (.seq (.block 0 (.loop (.block 1 (.seq (.block 2 (.loop (.seq (aa [I 20 9,I 21 10,br 22 .leq 20 21,I 23 22,ax 23 true (aF 24 0 1 4),ax 23 true (ay 25 1 24),cd 23 true 26 1,cd 23 true 27 9,ax 23 true (hE 28 25 [.t 26,.t 27]),ax 23 true (cR 29 28),ev 30 23 29] (aZ 30 .skip (.exit 2))) (.block 3 (.region [I 31 9,aV 32 .add 31 1,I 9 32]))))) (.seq (.block 4 (.loop (.seq (aa [I 33 9,I 34 10,br 35 .leq 33 34,I 36 35,ax 36 true (aF 37 0 1 4),ax 36 true (ay 38 1 37),cd 36 true 39 1,cd 36 true 40 10,ax 36 true (hE 41 38 [.t 39,.t 40]),ev 42 36 41] (aZ 42 .skip (.exit 4))) (.block 5 (.region [I 43 10,aV 44 .sub 43 1,I 10 44]))))) (.seq (aa [I 45 9,I 46 10,br 47 .gtr 45 46] (aZ 47 (.exit 0) .skip)) (aa [aF 48 1 1 4,ay 49 1 48,I 50 9,I 51 10,hE 52 49 [.t 50,.t 51]] (aa [I 53 9,aV 54 .add 53 1,I 9 54] (.region [I 55 10,aV 56 .sub 55 1,I 10 56]))))))))) (aa [I 57 9,I 8 57] .ret)))))
def SA:C:=(aa [dc 4 0,bQ 8 0,bA 9 false] (aa [aF 12 1 1 4,ay 13 1 12,I 14 1,I 15 3,hE 16 13 [.t 14,.t 15]] (aa [I 17 1,aV 18 .add 17 1,I 19 2,aV 20 .sub 19 1,I 10 18,I 11 20] (.seq (.block 0 (.loop (.seq (aa [I 21 10,I 22 11,br 23 .leq 21 22,I 24 23,ax 24 true (aF 25 0 1 4),ax 24 true (ay 26 1 25),cd 24 true 27 10,cd 24 true 28 1,ax 24 true (hE 29 26 [.t 27,.t 28]),ev 30 24 29] (aZ 30 .skip (.exit 0))) (.block 1 (.region [I 31 10,aV 32 .add 31 1,I 10 32]))))) (.seq (.block 2 (.loop (.seq (aa [I 33 10,I 34 11,br 35 .leq 33 34,I 36 35,ax 36 true (aF 37 0 1 4),ax 36 true (ay 38 1 37),cd 36 true 39 11,cd 36 true 40 1,ax 36 true (hE 41 38 [.t 39,.t 40]),ax 36 true (cR 42 41),ev 43 36 42] (aZ 43 .skip (.exit 2))) (.block 3 (.region [I 44 11,aV 45 .sub 44 1,I 11 45]))))) (.seq (aa [I 46 10,I 47 11,br 48 .gtr 46 47] (aZ 48 (aa [aF 49 1 1 4,ay 50 1 49,I 51 11,I 52 1,hE 53 50 [.t 51,.t 52]] (aa [I 54 11,I 8 54,bA 9 true] .ret)) .skip)) (aa [aF 55 1 1 4,ay 56 1 55,I 57 10,I 58 11,hE 59 56 [.t 57,.t 58]] (aa [I 60 10,aV 61 .add 60 1,I 10 61] (aa [I 62 11,aV 63 .sub 62 1,I 11 63] (.seq (.block 4 (.loop (.block 5 (.seq (.block 6 (.loop (.seq (aa [I 64 10,I 65 11,br 66 .leq 64 65,I 67 66,ax 67 true (aF 68 0 1 4),ax 67 true (ay 69 1 68),cd 67 true 70 10,cd 67 true 71 1,ax 67 true (hE 72 69 [.t 70,.t 71]),ev 73 67 72] (aZ 73 .skip (.exit 6))) (.block 7 (.region [I 74 10,aV 75 .add 74 1,I 10 75]))))) (.seq (.block 8 (.loop (.seq (aa [I 76 10,I 77 11,br 78 .leq 76 77,I 79 78,ax 79 true (aF 80 0 1 4),ax 79 true (ay 81 1 80),cd 79 true 82 11,cd 79 true 83 1,ax 79 true (hE 84 81 [.t 82,.t 83]),ax 79 true (cR 85 84),ev 86 79 85] (aZ 86 .skip (.exit 8))) (.block 9 (.region [I 87 11,aV 88 .sub 87 1,I 11 88]))))) (.seq (aa [I 89 10,I 90 11,br 91 .gtr 89 90] (aZ 91 (.exit 4) .skip)) (aa [aF 92 1 1 4,ay 93 1 92,I 94 10,I 95 11,hE 96 93 [.t 94,.t 95]] (aa [I 97 10,aV 98 .add 97 1,I 10 98] (.region [I 99 11,aV 100 .sub 99 1,I 11 100]))))))))) (aa [aF 101 1 1 4,ay 102 1 101,I 103 11,I 104 1,hE 105 102 [.t 103,.t 104]] (aa [I 106 11,I 8 106,bA 9 false] .ret))))))))))))
def SE:C:=(aa [dc 4 0] (aa [I 10 1,I 8 10] (.block 0 (.loop (.block 1 (aa [I 11 8,b9 12 (.bin .mul false (gP 2) (.t 11)),aV 13 .add 12 1,I 9 13] (.seq (aa [I 14 9,I 15 2,br 16 .geq 14 15] (aZ 16 (.exit 0) .skip)) (.seq (aa [I 17 9,aV 18 .add 17 1,I 19 2,br 20 .lss 18 19,I 21 20,ax 21 true (aF 22 0 1 4),ax 21 true (ay 23 1 22),cd 21 true 24 3,cd 21 true 25 9,ax 21 true (br 26 .add 24 25),cd 21 true 27 3,cd 21 true 28 9,ax 21 true (br 29 .add 27 28),ax 21 true (aV 30 .add 29 1),ax 21 true (hE 31 23 [.t 26,.t 30]),ev 32 21 31] (aZ 32 (.region [I 33 9,aV 34 .add 33 1,I 9 34]) .skip)) (.seq (aa [aF 35 0 1 4,ay 36 1 35,I 37 3,I 38 8,br 39 .add 37 38,I 40 3,I 41 9,br 42 .add 40 41,hE 43 36 [.t 39,.t 42],cR 44 43] (aZ 44 .ret .skip)) (aa [aF 45 1 1 4,ay 46 1 45,I 47 3,I 48 8,br 49 .add 47 48,I 50 3,I 51 9,br 52 .add 50 51,hE 53 46 [.t 49,.t 52]] (.region [I 54 9,I 8 54])))))))))))
def Sw:C:=(aa [b9 2 (.mov (.c (.int .u64 0)))] (aa [I 4 0,b9 5 (.conv .u64 (.t 4)),da 6 213 5,b9 7 (.conv .u64 (.t 6)),I 3 7] (aa [I 8 3,b9 9 (.bin .shl false (.c (.int .u64 1)) (.t 8)),I 2 9] .ret)))
def SI:C:=(aa [b9 2 (.mov (.c (.int .u64 0)))] (.seq (.drawn true 33 [I 3 0,gp 4 3,ay 5 1 4,I 6 0,gp 7 6,ay 8 1 7,b9 9 (.bin .shl false (.t 8) (.c (.int .u64 13))),br 10 .xor 5 9,gp 11 3,bW 1 11 10]) (.seq (.drawn true 33 [I 12 0,gp 13 12,ay 14 1 13,I 15 0,gp 16 15,ay 17 1 16,b9 18 (.bin .shr false (.t 17) (.c (.int .u64 7))),br 19 .xor 14 18,gp 20 12,bW 1 20 19]) (.seq (.drawn true 33 [I 21 0,gp 22 21,ay 23 1 22,I 24 0,gp 25 24,ay 26 1 25,b9 27 (.bin .shl false (.t 26) (.c (.int .u64 17))),br 28 .xor 23 27,gp 29 21,bW 1 29 28]) (aa [I 30 0,gp 31 30,ay 32 1 31,I 2 32] .ret)))))
def Su:C:=(aa [dc 3 0,bQ 6 0] (aa [bq 7 2 3,I 8 1,aV 9 .sub 8 1,I 10 1,I 11 1,aV 12 .add 11 1,I 13 2,eg 14 256 [.t 7,.t 9,.t 10,.t 12,.t 13],I 6 14] .ret))
def Sv:C:=(aa [dc 5 0,bQ 10 0] (aa [bq 12 2 5,I 13 1,I 14 2,I 15 4,eg 16 271 [.t 12,.t 13,.t 14,.t 15],I 11 16,dm 17 0 11,dm 18 1 11,I 1 17,I 2 18] (aa [bq 20 2 5,I 21 2,I 22 3,I 23 4,eg 24 271 [.t 20,.t 21,.t 22,.t 23],I 19 24,dm 25 0 19,dm 26 1 19,I 2 25,I 3 26] (aa [bq 28 2 5,I 29 1,I 30 2,I 31 4,eg 32 271 [.t 28,.t 29,.t 30,.t 31],I 27 32,dm 33 0 27,dm 34 1 27,I 1 33,I 2 34] (aa [I 35 2,I 10 35] .ret)))))
def Sx:C:=(aa [dc 4 0,bQ 8 0,bQ 9 0] (.seq (aa [aF 10 0 1 4,ay 11 1 10,I 12 2,I 13 1,hE 14 11 [.t 12,.t 13]] (aZ 14 (aa [I 15 3,gp 16 15,ay 17 1 16,aV 18 .add 17 1,gp 19 15,bW 1 19 18] (aa [I 20 2,I 21 1,I 8 20,I 9 21] .ret)) .skip)) (aa [I 22 1,I 23 2,I 8 22,I 9 23] .ret)))
def anz:b6 aS Sn [.tmp 2] 1 Tryz.f213=true:=bi
def anM:b6 aS SB [] 4 Tryz.f214=true:=bi
def anA:b6 aS Sp [.tmp 2] 1 Tryz.f237=true:=bi
def anE:b6 aS St [] 3 Tryz.f238=true:=bi
def anC:b6 aS Sr [] 3 Tryz.f239=true:=bi
def anD:b6 aS Ss [.tmp 6,.tmp 7] 3 Tryz.f240=true:=bi
def anN:b6 aS SC [] 3 Tryz.f241=true:=bi
def anJ:b6 aS Sy [.tmp 6] 3 Tryz.f242=true:=bi
def anK:b6 aS Sz [.tmp 8] 4 Tryz.f243=true:=bi
def anL:b6 aS SA [.tmp 8,.tmp 9] 4 Tryz.f244=true:=bi
def anP:b6 aS SE [] 4 Tryz.f252=true:=bi
def anH:b6 aS Sw [.tmp 2] 1 Tryz.f253=true:=bi
def anT:b6 aS SI [.tmp 2] 1 Tryz.f254=true:=bi
def anF:b6 aS Su [.tmp 6] 3 Tryz.f255=true:=bi
def anG:b6 aS Sv [.tmp 10] 5 Tryz.f256=true:=bi
def anI:b6 aS Sx [.tmp 8,.tmp 9] 4 Tryz.f271=true:=bi
end
section
open Go Go.Pv
variable {α:Type} [Inhabited α] {S:List α->cQ} {n g cp:Nat} {lc cg:List af} {lt:α->α->Bool}
def U2(H:fQ S n g cp lc cg lt)(d:Array α)(p:d.size=n)(lo hi first:Nat)(J:first+hi<=n)(U:2<=n)(w:lo<=n):
  bD au 252 [fC g cp lc cg,aj lo,aj hi,aj first] (S d.toList) fun r y=>r= .tuple []/\∃k,y=S k.toList/\k=Sort.siftDown lt hi first lo d/\k.size=n:=by
 have t:=H.ok d.toList;have e:d.toList.length=n:=by simpa using p
 have q:∀l m,ad (.loc m) (S l).b=none:=fun l=>(H.ok l).obj.1;have hu:∀l m cs,cH (.loc m) cs (S l).b=(S l).b++[(.loc m,cs)]:=fun l m cs=>kH (q l m);have ar:∀m,aA.loc m∉cI (S d.toList):=kE t.obj;have hle:=H.le;refine bD.mk mixed a7 Tryz.func252 anP Ψ t.obj fun B A=>?_;unfold SE;simp[fC,hu,ar,c0,q];refine H.loopA e [2,3,4] (fun(x:Nat×Array α)=>[(8,aj x.1)]) (·.2) (fun x=>hi-x.1) (fun x=>x.2.size=n/\x.1<=n/\Sort.siftDown lt hi first x.1 x.2=Sort.siftDown lt hi first lo d) (lo,d) p ⟨p,w,rfl⟩ (by simp[c0,q]) aW aW dl ?_;rintro⟨root,c⟩ ⟨a,v,b⟩;simp only at a v b;have j:((first:Int)+(2*root+1))=(first+(2*root+1):Nat):=Ω
 have z:(((first+(2*root+1):Nat):Int)+1)=(first+(2*root+1)+1:Nat):=Ω
 have i:((first:Int)+root)=(first+root:Nat):=Ω
 have s:((first:Int)+(2*root+1+1))=(first+(2*root+2):Nat):=Ω
 simp[ad,H.slc,H.ssc];(with_reducible repeat' first|((first|apply cu|apply cy|apply cx)<;>intro h<;>try simp at h)|refine aq ?_|simp[ad,H.slc,H.ssc])
 ·rw[Sort.siftDown,dif_pos Ω]at b;exact H.retA e a (.inr rfl) ⟨rfl,c,rfl,b,a⟩
 ·rw[Sort.siftDown,dif_neg Ω]at b;rw[j,z];refine H.lessA a _ _ Ω Ω fun o=>?_;have aw:decide (2*root+1+1<hi)=true:=by simp;omega
  cases u:lt c[first+(2*root+1)]! c[first+(2*root+1)+1]! with
  |true=>
   rw[if_pos (by rw[aw,u];rfl)]at b;simp;(repeat' first|refine aq ?_|simp[ad,H.slc,H.ssc]);rw[i,s];refine H.lessA a _ _ Ω Ω fun o=>?_;cases f:lt c[first+root]! c[first+(2*root+2)]! with
   |true=>rw[if_neg (by simp[f]),dif_pos Ω]at b;simp;(repeat' first|refine aq ?_|simp[ad,H.slc,H.ssc]);rw[i,s];refine H.swapA a U _ _ Ω Ω fun o=>?_;simp;(repeat' first|refine aq ?_|simp);refine bV.whl (2*root+2,Sort.swp c (first+root) (first+(2*root+2))) d6 ⟨by rw[hL,a],by simp;omega,b⟩ (H.weakC e (by simp[hL,a]) (by simp[az];omega))
   |false=>rw[if_pos (by simp[f])]at b;simp;(repeat' first|refine aq ?_|simp);all_goals exact H.retA e a (.inl rfl) ⟨rfl,c,rfl,b,a⟩
  |false=>
   rw[if_neg (by simp[u])]at b;simp;(repeat' first|refine aq ?_|simp[ad,H.slc,H.ssc]);rw[i,j];refine H.lessA a _ _ Ω Ω fun o=>?_;cases f:lt c[first+root]! c[first+(2*root+1)]! with
   |true=>rw[if_neg (by simp[f])]at b;simp;(repeat' first|refine aq ?_|simp[ad,H.slc,H.ssc]);rw[i,j];refine H.swapA a U _ _ Ω Ω fun o=>?_;simp;(repeat' first|refine aq ?_|simp);refine bV.whl (2*root+1,Sort.swp c (first+root) (first+(2*root+1))) d6 ⟨by rw[hL,a],by simp;omega,b⟩ (H.weakC e (by simp[hL,a]) dl)
   |false=>rw[if_pos (by simp[f])]at b;simp;(repeat' first|refine aq ?_|simp);all_goals exact H.retA e a (.inl rfl) ⟨rfl,c,rfl,b,a⟩
 ·rw[Sort.siftDown,dif_neg Ω]at b;have aw:decide (2*root+1+1<hi)=false:=by simp;omega
  rw[if_neg (by rw[aw];simp)]at b;rw[i,j];refine H.lessA a _ _ Ω Ω fun o=>?_;cases f:lt c[first+root]! c[first+(2*root+1)]! with
  |true=>rw[if_neg (by simp[f])]at b;simp;(repeat' first|refine aq ?_|simp[ad,H.slc,H.ssc]);rw[i,j];refine H.swapA a U _ _ Ω Ω fun o=>?_;simp;(repeat' first|refine aq ?_|simp);refine bV.whl (2*root+1,Sort.swp c (first+root) (first+(2*root+1))) d6 ⟨by rw[hL,a],by simp;omega,b⟩ (H.weakC e (by simp[hL,a]) dl)
  |false=>rw[if_pos (by simp[f])]at b;simp;(repeat' first|refine aq ?_|simp);all_goals exact H.retA e a (.inl rfl) ⟨rfl,c,rfl,b,a⟩
def ail(H:fQ S n g cp lc cg lt)(d:Array α)(q:d.size=n)(a b:Nat)(A:a<b)(E:b<=n)(U:2<=n):
  bD au 241 [fC g cp lc cg,aj a,aj b] (S d.toList) fun r y=>r= .tuple []/\∃k,y=S k.toList/\k=Sort.reverseRange d a b/\k.size=n:=by
 have t:=H.ok d.toList;have p:d.toList.length=n:=by simpa using q
 have f:∀l m,ad (.loc m) (S l).b=none:=fun l=>(H.ok l).obj.1;have hu:∀l m cs,cH (.loc m) cs (S l).b=(S l).b++[(.loc m,cs)]:=fun l m cs=>kH (f l m);have ar:∀m,aA.loc m∉cI (S d.toList):=kE t.obj;have hle:=H.le;refine bD.mk mixed a7 Tryz.func241 anN Ψ t.obj fun F B=>?_;unfold SC;simp[fC,hu,ar,c0,f];have u:((b:Int)-1)=(b-1:Nat):=Ω
 (repeat' first|refine aq ?_|simp[hu,ar,c0,f]);rw[u];refine H.loopA p [3] (fun(x:(Nat×Nat)×Array α)=>[(6,aj x.1.1),(7,aj x.1.2)]) (·.2) (fun x=>x.1.2+1-x.1.1) (fun x=>x.2.size=n/\x.1.2<n/\Sort.reverseLoop x.1.1 x.1.2 x.2=Sort.reverseRange d a b) ((a,b-1),d) q ⟨q,by simp;omega,rfl⟩ (by simp[c0,f]) aW aW dl ?_;rintro⟨⟨i,j⟩,s⟩ ⟨e,v,c⟩;simp only at e v c;rw[Sort.reverseLoop]at c;simp[ad,H.slc,H.ssc];(with_reducible repeat' first|((first|apply cu|apply cy|apply cx)<;>intro h<;>try simp at h)|refine aq ?_|simp[ad,H.slc,H.ssc])
 ·rw[if_pos Ω]at c;refine H.swapA e U _ _ Ω Ω fun o=>?_;have w:((i:Int)+1)=(i+1:Nat):=Ω
  have z:((j:Int)-1)=(j-1:Nat):=Ω
  simp;((repeat' first|refine aq ?_|simp|((first|apply cu|apply cy|apply cx)<;>intro h<;>try simp at h))<;>(try exact c4));rw[w,z];refine bV.whl ((i+1,j-1),Sort.swp s i j) d6 ⟨by rw[hL,e],by simp;omega,c⟩ (H.weakC p (by simp[hL,e]) dl)
 ·rw[if_neg Ω]at c;exact H.retA p e (.inr rfl) ⟨rfl,s,rfl,c,e⟩
def ahQ(H:fQ S n g cp lc cg lt)(d:Array α)(J:d.size=n)(a b:Nat)(O:a<=b)(X:b<=n)(U:2<=n):
  bD au 238 [fC g cp lc cg,aj a,aj b] (S d.toList) fun r E=>r= .tuple []/\∃c,E=S c.toList/\c=Sort.heapSort lt d a b/\c.size=n:=by
 have M:=H.ok d.toList;have y:d.toList.length=n:=by simpa using J
 have z:∀l m,ad (.loc m) (S l).b=none:=fun l=>(H.ok l).obj.1;have hu:∀l m cs,cH (.loc m) cs (S l).b=(S l).b++[(.loc m,cs)]:=fun l m cs=>kH (z l m);have ar:∀m,aA.loc m∉cI (S d.toList):=kE M.obj;have hle:=H.le;refine bD.mk mixed a7 Tryz.func238 anE Ψ M.obj fun Y W=>?_;unfold St;simp[fC,hu,ar,c0,z];(repeat' first|refine aq ?_|simp[hu,ar,c0,z]);have P:vf.wrap (((b:Int)-a-1).tdiv 2)=(((b-a-1)/2+1:Nat):Int)-1:=by
  have e:((b:Int)-a-1).tdiv 2=(((b-a-1)/2+1:Nat):Int)-1:=by
   rcases Nat.eq_or_lt_of_le O with h|h
   ·subst h;simp
   ·rw[show((b:Int)-a-1)=((b-a-1:Nat):Int) by omega,Int.tdiv_eq_ediv_of_nonneg Ω];omega
  rw[e,pf _ Ω]
 rw[P];refine H.loopA y [3,6,7,8] (fun(x:Nat×Array α)=>[(9,aj ((x.1:Int)-1))]) (·.2) (fun x=>x.1) (fun x=>x.2.size=n/\x.1<=n/\Sort.heapBuild lt (b-a) a x.1 x.2=Sort.heapBuild lt (b-a) a ((b-a-1)/2+1) d) ((b-a-1)/2+1,d) J ⟨J,by simp;omega,rfl⟩ (by simp[c0,z]) aW aW dl ?_;rintro⟨k,i⟩ ⟨j,Q,w⟩;simp only at j Q w;have F:((b:Int)-a)=(b-a:Nat):=Ω
 simp[ad,H.slc,H.ssc];(with_reducible repeat' first|((first|apply cu|apply cy|apply cx)<;>intro h<;>try simp at h)|refine aq ?_|simp[ad,H.slc,H.ssc])
 ·obtain⟨k,rfl⟩:∃bt,k=bt+1:=⟨k-1,Ω⟩;have L:(((k+1:Nat):Int)-1)=(k:Nat):=Ω
  rw[Sort.heapBuild]at w;simp only[jh H,H.slc,H.ssc,ja,L,F];refine H.doFn (lk:=i.toList) (by simpa using j) (R:=fun p=> ∃c,p=c.toList/\c=Sort.siftDown lt (b-a) a k i/\c.size=n) ((U2 H i j k (b-a) a Ω U Ω).mono fun r E ⟨s,c,f,B,A⟩=>⟨s,c.toList,f,c,rfl,B,A⟩) (by rintro p ⟨c,rfl,_,q⟩;simpa using q) (by simp[aH,az,H.kdata (lk:=i.toList) (by simpa using j)]) ?_;rintro p ⟨c,rfl,s,f⟩;simp;((repeat' first|refine aq ?_|simp|((first|apply cu|apply cy|apply cx)<;>intro h<;>try simp at h))<;>(try exact c4));refine bV.whl (k,c) Ψ ⟨f,by simp;omega,by rw[<-w,s]⟩ (H.weakC y (by simpa using f) dl)
 ·obtain rfl:k=0:=Ω
  rw[Sort.heapBuild]at w;have V:i.size=n:=j;refine H.loopA y [3,6,7] (fun(x:Nat×Array α)=>[(10,aj ((x.1:Int)-1))]) (·.2) (fun x=>x.1) (fun x=>x.2.size=n/\x.1<=b-a/\Sort.heapPop lt a x.1 x.2=Sort.heapPop lt a (b-a) i) (b-a,i) j ⟨j,Ψ,rfl⟩ (by simp[ad]) aW aW (by simp[az];omega) ?_;rintro⟨k,t⟩ ⟨u,N,v⟩;simp only at u N v;simp[ad,H.slc,H.ssc];(with_reducible repeat' first|((first|apply cu|apply cy|apply cx)<;>intro h<;>try simp at h)|refine aq ?_|simp[ad,H.slc,H.ssc])
  ·obtain⟨k,rfl⟩:∃bt,k=bt+1:=⟨k-1,Ω⟩;have L:(((k+1:Nat):Int)-1)=(k:Nat):=Ω
   have G:((a:Int)+k)=(a+k:Nat):=Ω
   rw[Sort.heapPop]at v;simp only[L,G];refine H.swapA u U _ _ Ω Ω fun o=>?_;have K:(Sort.swp t a (a+k)).size=n:=by rw[hL,u]
   simp;simp only[jh H,H.slc,H.ssc,ja];refine H.doFn (lk:=(Sort.swp t a (a+k)).toList) (by simpa using K) (R:=fun p=> ∃c,p=c.toList/\c=Sort.siftDown lt k a 0 (Sort.swp t a (a+k))/\c.size=n) ((U2 H (Sort.swp t a (a+k)) K 0 k a Ω U Ω).mono fun r E ⟨s,c,f,B,A⟩=>⟨s,c.toList,f,c,rfl,B,A⟩) (by rintro p ⟨c,rfl,_,q⟩;simpa using q) (by simp[aH,az,H.kdata (lk:=(Sort.swp t a (a+k)).toList) (by simpa using K)]) ?_;rintro p ⟨c,rfl,s,f⟩;simp;((repeat' first|refine aq ?_|simp|((first|apply cu|apply cy|apply cx)<;>intro h<;>try simp at h))<;>(try exact c4));refine bV.whl (k,c) Ψ ⟨f,by simp;omega,by rw[<-v,s]⟩ (H.weakC y (by simpa using f) dl)
  ·obtain rfl:k=0:=Ω
   rw[Sort.heapPop]at v;refine H.retA y u (.inr rfl) ⟨rfl,t,rfl,?_,u⟩;rw[Sort.heapSort,<-w,<-v]
def ah0(H:fQ S n g cp lc cg lt)(d:Array α)(y:d.size=n)(a b:Nat)(L:a<=b)(N:b<=n):
  bD au 231 [fC g cp lc cg,aj a,aj b] (S d.toList) fun r K=>r= .tuple []/\∃u,K=S u.toList/\u=Sort.insertionSort lt d a b/\u.size=n:=by
 have z:=H.ok d.toList;have p:d.toList.length=n:=by simpa using y
 have s:∀l m,ad (.loc m) (S l).b=none:=fun l=>(H.ok l).obj.1;have hu:∀l m cs,cH (.loc m) cs (S l).b=(S l).b++[(.loc m,cs)]:=fun l m cs=>kH (s l m);have ar:∀m,aA.loc m∉cI (S d.toList):=kE z.obj;have hle:=H.le;refine bD.mk mixed a7 Tryz.func231 YL Ψ z.obj fun O M=>?_;unfold KQ;simp[fC,hu,ar,c0,s];have G:((a:Int)+1)=(a+1:Nat):=Ω
 (repeat' first|refine aq ?_|simp[hu,ar,c0,s]);rw[G];refine H.loopA p [1,2,3] (fun(x:Nat×Array α)=>[(6,aj x.1)]) (·.2) (fun x=>b+1-x.1) (fun x=>x.2.size=n/\x.1<=b+1/\Sort.insOuter lt a b x.1 x.2=Sort.insertionSort lt d a b) (a+1,d) y ⟨y,by simp;omega,rfl⟩ (by simp[c0,s]) aW aW dl ?_;rintro⟨i,v⟩ ⟨q,J,k⟩;simp only at q J k;rw[Sort.insOuter]at k;simp;(with_reducible repeat' first|((first|apply cu|apply cy|apply cx)<;>intro h<;>try simp at h)|refine aq ?_|simp)
 ·rw[if_pos Ω]at k;refine H.loopA p [1,2,3,6] (fun(x:Nat×Array α)=>[(7,aj x.1)]) (·.2) (fun x=>x.1) (fun x=>x.2.size=n/\x.1<=i/\Sort.insInner lt a x.1 x.2=Sort.insInner lt a i v) (i,v) q ⟨q,Ψ,rfl⟩ (by simp[ad]) aW aW dl ?_;rintro⟨j,f⟩ ⟨c,E,e⟩;simp only at c E e;simp[ad,H.slc,H.ssc];(with_reducible repeat' first|((first|apply cu|apply cy|apply cx)<;>intro h<;>try simp at h)|refine aq ?_|simp[ad,H.slc,H.ssc])
  ·obtain⟨j,rfl⟩:∃dg,j=dg+1:=⟨j-1,Ω⟩;have F:(((j+1:Nat):Int)-1)=(j:Nat):=Ω
   have t:((i:Int)+1)=(i+1:Nat):=Ω
   have w:((j:Int)+1)=(j+1:Nat):=Ω
   rw[Sort.insInner]at e;have aw:decide (j+1>a)=true:=by simp;omega
   rw[F];refine H.lessA c _ _ Ω Ω fun o=>?_;cases A:lt f[j+1]! f[j]! with
   |true=>rw[if_pos (by rw[aw,A];rfl)]at e;simp;(repeat' first|refine aq ?_|simp[ad,H.slc,H.ssc]);rw[w];refine H.swapA c Ω _ _ Ω Ω fun o=>?_;simp;(repeat' first|refine aq ?_|simp);refine bV.whl (j,Sort.swp f (j+1) j) Ψ ⟨by rw[hL,c],by simp;omega,e⟩ (H.weakC p (by simp[hL,c]) dl)
   |false=>rw[if_neg (by simp[A])]at e;simp;((repeat' first|refine aq ?_|simp|((first|apply cu|apply cy|apply cx)<;>intro h<;>try simp at h))<;>(try exact c4));rw[t];refine bV.whl (i+1,f) d6 ⟨c,by simp;omega,by rw[<-k,<-e]⟩ (H.weakC p (by simpa using c) dl)
  ·have t:((i:Int)+1)=(i+1:Nat):=Ω
   have B:Sort.insInner lt a j f=f:=by
    cases j with
    |zero=>rfl
    |succ j=>rw[Sort.insInner,if_neg d6]
   rw[t];refine bV.whl (i+1,f) d6 ⟨c,by simp;omega,by rw[<-k,<-e,B]⟩ (H.weakC p (by simpa using c) dl)
 ·rw[if_neg Ω]at k;exact H.retA p q (.inr rfl) ⟨rfl,v,rfl,k,q⟩
end
end Go.Proofs.YtahlgcidhnjlbaaGreat
