/- Contracts of the reference: valid terms. -/
import Derived.Deep.LoopGhost
import Derived.Test.YtlnndmgfngfeiaaGreatDoorProg
import Derived.Test.YtlnndmgfngfeiaaGreatDoorZ3
set_option linter.all false
set_option maxHeartbeats 4000000
set_option maxRecDepth 4000
open Bool renaming and_eq_true->bB,false_eq_true->iR
open Decidable renaming not_not->ala
open Go renaming Program->bW,TypeId->gx
open Go.IntKind renaming i64->iF
open Go.IntWalk renaming i64_in->lx
open Go.Proofs.Tryz renaming prog->aP
open Go.Result renaming andThen_ok->e8
open Go.Sem renaming run_bind->e2,run_pure->fC
open Go.Value renaming cells->l1
open List renaming all_eq_true->gC,append_assoc->l2,cons_append->iT,getElem?_eq_getElem->bO,getElem?_eq_some_iff->cX,length_append->dF,length_cons->e3,length_nil->nj,map_cons->eQ,mem_append->iG,mem_cons->gH,mem_map->pv,mem_of_getElem?->eR,nodup_append->ss
open List.Nodup renaming length_le_of_subset->ag0
open List.cons renaming injEq->AB
open Nat renaming le_refl->da,lt_or_ge->hS
open Option renaming getD_some->rh,isSome_iff_exists->fv,isSome_none->tE,map_eq_some_iff->hT,map_some->su
open Option.some renaming injEq->dL
open Prod.mk renaming injEq->gp
open _root_ renaming False->dK,Option->be,UInt8->aF,beq_iff_eq->dO,decide_eq_true_eq->ef,if_neg->bf,if_pos->bN
namespace Go.Pv
section
open Go Go.RowKit
mutual
def gQ(N:List aJ):ag->ag
 | .slice sz (.tr k j) xs=>if k∈N\/k=tt then .slice sz .no (gX N xs)else .slice sz (.tr k j) (cO xs)
 | .slice sz (.own k) xs=>.slice sz (.own k) (gX N xs)
 | .slice sz .nil xs=>.slice sz .nil (gX N xs)
 | .slice sz .no xs=>.slice sz .no (gX N xs)
 | .slice sz (.lo _) xs=>.slice sz .no (gX N xs)
 | .agg cs=>.agg (gX N cs)
 | .eptr x=>.eptr (gQ N x)
 | .iface t x=>.iface t (gQ N x)
 | .tuple vs=>.tuple (gX N vs)
 | .func f dI=>.func f (gX N dI)
 |p=>p
def gX(N:List aJ):List ag->List ag
 |[]=>[]
 |x::xs=>gQ N x::gX N xs
end
theorem xc(N:List aJ):∀xs,(gX N xs).length=xs.length
 |[]=>rfl
 |x::xs=>by simp[gX,xc N xs]
section
variable {w:World} {ν μ:aT} {N:List aJ} (bg:∀b o,ν.A b o->μ.A b o) (af:μ.bx=ν.bx) (aj:μ.ow=ν.ow) (aI:∀k,k∉N->∀j b,ν.tr k j b->μ.tr k j b)
 (fP:∀k j bz e4 b,ν.tr k j b->ν.tr bz e4 b->k=bz/\j=e4)
include bg af aj aI fP
mutual
theorem Aj:∀(p:ag) (v:Value),aR w ν p v->aR w μ (gQ N p) v
 | .junk,_,_=>by simp[gQ,aR]
 | .int _ _,_,h=>by simpa only[gQ,aR]using h
 | .bool _,_,h=>by simpa only[gQ,aR]using h
 | .str _,_,h=>by simpa only[gQ,aR]using h
 | .slice sz tag xs,v,h=>by
  have hw:=h;simp only[aR]at h;obtain⟨I,J,av,aV,bE⟩:=h;obtain⟨a0,NH,b9,cx,dp,c6⟩:=I;have jd:∃a cap,v= .slice a (gX N xs).length cap/\(gX N xs).length<=cap/\(cap<=maxLen/\(gX N xs).length<=bA)/\(gX N xs=[]\/ ∃b off us,a=some ⟨b,off,none⟩/\kg w μ.A b off us/\cI w μ sz (gX N xs) us):=by
   refine⟨a0,NH,by rw[xc];exact b9,by rw[xc];exact cx,by rw[xc];exact dp,?_⟩;rcases c6 with aV|⟨b,off,us,aq,aU,bR⟩
   ·exact .inl (by rw[aV];rfl)
   ·exact .inr ⟨b,off,us,aq,vZ (fun b o h=>⟨bg b o h,rfl⟩) _ _ aU,KT sz xs us bR⟩
  cases tag with
  |no=>simp only[gQ,aR];exact⟨jd,fun e=>(by cases e),fun _ e=>(by cases e),fun _ _ e=>(by cases e),fun _ e=>(by cases e)⟩
  |lo k=>simp only[gQ,aR];exact⟨jd,fun e=>(by cases e),fun _ e=>(by cases e),fun _ _ e=>(by cases e),fun _ e=>(by cases e)⟩
  |nil=>simp only[gQ,aR];exact⟨jd,fun _=>J rfl,fun _ e=>(by cases e),fun _ _ e=>(by cases e),fun _ e=>(by cases e)⟩
  |own k=>simp only[gQ,aR];refine⟨jd,fun e=>(by cases e),fun g e=>?_,fun _ _ e=>(by cases e),fun _ e=>(by cases e)⟩;rw[aj,xc];exact av g e
  |tr k j=>
   simp only[gQ];by_cases aa:k∈N\/k=tt
   ·rw[bN aa];simp only[aR];exact⟨jd,fun e=>(by cases e),fun _ e=>(by cases e),fun _ _ e=>(by cases e),fun _ e=>(by cases e)⟩
   ·rw[bf aa];have gz:=not_or.1 aa;have aM:=Ke fP _ v hw (by simp only[kW];exact gz.2) (by simp[iP]);have mm:=xo (A':=μ.A) (fun b o h=>⟨bg b o h,rfl⟩) (fun _ _ _=>rfl) _ _ (μ.tr k j) _ (fun b af=>by obtain⟨bz,i,hm,af⟩:=af;simp only[iP,List.mem_singleton,gp]at hm;obtain⟨rfl,rfl⟩:=hm;exact aI _ gz.1 _ _ af) aM
    simp only[dr]at mm;exact Lt mm (wC xs)
 | .agg cs,v,h=>by simp only[aR,gQ]at h⊢;obtain⟨us,I,J⟩:=h;exact⟨us,I,KV cs _ J⟩
 | .ptr key off,v,h=>by simp only[aR,gQ]at h⊢;rw[af];exact h
 | .eptr x,v,h=>by simp only[aR,gQ]at h⊢;obtain⟨b,off,u,I,J,av⟩:=h;exact⟨b,off,u,I,Aj x u J,vZ (fun b o h=>⟨bg b o h,rfl⟩) _ _ av⟩
 | .iface t x,v,h=>by simp only[aR,gQ]at h⊢;obtain⟨u,I,J⟩:=h;exact⟨u,I,Aj x u J⟩
 | .nilp,_,h=>by simpa only[gQ,aR]using h
 | .tuple vs,v,h=>by simp only[aR,gQ]at h⊢;obtain⟨us,I,J⟩:=h;exact⟨us,I,CV vs _ J⟩
 | .func f dI,v,h=>by simp only[aR,gQ]at h⊢;obtain⟨us,I,J⟩:=h;exact⟨us,I,CV dI _ J⟩
 | .gmap key,v,h=>by simp only[aR,gQ]at h⊢;rw[af];exact h
 | .row sz k n,v,h=>by simp only[aR,gQ]at h⊢;rw[aj];exact h
 | .rptr sz k n i f,v,h=>by simp only[aR,gQ]at h⊢;rw[aj];exact h
 | .hdm _ _,_,h=>by simp only[aR]at h
 | .hdi _ _ _,_,h=>by simp only[aR]at h
 | .cst _,_,h=>by simpa only[gQ,aR]using h
theorem KV:∀(cs:List ag) (us:List Value),cG w ν cs us->cG w μ (gX N cs) us
 |[],_,h=>by simpa only[gX,cG]using h
 |c::cs,us,h=>by simp only[cG,gX]at h⊢;obtain⟨u,bF,I,J,av⟩:=h;exact⟨u,bF,I,⟨Aj c u J.1,J.2⟩,KV cs bF av⟩
theorem CV:∀(cs:List ag) (us:List Value),cD w ν cs us->cD w μ (gX N cs) us
 |[],_,h=>by simpa only[gX,cD]using h
 |c::cs,us,h=>by simp only[cD,gX]at h⊢;obtain⟨u,bF,I,J,av⟩:=h;exact⟨u,bF,I,Aj c u J,CV cs bF av⟩
theorem KT(sz:Nat):∀(cs:List ag) (us:List Value),cI w ν sz cs us->cI w μ sz (gX N cs) us
 |[],_,h=>by simpa only[gX,cI]using h
 |c::cs,us,h=>by simp only[cI,gX]at h⊢;obtain⟨u,bF,I,⟨J,tV⟩,av⟩:=h;exact⟨u,bF,I,⟨Aj c u J,tV⟩,KT sz cs bF av⟩
end
theorem afe{cs:List ag}{us:List Value}(h:hQ w ν cs us):hQ w μ (gX N cs) us:=by
 have bK:∀c:ag,(∀a b,c≠ .hdm a b)->(∀a b d,c≠ .hdi a b d)->(∀a b,gQ N c≠ .hdm a b)/\(∀a b d,gQ N c≠ .hdi a b d):=by
  intro c I J;cases c with
  |slice sz tag xs=>cases tag<;>simp only[gQ]<;>first|(split<;>simp)|simp
  |hdm a b=>exact absurd rfl (I a b)
  |hdi a b d=>exact absurd rfl (J a b d)
  |_=>simp[gQ]
 unfold hQ at h;split at h
 ·simp only[gX,gQ,hQ];exact⟨CV bg af aj aI fP _ _ h.1,⟨by rw[xc];exact h.2.len,h.2.inc,h.2.lt⟩⟩
 ·simp only[gX,gQ,hQ];exact CV bg af aj aI fP _ _ h
 ·rename_i gV fH;have hr:=KV bg af aj aI fP _ _ h;rw[pc]
  ·exact hr
  ·exact yj hr
end
theorem We(N:List aJ)(cs:List ag)(us:Array Value)(el:gx):iz (gX N cs) us el=iz cs us el:=by
 cases cs with
 |nil=>rfl
 |cons c r=>
  cases c with
  |slice sz tag xs=>
   cases tag with
   |tr k j=>by_cases aa:k∈N\/k=tt<;>simp[gX,gQ,iz,aa]
   |_=>rfl
  |_=>rfl
def A4(N:List aJ)(l:List (Nat×ag)):List (Nat×ag):=l.map fun x=>(x.1,gQ N x.2)
def A3(N:List aJ)(l:List (aJ×List ag)):List (aJ×List ag):=l.map fun x=>(x.1,gX N x.2)
def DM(N:List aJ)(o:dw):dw:=⟨o.n,o.el,o.sz,o.xs.map (gX N)⟩
def yY(N:List aJ)(rw:List aJ)(l:List (aJ×dw)):List (aJ×dw):=(l.filter fun x=>decide (x.1∉rw)).map fun x=>(x.1,DM N x.2)
theorem Pk(N:List aJ)(i:Nat):∀l,get i (A4 N l)=gQ N (get i l)
 |[]=>by simp[A4,get,gQ]
 |(j,p)::r=>by
  have a8:=Pk N i r;simp only[A4,eQ,get]at a8⊢;split
  ·rfl
  ·exact a8
theorem JO(N:List aJ)(k:aJ):∀l,look k (A3 N l)=(look k l).map (gX N)
 |[]=>rfl
 |(j,p)::r=>by
  have a8:=JO N k r;simp only[A3,eQ,look]at a8⊢;split
  ·rfl
  ·exact a8
theorem JP(N rw:List aJ)(k:aJ):∀l,look k (yY N rw l)=if k∈rw then none else(look k l).map (DM N)
 |[]=>by simp[yY,look]
 |(j,p)::r=>by
  have a8:=JP N rw k r;simp only[yY]at a8⊢;by_cases al:j∈rw
  ·rw[List.filter_cons_of_neg (by simpa using al),a8];simp only[look];by_cases aa:k∈rw
   ·simp[aa]
   ·have:j≠k:=fun e=>aa (e▸al);simp[aa,this]
  ·rw[List.filter_cons_of_pos (by simpa using al)];simp only[eQ,look];by_cases e:j=k
   ·subst e;simp[al]
   ·rw[bf e,a8,bf e]
def zb(st:bb)(p:ag):List aJ:=(gm st.e p).map (·.1)
def zc(st:bb)(s:Nat):bb:=⟨put s (fold st.n st.e 0 (get s st.t)) (A4 (zb st (get s st.t)) st.t),A3 (zb st (get s st.t)) st.b,yY (zb st (get s st.t)) (fi (get s st.t)) st.e,st.n+1,st.o⟩
def Bi(ob:List aJ)(st:bb)(s:Nat):Prop:=im st.e (get s st.t)/\(gm st.e (get s st.t)).Nodup/\(fi (get s st.t)).Nodup/\ .loc st.n∉st.o/\(∀k∈zb st (get s st.t),k∉ob)/\∀k∈fi (get s st.t),∃j,k= .loc j
def aT.fd(ν:aT)(R:Nat->Prop)(rw:List aJ)(e:List (aJ×dw))(T:List (Nat->Prop))(N:List aJ)(n:Nat):aT:=
 {A:=fun b o=>ν.A b o\/ ∃k,k∈rw/\∃own,look k e=some own/\mz ν k b/\o<own.n*own.sz,
  bx:=ν.bx,ow:=ν.ow,
  tr:=fun k j b=>(k∉N/\ν.tr k j b)\/(k= .loc n/\∃S,T[j]? =some S/\S b)}
theorem Yx{C:eH}{st:bb}{a:Act}{w:World}{ν:aT}(h:ct C st a w ν){s:Nat}(aD:Bi C.ob st s):∃ν',ct C (zc st s) a w ν':=by
 obtain⟨ok,JZ,rd,xC,P8,P5⟩:=aD;unfold zc;generalize bq:get s st.t=p at ok JZ rd P8 P5⊢;have lR:aR w ν p (a.tmps.getD s undef):=by rw[<-bq];exact h.slot s
 let R:Nat->Prop:=fun b=> ∃k,k∈fi p/\mz ν k b
 have Fe:=h.new (.loc st.n) ⟨da _,xC⟩;have s3:∀k b,k∈fi p->mz ν k b->∃own,look k st.e=some own/\C.w0.heap.size<=b/\b<w.heap.size/\(∀k j,¬ν.tr k j b)/\(∀bz,(look bz st.b).isSome->ν.bx bz≠some b)/\∀g n v,(look g st.e).isSome->ν.ow g=some (n,v)->v.ownBlock=some b->g=k:=by rintro k b aa ⟨n,v,I,J⟩;obtain⟨own,o1⟩:=RZ _ ok k aa;obtain⟨j,rfl⟩:=P5 k aa;exact⟨own,o1,h.fr.nrow j n v b I J,h.good.ownLt o1 I J,h.good.otr b (.inr ⟨_,_,_,by simp[o1],I,J⟩),fun bz gz jE=>h.good.obx _ bz _ _ b (by simp[o1]) gz I J jE,fun g n' v' aO aq aU=>h.good.oinj g _ n' n v' v b aO (by simp[o1]) aq I aU J⟩
 have EG:AF ν R (fi p):=by refine⟨h.fr.trd,fun k bz b aa gz I J=>?_,fun k b aa h=>⟨k,aa,h⟩⟩;obtain⟨n,v,bV,a2⟩:=I;obtain⟨_,cJ,_⟩:=s3 k b aa ⟨n,v,bV,a2⟩;obtain⟨_,_,_,_,_,_,c2⟩:=s3 bz b gz J;exact c2 k n v (by simp[cJ]) bV a2
 let N:=zb st p
 let μ:aT:=ν.fd R (fi p) st.e (eT ν R st.e p) N st.n
 have bg:∀b o,ν.A b o->μ.A b o:=fun b o h=>.inl h;have fP:∀k,k∉N->∀j b,ν.tr k j b->μ.tr k j b:=fun k aa j b af=>.inl ⟨aa,af⟩;have ZY:∀q v,aR w ν q v->aR w μ (gQ N q) v:=Aj bg rfl rfl fP h.fr.trd;have ZZ:∀sz q v,cI w ν sz q v->cI w μ sz (gX N q) v:=fun sz=>KT bg rfl rfl fP h.fr.trd sz;have kP:∀(j:Nat) (S:Nat->Prop) (b:Nat),(eT ν R st.e p)[j]? =some S->S b->(∃k∈fi p,mz ν k b)\/ ∃k i,(k,i)∈gm st.e p/\ν.tr k i b:=by
  intro j S b al gy;rcases Gy _ j S al b gy with⟨k,aa,I⟩|⟨⟨k,i,I,J⟩,_⟩
  ·exact .inl ⟨k,aa,I⟩
  ·exact .inr ⟨k,i,I,J⟩
 have vO:∀k,(look k (A3 N st.b)).isSome->(look k st.b).isSome:=fun k aa=>by rw[JO]at aa;simpa using aa
 have xG:∀k,(look k (yY N (fi p) st.e)).isSome->k∉fi p/\(look k st.e).isSome:=fun k aa=>by
  rw[JP]at aa;split at aa
  ·cases aa
  ·rename_i e;exact⟨e,by simpa using aa⟩
 have P9:∀g n v b,g∉fi p->(look g st.e).isSome->ν.ow g=some (n,v)->v.ownBlock=some b->∀k∈fi p,¬mz ν k b:=by intro g n v b aO aE aq aU k aa hr;obtain⟨_,_,_,_,_,_,c⟩:=s3 k b aa hr;exact aO (c g n v aE aq aU▸aa)
 have aap:aR w μ (fold st.n st.e 0 p) (a.tmps.getD s undef):=by refine H4 (μ:=μ) h.good EG (fun b bh=>?_) bg (fun k aa own o1 b hq o aj=>.inr ⟨k,aa,own,o1,hq,aj⟩) p _ 0 lR ok JZ (fun k aa=>aa) (fun i S aw b gy=>.inr ⟨rfl,S,by simpa using aw,gy⟩);obtain⟨k,aa,hq⟩:=bh;obtain⟨_,_,_,_,aV,_⟩:=s3 k b aa hq;exact aV
 refine⟨μ,⟨fun bl o bg=>?_,fun k cs aa=>?_,fun k bz bl I J=>h.good.inj k bz bl (vO k I) (vO bz J),fun g o aO=>?_,fun g eK n n' v v' bl I J=>h.good.oinj g eK n n' v v' bl (xG g I).2 (xG eK J).2,fun g k n v bl I J=>h.good.obx g k n v bl (xG g I).2 (vO k J),h.good.one,fun bl aI k j abp=>?_⟩,
  ⟨h.fr.os,h.fr.tape,h.fr.output,h.fr.size,h.fr.block,fun b o b4=>⟨.inl (h.fr.keep b o b4).1,(h.fr.keep b o b4).2⟩,fun b o b4=>?_,h.fr.obj,h.fr.obn,h.fr.row,h.fr.obr,fun k j bz e4 b I J=>?_,fun k j b af=>?_,fun k j b af=>?_,h.fr.sh,h.fr.nrow⟩,
  h.defers,h.size,fun i=>?_,fun k aa=>?_,fun x ad=>?_,fun m hm aM=>h.obk m hm (xm (Nat.le_succ _) (fun _ h=>h) aM)⟩
 ·rcases bg with bg|⟨k,aa,own,_,hq,_⟩
  ·exact h.good.alt bl o bg
  ·obtain⟨_,_,_,av,_⟩:=s3 k bl aa hq;exact av
 ·simp only at aa;rw[JO]at aa;cases aE:look k st.b with
  |none=>rw[aE]at aa;cases aa
  |some dP=>
   rw[aE]at aa;simp only[su,dL]at aa;subst aa;obtain⟨bl,us,el,aq,aU,bR,ds,hn⟩:=h.good.box k dP aE;refine⟨bl,us,el,aq,aU,fun o b4=>?_,by rw[We];exact ds,afe bg rfl rfl fP h.fr.trd hn⟩;rcases b4 with b4|⟨bz,gz,own,_,hq,_⟩
   ·exact bR o b4
   ·obtain⟨_,_,_,_,_,bE,_⟩:=s3 bz bl gz hq;exact bE k (by simp[aE]) aq
 ·simp only at aO;have IH:=xG g (by rw[aO];rfl);rw[JP,bf IH.1]at aO;cases aE:look g st.e with
  |none=>rw[aE]at aO;cases aO
  |some mZ=>
   rw[aE]at aO;simp only[su,dL]at aO;subst aO;obtain⟨v,us,aq,aU,bR,ds⟩:=h.good.own g mZ aE;have ij:∀bl,v.ownBlock=some bl->∀j,μ.A bl j->ν.A bl j:=by
    intro bl af j b4;rcases b4 with b4|⟨bz,gz,own,_,hq,_⟩
    ·exact b4
    ·exact absurd hq (P9 g _ v bl IH.1 IH.2 aq af bz gz)
   refine⟨v,us,aq,aU,fun bl af=>⟨(bR bl af).1,fun j b4=>(bR bl af).2 j (ij bl af j b4)⟩,fun xs ad=>?_⟩;simp only[DM]at ad;cases nA:mZ.xs with
   |none=>rw[nA]at ad;cases ad
   |some ys=>rw[nA]at ad;simp only[su,dL]at ad;subst ad;obtain⟨f1,f2,f3⟩:=ds ys nA;exact⟨by rw[xc];exact f1,ZZ _ _ _ f2,fun bl af j b4=>f3 bl af j (ij bl af j b4)⟩
 ·have hold:∀k j,¬ν.tr k j bl:=by refine h.good.otr bl (aI.imp (fun⟨k,bV,a2⟩=>⟨k,vO k bV,a2⟩) fun⟨g,n,v,bV,a2,a3⟩=>⟨g,n,v,(xG g bV).2,a2,a3⟩)
  rcases abp with⟨_,af⟩|⟨_,S,gy,af⟩
  ·exact hold k j af
  ·rcases kP j S bl gy af with⟨bz,gz,hr⟩|⟨bz,i,_,hq⟩
   ·rcases aI with⟨ed,bV,a2⟩|⟨g,n,v,bV,a2,a3⟩
    ·obtain⟨_,_,_,_,_,bE,_⟩:=s3 bz bl gz hr;exact bE ed (vO ed bV) a2
    ·exact P9 g n v bl (xG g bV).1 (xG g bV).2 a2 a3 bz gz hr
   ·exact hold bz i hq
 ·rcases b4 with b4|⟨k,aa,own,_,hq,_⟩
  ·exact h.fr.fresh b o b4
  ·obtain⟨_,_,J,_⟩:=s3 k b aa hq;exact .inr (.inr J)
 ·have mixed:∀(k:aJ) (j e4:Nat) (S:Nat->Prop),k∉N->ν.tr k j b->(eT ν R st.e p)[e4]? =some S->S b->dK:=by
   intro k j e4 S aa af gy hq;rcases kP e4 S b gy hq with⟨bz,gz,hr⟩|⟨bz,i,hm,sS⟩
   ·obtain⟨_,_,_,_,aV,_⟩:=s3 bz b gz hr;exact aV k j af
   ·obtain⟨rfl,_⟩:=h.fr.trd k j bz i b af sS;exact aa (pv.2 ⟨_,hm,rfl⟩)
  rcases I with⟨gV,bQ⟩|⟨rfl,S,s1,bQ⟩<;>rcases J with⟨fH,b3⟩|⟨rfl,k4,s2,b3⟩
  ·exact h.fr.trd k j bz e4 b bQ b3
  ·exact(mixed k j e4 k4 gV bQ s2 b3).elim
  ·exact(mixed bz e4 j S fH b3 s1 bQ).elim
  ·exact⟨rfl,TL EG p JZ rd (fun k aa=>aa) j e4 S k4 s1 s2 b bQ b3⟩
 ·rcases af with⟨_,af⟩|⟨_,S,gy,af⟩
  ·exact h.fr.trb k j b af
  ·rcases kP j S b gy af with⟨bz,gz,hr⟩|⟨bz,i,hm,sS⟩
   ·obtain⟨_,_,J,av,_⟩:=s3 bz b gz hr;exact⟨.inr J,av⟩
   ·have:=h.fr.trb bz i b sS;exact⟨.inr (this.1.resolve_left (RY _ ok _ hm)),this.2⟩
 ·rcases af with⟨_,af⟩|⟨rfl,_⟩
  ·exact h.fr.trn k j b af
  ·exact⟨Fe.1,Fe.2.1⟩
 ·simp only[pM];split
  ·rename_i e;subst e;exact aap
  ·rw[Pk];exact ZY _ _ (h.slot i)
 ·have aM:fresh st.n st.o k:=xm (Nat.le_succ _) (fun _ h=>h) aa;obtain⟨gV,fH,h4⟩:=h.new k aM;refine⟨gV,fH,fun j b af=>?_⟩;rcases af with⟨_,af⟩|⟨rfl,_⟩
  ·exact h4 j b af
  ·have:=aa.1;simp only at this;omega
 ·obtain⟨aq,aU⟩:=h.ext x ad;refine⟨sd (S:=fun k=>k∉N) (w:=w) (ν:=ν) (w':=w) (ν':=μ) ⟨fun b o h=>⟨.inl h,rfl⟩,fun _ _ _ h=>h,fun g n u _ h=>⟨n,u,h,.inl ⟨rfl,rfl⟩⟩,fun _ _ _=>rfl,fun k j b aa af=>.inl ⟨aa,af⟩⟩ _ _ (uA (fun k aa aK=>P8 k aK aa) _ aU) aq,aU⟩
end
section
open Go Go.RowKit
def jA:List ag->Prop
 |[]=>True
 |p::bY=>(match p with| .slice _ _ xs=>xs.length<=bA| .str s=>s.length<=bA|_=>True)/\jA bY
def iW:ag->Prop
 | .slice _ _ xs=>xs.length<=bA
 | .str s=>s.length<=bA
 | .agg cs=>jA cs
 |_=>True
def j1:List ag->Prop
 |[]=>True
 |p::r=>iW p/\j1 r
theorem KU{w:World}{ν:aT}:∀{cs:List ag} {us:List Value},cG w ν cs us->jA cs
 |[],_,_=>trivial
 |c::cs,us,h=>by
  simp only[cG]at h;obtain⟨u,bF,_,I,J⟩:=h;refine⟨?_,KU J⟩;cases c<;>simp only<;>have av:=I.1<;>simp only[aR]at av
  ·exact av.2
  ·obtain⟨⟨a,cap,_,_,aV,_⟩,_⟩:=av;exact aV.2
theorem Tf{w:World}{ν:aT}{cs:List ag}{us:List Value}(h:hQ w ν cs us):iB cs=true->jA cs:=fun bq=>by rw[pc bq]at h;exact KU h
theorem Ts{w:World}{ν:aT}{p:ag}{v:Value}(h:aR w ν p v):iW p:=by
 cases p<;>simp only[iW]<;>simp only[aR]at h
 ·exact h.2
 ·obtain⟨⟨a,cap,_,_,aV,_⟩,_⟩:=h;exact aV.2
 ·obtain⟨us,_,J⟩:=h;exact KU J
theorem Tq{w:World}{ν:aT}:∀{cs:List ag} {us:List Value},cD w ν cs us->j1 cs
 |[],_,_=>trivial
 |c::cs,us,h=>by simp only[cD]at h;obtain⟨u,bF,_,I,J⟩:=h;exact⟨Ts I,Tq J⟩
inductive C where
 |skip
 |region (gs:List cL)
 |drawn (q:Bool) (N:Nat) (gs:List cL)
 |drawnW (nw:List Nat) (N:Nat) (gs:List cL)
 |seq (a b:C)
 |cond (x:cS) (t e:C)
 |block (id:Nat) (c:C)
 |loop (c:C)
 |exit (id:Nat)
 |ret
 |pub (s:Nat) (c:C)
 |pubB (s:Nat) (c:C)
 |fg (o7:Bool) (s:Nat) (c:C)
 |fz (agg:Bool) (s:Nat) (c:C)
 |fd (s:Nat) (c:C)
 |no
def CL(st:bb):ag->be (ag×List (aJ×dw))
 | .row sz k n=>match look k st.e with
  |some ⟨n',el,dj,some xs⟩=>if n'=n/\dj=sz then some (.slice sz (.own k) xs,cR k ⟨n,el,sz,none⟩ st.e)else none
  |_=>none
 |_=>none
def uM(st:bb)(s:Nat):be bb:=
 match CL st (get s st.t)with
 |some (p,e)=>some {st with t:=put s p st.t,e:=e}
 |none=>none
def wu(st:bb)(s:Nat):be bb:=
 match get (s%1000) st.t with
 | .ptr k off=>match look k st.b with
  |some cs=>match cs[off+s/1000]? with
   |some p=>match CL st p with
    |some (zW,e)=>if iB cs then some {st with b:=cR k (cs.set (off+s/1000) zW) st.b,e:=e}else none
    |none=>none
   |none=>none
  |none=>none
 |_=>none
theorem KN{C:eH}{st:bb}{a:Act}{w:World}{ν:aT}(h:ct C st a w ν){s:Nat}{p:ag}(ao:aR w ν p (a.tmps.getD s undef)):ct C {st with t:=put s p st.t} a w ν:=by
 refine⟨h.good,h.fr,h.defers,h.size,fun i=>?_,h.new,h.ext,h.obk⟩;have:=h.slot i;simp only[pM];split
 ·rename_i e;subst e;exact ao
 ·exact this
theorem SD{C:eH}{st:bb}{a:Act}{w:World}{ν:aT}(h:ct C st a w ν){p zW:ag}{e:List (aJ×dw)}{v:Value}(bq:aR w ν p v)(he:CL st p=some (zW,e)):
  ∃ν',ct C {st with e:=e} a w ν'/\aR w ν' zW v/\lA w ν w ν':=by
 unfold CL at he;split at he
 ·rename_i sz k n;split at he
  ·rename_i n' el dj xs aa;split at he
   ·rename_i aD;obtain⟨rfl,rfl⟩:=aD;cases he;simp only[aR]at bq;obtain⟨_,aE,n0,u,I,J,av⟩:=bq;obtain⟨v0,eN,b9,cx,dp,c6⟩:=h.good.own k _ aa;rw[I]at b9;simp only[dL,gp]at b9;obtain⟨rfl,rfl⟩:=b9;have aS:v=u:=av rfl;subst aS;obtain⟨cH,_,_⟩:=c6 xs rfl;simp only at cH;obtain⟨g1,g2⟩:=h.publish aa rfl I (by rw[cH];exact aE);refine⟨_,g1,g2,⟨fun b o bg=>⟨.inl bg,rfl⟩,fun j b _ al=>al,fun g n u _ iv=>⟨n,u,?_,.inl ⟨rfl,rfl⟩⟩,fun _ _ _=>rfl,fun _ _ _ _ h=>h⟩⟩;simp only[aT.withRowOf];split
    ·rename_i e;subst e;rw[I]at iv;exact iv
    ·exact iv
   ·cases he
  ·cases he
 ·cases he
def zd(o7:Bool):ag->ag
 | .slice sz tag xs=>.slice sz (if o7 then tag else .no) (cO xs)
 |p=>dr p
theorem Yy{w:World}{ν:aT}{o7:Bool}{p:ag}{v:Value}(h:aR w ν p v):aR w ν (zd o7 p) v:=by
 have I:=yk p v h;cases p with
 |slice sz tag xs=>
  simp only[zd];cases o7 with
  |false=>simpa only[iR,if_false,dr]using I
  |true=>
   simp only[if_true];simp only[aR,dr]at h I⊢;refine⟨I.1,fun e=>h.2.1 e,fun g e=>?_,fun k j e=>?_,fun k e=>?_⟩
   ·obtain⟨n,u,aq,aU,bR⟩:=h.2.2.1 g e;exact⟨n,u,aq,by rw[mA];exact aU,by rw[mA];exact bR⟩
   ·exact H6 _ _ (h.2.2.2.1 k j e)
   ·exact H6 _ _ (h.2.2.2.2 k e)
 |_=>exact I
theorem aev{C:eH}{st st':bb}{a:Act}{w:World}{ν:aT}(h:ct C st a w ν){s:Nat}(he:uM st s=some st'):∃ν',ct C st' a w ν':=by
 unfold uM at he;split at he
 ·rename_i p e bq;cases he;obtain⟨ν',I,J,_⟩:=SD h (h.slot s) bq;exact⟨_,KN I J⟩
 ·cases he
theorem To{w:World}{ν:aT}:∀{cs:List ag} {us:List Value} {i:Nat} {p q:ag} {v:Value},cG w ν cs us->cs[i]? =some p->us[i]? =some v->aR w ν q v->cG w ν (cs.set i q) us
 |[],_,_,_,_,_,_,h,_,_=>by simp at h
 |c::cs,us,0,p,q,v,h,_,aS,bG=>by simp only[cG]at h;obtain⟨u,bF,rfl,I,J⟩:=h;simp only[List.getElem?_cons_zero,dL]at aS;subst aS;simp only[List.set_cons_zero,cG];exact⟨_,_,rfl,⟨bG,I.2⟩,J⟩
 |c::cs,us,i+1,p,q,v,h,bq,aS,bG=>by simp only[cG]at h;obtain⟨u,bF,rfl,I,J⟩:=h;simp only[List.set_cons_succ,cG];exact⟨_,_,rfl,I,To J (by simpa using bq) (by simpa using aS) bG⟩
theorem aeu{C:eH}{st st':bb}{a:Act}{w:World}{ν:aT}(h:ct C st a w ν){s:Nat}(he:wu st s=some st'):∃ν',ct C st' a w ν':=by
 unfold wu at he;split at he
 ·rename_i k adg aa;generalize adg+s/1000=off at he;split at he
  ·rename_i cs cT;split at he
   ·rename_i p bq;split at he
    ·rename_i zW e I4;split at he
     ·rename_i gS;cases he;obtain⟨bl,us,el,g1,g2,g3,g4,g5⟩:=h.good.box k cs cT;rw[pc gS]at g5;have b7:off<us.toList.length:=by rw[pf g5];exact(cX.1 bq).1
      obtain⟨v,aS⟩:∃v,us.toList[off]? =some v:=⟨_,bO b7⟩;have Jb:aR w ν p v:=by have:=Af off g5;rw[List.drop_eq_getElem_cons (cX.1 bq).1,List.drop_eq_getElem_cons b7]at this;simp only[cG]at this;obtain⟨u,bF,aq,aU,_⟩:=this;rw[(cX.1 bq).2]at aU;rw[(cX.1 aS).2]at aq;cases aq;exact aU.1
      obtain⟨ν',I,J,av⟩:=SD h Jb I4;have pS:cG w ν' (cs.set off zW) us.toList:=To (Tn av g5) bq aS J;have Qh:=yj pS;refine⟨ν',⟨I.good.alt,fun j dP al=>?_,fun j e4 b al kO=>I.good.inj j e4 b ?_ ?_,I.good.own,I.good.oinj,fun g j n v b aO al=>I.good.obx g j n v b aO ?_,I.good.one,fun bl af=>I.good.otr bl (af.imp (fun⟨bz,bV,a2⟩=>⟨bz,by rw[jr]at bV;split at bV;(rename_i e;subst e;simp[cT]);exact bV,a2⟩) id)⟩,I.fr,I.defers,I.size,I.slot,I.new,I.ext,I.obk⟩
      ·simp only at al;rw[jr]at al;split at al
       ·rename_i e;subst e;cases al;obtain⟨h8,bF,eJ,f1,f2,f3,f4,f5⟩:=I.good.box k cs cT;have:h8=bl:=by have:=av.bx k bl trivial g1;rw[this]at f1;cases f1;rfl
        subst this;rw[p5 gS]at g4 f4;rw[g4]at f4;injection f4 with f4;injection f4 with f4 f6 f7;refine⟨h8,us,el,f1,f2,f3,by rw[p5 Qh];exact g4,by rw[pc Qh];exact pS⟩
       ·exact I.good.box j dP al
      ·simp only at al;rw[jr]at al;split at al
       ·rename_i e;subst e;simp[cT]
       ·exact al
      ·simp only at kO;rw[jr]at kO;split at kO
       ·rename_i e;subst e;simp[cT]
       ·exact kO
      ·simp only at al;rw[jr]at al;split at al
       ·rename_i e;subst e;simp[cT]
       ·exact al
     ·cases he
    ·cases he
   ·cases he
  ·cases he
 ·cases he
def sK{α:Type}(k:aJ)(l:List (aJ×α)):List (aJ×α):=match l with
 |[]=>[]
 |(i,x)::r=>if i=k then sK k r else(i,x)::sK k r
theorem JQ{α:Type}(k j:aJ):∀l:List (aJ×α),look j (sK k l)=if j=k then none else look j l
 |[]=>by simp[sK,look]
 |(i,x)::r=>by
  simp only[sK];by_cases h:i=k
  ·subst h;rw[bN rfl,JQ i j r];by_cases J:j=i
   ·simp[J]
   ·have:¬i=j:=fun e=>J e.symm;simp[look,J,this]
  ·rw[bf h];simp only[look];by_cases J:i=j
   ·subst J;simp[h]
   ·simp only[J,if_false];exact JQ k j r
def H7(agg:Bool):List ag->be ag
 |[p]=>if agg then some (.agg [p])else some p
 |cs=>if agg then some (.agg cs)else none
def vz(st:bb)(agg:Bool)(s:Nat):be bb:=
 match get s st.t with
 | .ptr k 0=>match look k st.b with
  |some cs=>if iB cs then match H7 agg cs with
    |some x=>some {st with t:=put s (.eptr x) st.t,b:=sK k st.b}
    |none=>none
   else none
  |none=>none
 |_=>none
theorem aek{u:Value}(h:u.oneCell'=true):u.cells.toList=[u]:=by cases u<;>first|rfl|(simp[Value.oneCell']at h)
theorem Ro{w:World}{A:Nat->Nat->Prop}{b:Nat}{us:Array Value}{el:gx}(af:w.heap[b]? =some (.cells us el))(bg:∀o,o<us.size->A b o):∀(vs:List Value) (off:Nat),us.toList.drop off=vs->kg w A b off vs
 |[],_,_=>trivial
 |v::vs,off,h=>by
  have b7:off<us.toList.length:=by
   rcases hS off us.toList.length with I|I
   ·exact I
   ·rw[List.drop_eq_nil_of_le I]at h;cases h
  have J:=List.drop_eq_getElem_cons b7;rw[h]at J;injection J with J av;refine⟨⟨bg off (by simpa using b7),?_⟩,Ro af bg vs (off+1) av.symm⟩;have aaZ:off<us.size:=by simpa using b7
  simp only[World.cell?,af,tE,iR,if_false];rw[J];simp[aaZ]
theorem YO{C:eH}{st st':bb}{a:Act}{w:World}{ν:aT}(h:ct C st a w ν){agg:Bool}{s:Nat}(he:vz st agg s=some st'):∃ν',ct C st' a w ν':=by
 unfold vz at he;split at he
 ·rename_i k aa;split at he
  ·rename_i cs cT;split at he
   ·rename_i gS;split at he
    ·rename_i x ad;cases he;obtain⟨bl,us,el,g1,g2,g3,g4,g5⟩:=h.good.box k cs cT;rw[pc gS]at g5;rw[p5 gS]at g4;have b7:bl<w.heap.size:=by
      rcases hS bl w.heap.size with I|I
      ·exact I
      ·rw[Array.getElem?_eq_none I]at g4;cases g4
     let ν':aT:={ν with A:=fun b o=>ν.A b o\/(b=bl/\o<us.size)}
     have aj:lA w ν w ν':=⟨fun b o bg=>⟨.inl bg,rfl⟩,fun j b _ al=>al,fun g n u _ iv=>⟨n,u,iv,.inl ⟨rfl,rfl⟩⟩,fun _ _ _=>rfl,fun _ _ _ _ h=>h⟩;have ih:∀j dP,look j (sK k st.b)=some dP->j≠k/\look j st.b=some dP:=fun j dP al=>by
      rw[JQ]at al;split at al
      ·cases al
      ·rename_i e;exact⟨e,al⟩
     have ES:∀j,(look j (sK k st.b)).isSome->(look j st.b).isSome:=fun j al=>by obtain⟨dP,hJ⟩:=fv.1 al;simp[(ih j dP hJ).2]
     have n7:∀(g:aJ) (n:Nat) (v:Value),(look g st.e).isSome->ν.ow g=some (n,v)->v.ownBlock=some bl->dK:=fun g n v I J av=>h.good.obx g k n v bl I (by simp[cT]) J av g1;have mr:aR w ν' (.eptr x) (a.tmps.getD s undef):=by
      have ao:=h.slot s;rw[aa]at ao;simp only[aR]at ao⊢;obtain⟨fy,b9,cx⟩:=ao;rw[g1]at b9;cases b9;have aE:kg w ν'.A bl 0 us.toList:=Ro g4 (fun o aj=>.inr ⟨rfl,aj⟩) _ 0 rfl;have g6:cG w ν' cs us.toList:=Tn aj g5;unfold H7 at ad;split at ad
      ·rename_i p;simp only[cG]at g6;obtain⟨u,bF,aq,aU,bR⟩:=g6;subst bR;split at ad
       ·cases ad;exact⟨bl,0,.agg us,cx,by simp only[aR];exact⟨us,rfl,by rw[aq];simp only[cG];exact⟨u,[],rfl,aU,rfl⟩⟩,by simpa[l1]using aE⟩
       ·cases ad;refine⟨bl,0,u,cx,aU.1,?_⟩;rw[aek aU.2,<-aq];exact aE
      ·split at ad
       ·cases ad;exact⟨bl,0,.agg us,cx,by simp only[aR];exact⟨us,rfl,g6⟩,by simpa[l1]using aE⟩
       ·cases ad
     refine⟨ν',KN (ν:=ν') (st:={st with b:=sK k st.b}) ⟨⟨fun b o bg=>?_,fun j dP al=>?_,fun j e4 b I J=>h.good.inj j e4 b (ES j I) (ES e4 J),fun g o aO=>?_,h.good.oinj,fun g j n v b I J=>h.good.obx g j n v b I (ES j J),h.good.one,fun b aI=>h.good.otr b (aI.imp (fun⟨j,bV,a2⟩=>⟨j,ES j bV,a2⟩) id)⟩,⟨h.fr.os,h.fr.tape,h.fr.output,h.fr.size,h.fr.block,fun b o bg=>⟨.inl (h.fr.keep b o bg).1,(h.fr.keep b o bg).2⟩,fun b o bg=>?_,h.fr.obj,h.fr.obn,h.fr.row,h.fr.obr,h.fr.trd,h.fr.trb,h.fr.trn,h.fr.sh,h.fr.nrow⟩,h.defers,h.size,fun i=>uV aj (h.slot i),h.new,fun x ad=>⟨uV aj (h.ext x ad).1,(h.ext x ad).2⟩,h.obk⟩ mr⟩
     ·rcases bg with bg|⟨rfl,_⟩
      ·exact h.good.alt b o bg
      ·exact b7
     ·obtain⟨cE,kO⟩:=ih j dP al;obtain⟨h8,bF,eJ,f1,f2,f3,f4,f5⟩:=h.good.box j dP kO;refine⟨h8,bF,eJ,f1,f2,fun o bg=>?_,f4,pe aj f5⟩;rcases bg with bg|⟨rfl,_⟩
      ·exact f3 o bg
      ·exact cE (h.good.inj j k _ (by simp[kO]) (by simp[cT]) f1 g1)
     ·obtain⟨v0,eN,aq,aU,bR,ds⟩:=h.good.own g o aO;have vD:∀b,v0.ownBlock=some b->∀j,ν'.A b j->ν.A b j:=fun b af j bg=>by
       rcases bg with bg|⟨rfl,_⟩
       ·exact bg
       ·exact(n7 g _ v0 (by simp[aO]) aq af).elim
      exact⟨v0,eN,aq,aU,fun b af=>⟨(bR b af).1,fun j bg=>(bR b af).2 j (vD b af j bg)⟩,qY aj vD ds⟩
     ·rcases bg with bg|⟨rfl,_⟩
      ·exact h.fr.fresh b o bg
      ·exact .inr g2
    ·cases he
   ·cases he
  ·cases he
 ·cases he
def sc(st:bb)(x:cS)(b:Bool):bb:=match x with
 | .t i=>{st with t:=put i (.bool b) st.t}
 | .c _=>st
def p2(nw:List Nat)(o:List aJ):List Nat:=nw.filter fun j=>decide (aJ.obj j∉o)
theorem ac4{nw:List Nat}{o:List aJ}:∀j∈p2 nw o,aJ.obj j∉o:=fun j al=>by have:=(List.mem_filter.1 al).2;simpa using this
def cP(P:bW)(ob:List aJ):C->(Exit->bb->Prop)->bb->Prop
 | .skip,Q,st=>Q .normal st
 | .region gs,Q,st=>ho P ob gs st (Q .normal)
 | .drawn q N gs,Q,st=>hF P q [] st.n gs st (tF (st.n+N) st.o (Q .normal))
 | .drawnW nw N gs,Q,st=>hF P false (p2 nw st.o) st.n gs st (tF (st.n+N) ((p2 nw st.o).map aJ.obj++st.o) (Q .normal))
 | .seq a b,Q,st=>cP P ob a (fun e st'=>match e with| .normal=>cP P ob b Q st'|e=>Q e st') st
 | .cond x t e,Q,st=>match bL st.t x with
  | .bool b=>(b=true->cP P ob t Q (sc st x true))/\(b=false->cP P ob e Q (sc st x false))
  |_=>dK
 | .block id c,Q,st=>cP P ob c (fun e st'=>match e with| .exit j=>if j=id then Q .normal st' else Q (.exit j) st'|e=>Q e st') st
 | .loop c,Q,st=> ∃(jm:Nat->bb->Prop) (m:Nat) (wB:bb),nT ob st wB/\jm m wB/\
   ∀k s,jm k s->(∀i,iW (get i s.t))->(∀j cs,look j s.b=some cs->iB cs=true->jA cs)->cP P ob c (fun e aC=>match e with| .normal=> ∃bz oy,bz<k/\nT ob aC oy/\jm bz oy|e=>Q e aC) s
 | .exit id,Q,st=>Q (.exit id) st
 | .ret,Q,st=>Q .ret st
 | .pub s c,Q,st=>match uM st s with
  |some st'=>cP P ob c Q st'
  |none=>dK
 | .pubB s c,Q,st=>match wu st s with
  |some st'=>cP P ob c Q st'
  |none=>dK
 | .fg o7 s c,Q,st=>cP P ob c Q {st with t:=put s (zd o7 (get s st.t)) st.t}
 | .fd s c,Q,st=>Bi ob st s/\cP P ob c Q (zc st s)
 | .fz eD s c,Q,st=>match vz st eD s with
  |some st'=>cP P ob c Q st'
  |none=>dK
 | .no,_,_=>dK
def gJ(N:Nat)(bs:List (Nat×du)):C->Code->Bool
 | .skip,.skip=>true
 | .region gs,.region _ ops false=>j3 N bs ops.toList gs ops.toList
 | .drawn _ N' gs,.region _ ops true=>N'==N&&j3 N bs ops.toList gs ops.toList&&AV gs ops.toList&&y0 N gs
 | .drawnW _ N' gs,.region _ ops true=>N'==N&&j3 N bs ops.toList gs ops.toList&&AV gs ops.toList&&y0 N gs
 | .seq a b,.seq x y=>gJ N bs a x&&gJ N bs b y
 | .cond x t e,.cond o eB iX=>dS x o&&gJ N bs t eB&&gJ N bs e iX
 | .block id c,.block Cc h9=>id==Cc&&gJ N bs c h9
 | .loop c,.loop h9=>gJ N bs c h9
 | .exit id,.exit Cc=>id==Cc
 | .ret,.ret=>true
 | .pub _ c,h9=>gJ N bs c h9
 | .pubB _ c,h9=>gJ N bs c h9
 | .fg _ _ c,h9=>gJ N bs c h9
 | .fz _ _ c,h9=>gJ N bs c h9
 | .fd _ c,h9=>gJ N bs c h9
 | .no,_=>true
 |_,_=>false
theorem Ps{N:Nat}{bs:List (Nat×du)}{ops:List Oper}:∀{gs:List cL} {os:List Oper},j3 N bs ops gs os=true->gs.length=os.length
 |[],[],_=>rfl
 |[],_::_,h=>by simp[j3]at h
 |_::_,[],h=>by simp[j3]at h
 |g::gs,o::os,h=>by simp only[j3,bB]at h;simp[Ps h.2]
def L4(P:bW)(C:eH)(c:Code)(Q:Exit->bb->Prop)(st:bb):Prop:= ∀a w ν,ct C st a w ν->c.wp P (fun e cV w'=> ∃st' ν',Q e st'/\ct C st' cV w' ν') a w
theorem qD{P:bW}(hm:P.follows .mixedOrders=true){bs:List (Nat×du)}(aI:fS P bs=true){X:eH}:∀(c:C) (code:Code) (Q:Exit->bb->Prop) (st:bb),gJ X.N bs c code=true->cP P X.ob c Q st->L4 P X code Q st
 | .skip,code,Q,st,aj,he=>by
  cases code<;>simp only[gJ]at aj<;>try cases aj
  intro a w ν hr;exact wp_skip ⟨st,ν,he,hr⟩
 | .region gs,code,Q,st,aj,he=>by
  cases code<;>try(simp[gJ]at aj;done)
  rename_i id ops draw;cases draw<;>simp only[gJ]at aj
  ·intro a w ν hr;refine wp_region ?_;have aE:gs.length=ops.size:=by simpa using Ps aj
   rw[List.range_eq_range',<-aE];exact Ox aI (K:=Q .normal) (fun st' cV w' ν' I J=>⟨st',ν',I,J⟩) gs ops.toList 0 Ψ aj st a w ν he hr
  ·cases aj
 | .drawn q N gs,code,Q,st,aj,he=>by
  cases code<;>try(simp[gJ]at aj;done)
  rename_i id ops draw;cases draw<;>simp only[gJ]at aj
  ·cases aj
  ·simp only[bB,dO]at aj;obtain⟨⟨⟨rfl,I⟩,J⟩,av⟩:=aj;intro a w ν hr;exact Ow hm aI I J av (nw:=[]) (K:=Q .normal) (fun st' cV w' ν' I J=>⟨st',ν',I,J⟩) Ψ he hr
 | .drawnW nw N gs,code,Q,st,aj,he=>by
  cases code<;>try(simp[gJ]at aj;done)
  rename_i id ops draw;cases draw<;>simp only[gJ]at aj
  ·cases aj
  ·simp only[bB,dO]at aj;obtain⟨⟨⟨rfl,I⟩,J⟩,av⟩:=aj;intro a w ν hr;exact Ow hm aI I J av (nw:=p2 nw st.o) (K:=Q .normal) (fun st' cV w' ν' I J=>⟨st',ν',I,J⟩) ac4 he hr
 | .seq x y,code,Q,st,aj,he=>by
  cases code<;>try(simp[gJ]at aj;done)
  rename_i sI k9;simp only[gJ,bB]at aj;intro a w ν hr;refine wp_seq ?_;have I:=qD hm aI x sI _ st aj.1 he a w ν hr;refine wp_mono I fun e cV w' bK=>?_;obtain⟨st',ν',bG,dv⟩:=bK;cases e with
  |normal=>exact qD hm aI y k9 Q st' aj.2 bG cV w' ν' dv
  |_=>exact⟨st',ν',bG,dv⟩
 | .cond x t e,code,Q,st,aj,he=>by
  cases code<;>try(simp[gJ]at aj;done)
  rename_i o Wk ce;simp only[gJ,bB]at aj;intro a w ν hr;simp only[cP]at he;have ad:=dT hr aj.1.1;split at he
  ·rename_i b af;rw[af]at ad;simp only[aR]at ad;have BY:ct X (sc st x b) a w ν:=by
    unfold sc;split
    ·exact KL hr (by simpa[bL]using af)
    ·exact hr
   refine wp_cond ad ?_;cases b
   ·exact qD hm aI e ce Q _ aj.2 (he.2 rfl) a w ν BY
   ·exact qD hm aI t Wk Q _ aj.1.2 (he.1 rfl) a w ν BY
  ·exact he.elim
 | .block id c,code,Q,st,aj,he=>by
  cases code<;>try(simp[gJ]at aj;done)
  rename_i Cc h9;simp only[gJ,bB,dO]at aj;obtain⟨rfl,aj⟩:=aj;intro a w ν hr;refine wp_block ?_;refine wp_mono (qD hm aI c h9 _ st aj he a w ν hr) fun e cV w' bK=>?_;obtain⟨st',ν',bG,dv⟩:=bK;cases e with
  |exit j=>
   simp only[Exit.inBlock]at bG⊢;by_cases al:j=id
   ·rw[bN al]at bG⊢;exact⟨st',ν',bG,dv⟩
   ·rw[bf al]at bG⊢;exact⟨st',ν',bG,dv⟩
  |_=>exact⟨st',ν',bG,dv⟩
 | .loop c,code,Q,st,aj,he=>by
  cases code<;>try(simp[gJ]at aj;done)
  rename_i h9;simp only[gJ]at aj;intro a w ν hr;simp only[cP]at he;obtain⟨jm,m,wB,hw,aw,rU⟩:=he;refine wp_loop_ghost (fun k a w=> ∃s ν,jm k s/\ct X s a w ν) m ⟨wB,_,aw,hr.weaker hw⟩ ?_;intro k a w tZ;obtain⟨s,ν,ao,xQ⟩:=tZ;have I:=rU k s ao (fun i=>Ts (xQ.slot i)) (fun j cs al=>by obtain⟨bl,us,el,_,_,_,_,g5⟩:=xQ.good.box j cs al;exact Tf g5);refine wp_mono (qD hm aI c h9 _ s aj I a w ν xQ) fun e cV w' bK=>?_;obtain⟨st',ν',bG,dv⟩:=bK;cases e with
  |normal=>obtain⟨bz,oy,aq,aU,bR⟩:=bG;exact⟨bz,aq,oy,_,bR,dv.weaker aU⟩
  |_=>exact⟨st',ν',bG,dv⟩
 | .exit id,code,Q,st,aj,he=>by
  cases code<;>try(simp[gJ]at aj;done)
  rename_i Cc;simp only[gJ,dO]at aj;subst aj;intro a w ν hr;exact wp_exit ⟨st,ν,he,hr⟩
 | .ret,code,Q,st,aj,he=>by
  cases code<;>try(simp[gJ]at aj;done)
  intro a w ν hr;exact wp_ret ⟨st,ν,he,hr⟩
 | .pub s c,code,Q,st,aj,he=>by
  simp only[gJ]at aj;simp only[cP]at he;split at he
  ·rename_i st' ao;intro a w ν hr;obtain⟨ν',I⟩:=aev hr ao;exact qD hm aI c code Q st' aj he a w ν' I
  ·exact he.elim
 | .pubB s c,code,Q,st,aj,he=>by
  simp only[gJ]at aj;simp only[cP]at he;split at he
  ·rename_i st' ao;intro a w ν hr;obtain⟨ν',I⟩:=aeu hr ao;exact qD hm aI c code Q st' aj he a w ν' I
  ·exact he.elim
 | .fg o7 s c,code,Q,st,aj,he=>by simp only[gJ]at aj;simp only[cP]at he;intro a w ν hr;exact qD hm aI c code Q _ aj he a w ν (KN hr (Yy (hr.slot s)))
 | .fd s c,code,Q,st,aj,he=>by simp only[gJ]at aj;simp only[cP]at he;intro a w ν hr;obtain⟨ν',I⟩:=Yx hr he.1;exact qD hm aI c code Q _ aj he.2 a w ν' I
 | .fz eD s c,code,Q,st,aj,he=>by
  simp only[gJ]at aj;simp only[cP]at he;intro a w ν hr;split at he
  ·rename_i st' eZ;obtain⟨ν',I⟩:=YO hr eZ;exact qD hm aI c code Q st' aj he a w ν' I
  ·exact he.elim
 | .no,code,Q,st,aj,he=>by simp only[cP]at he
inductive cp where
 |tmp (i:Nat)
 |cell (i:Nat) (agg:Bool) (sz:Nat)
def bp(st:bb):cp->be (Prop×ag)
 | .tmp i=>some (True,get i st.t)
 | .cell i agg sz=>mw st.b st.e agg sz (get i st.t)
def bn(st:bb):List cp->be (Prop×List ag)
 |[]=>some (True,[])
 |r::e1=>match bp st r,bn st e1 with
  |some (c,p),some (h9,bY)=>some (c/\h9,p::bY)
  |_,_=>none
def p8(bs:List (Nat×du)):List cp->List ResultVar->Bool
 |[],[]=>true
 | .tmp i::e1,.tmp j::os=>i==j&&p8 bs e1 os
 | .cell i agg sz::e1,.cell j t::os=>i==j&&(match dE bs t with|some f=>f.size==sz&&f.kind.isAgg==agg|none=>false)&&p8 bs e1 os
 |_,_=>false
def bk:List ag->ag
 |[p]=>p
 |bY=>.tuple bY
def Gq(tmps:Array Value):ResultVar->Sem Value
 | .tmp t=>pure (tmps.getD t undef)
 | .cell x t=>do loadVar t (<-asAddr (tmps.getD x undef))
theorem aff(fn:Func)(tmps:Array Value):results fn tmps=(do let vs<-fn.results.mapM (Gq tmps);pure (if h:vs.size=1 then vs[0]else .tuple vs)):=by unfold results;congr 2
theorem KZ{P:bW}{bs:List (Nat×du)}(aI:fS P bs=true){X:eH}{st:bb}{a:Act}{w:World}{ν:aT}(hr:ct X st a w ν):
  ∀(e1:List cp) (os:List ResultVar) (c:Prop) (bY:List ag),p8 bs e1 os=true->bn st e1=some (c,bY)->c->
  ∃vs,(os.mapM (Gq a.tmps)).run P w= .ok vs w/\cD w ν bY vs
 |[],[],c,bY,_,he,_=>by simp only[bn]at he;cases he;exact⟨[],Ψ,by simp[cD]⟩
 |[],_::_,_,_,aj,_,_=>by simp[p8]at aj
 | .tmp _::_,[],_,_,aj,_,_=>by simp[p8]at aj
 | .cell _ _ _::_,[],_,_,aj,_,_=>by simp[p8]at aj
 |r::e1,o::os,c,bY,aj,he,aD=>by
  simp only[bn]at he;split at he
  ·rename_i cJ p c2 SC I J;cases he;cases r with
   |tmp i=>
    cases o with
    |cell _ _=>simp[p8]at aj
    |tmp j=>simp only[p8,bB,dO]at aj;obtain⟨rfl,aj⟩:=aj;simp only[bp]at I;cases I;obtain⟨vs,g1,g2⟩:=KZ aI hr e1 os c2 SC aj J aD.2;refine⟨a.tmps.getD i undef::vs,?_,by simp only[cD];exact⟨_,_,rfl,hr.slot i,g2⟩⟩;simp only[List.mapM_cons,e2,Gq,fC,e8,g1]
   |cell i agg sz=>
    cases o with
    |tmp _=>simp[p8]at aj
    |cell j t=>
     simp only[p8,bB,dO]at aj;obtain⟨⟨rfl,av⟩,aj⟩:=aj;split at av
     ·rename_i f aM;simp only[bB,dO]at av;obtain⟨rfl,rfl⟩:=av;simp only[bp]at I;obtain⟨vs,g1,g2⟩:=KZ aI hr e1 os c2 SC aj J aD.2;obtain⟨v,f1,f2⟩:=Fy aI hr.good aM (hr.slot i) I aD.1;have BT:∃lB,a.tmps.getD i undef= .pointer (some lB):=by
       have ao:=hr.slot i;unfold mw at I;split at I
       ·rename_i dj k n kR mK aa;rw[aa]at ao;simp only[aR]at ao;obtain⟨⟨b,o,e⟩,_⟩:=ao;exact⟨_,e⟩
       ·rename_i k off aa;rw[aa]at ao;simp only[aR]at ao;obtain⟨b,_,e⟩:=ao;exact⟨_,e⟩
       ·rename_i q aa;rw[aa]at ao;simp only[aR]at ao;obtain⟨b,off,u,e,_⟩:=ao;exact⟨_,e⟩
       ·cases I
      obtain⟨lB,PH⟩:=BT;rw[PH]at f1;simp only[Instr.loadAt,Instr.sureAddr,e2,fC,e8]at f1;refine⟨v::vs,?_,by simp only[cD];exact⟨_,_,rfl,f2,g2⟩⟩;have ZP:(asAddr (.pointer (some lB)):Sem Addr).run P w= .ok lB w:=rfl;simp only[List.mapM_cons,e2,Gq,fC,e8,g1,PH,ZP,f1]
     ·cases av
  ·cases he
theorem CW{w:World}{ν:aT}:∀{bY:List ag} {vs:List Value},cD w ν bY vs->vs.length=bY.length
 |[],vs,h=>by simp only[cD]at h;subst h;rfl
 |p::bY,vs,h=>by simp only[cD]at h;obtain⟨u,bF,rfl,_,J⟩:=h;simp[CW J]
def ki:Nat->List ag->List (Nat×ag)
 |_,[]=>[]
 |i,p::bY=>(i,p)::ki (i+1) bY
theorem Ei:∀(bY:List ag) (i j:Nat),get j (ki i bY)=if i<=j/\j<i+bY.length then bY.getD (j-i) .junk else .junk
 |[],i,j=>by simp[ki,get]
 |p::bY,i,j=>by
  simp only[ki,get];by_cases h:i=j
  ·subst h;simp
  ·rw[bf h,Ei bY (i+1) j];by_cases J:i<=j/\j<i+(p::bY).length
   ·rw[bN J,bN (by simp at J⊢;omega)];have:j-i=(j-(i+1))+1:=Ω
    rw[this];simp
   ·rw[bf J,bf (by simp at J⊢;omega)]
def fB{α:Type}(aC:dM):List (aJ×α)->Prop
 |[]=>True
 |(k,_)::r=>ah aC k/\fB aC r
theorem Ci{α:Type}{aC:dM}:∀{l:List (aJ×α)},fB aC l->∀k,(look k l).isSome->ah aC k
 |[],_,k,h=>by simp[look]at h
 |(i,x)::r,aa,k,h=>by
  simp only[fB]at aa;simp only[look]at h;split at h
  ·rename_i e;subst e;exact aa.1
  ·exact Ci aa.2 k h
def ck(e1:List cp)(s:dM)(Q:ag->dM->Prop)(e:Exit)(st:bb):Prop:=
 (e= .ret\/e= .normal)/\match bn st e1 with
  |some (c,bY)=>c/\∃aC,fB aC s.b/\fB aC s.e/\oA (ah aC) aC.b st.b/\oB (ah aC) aC.e st.e/\js aC/\ak (ah aC) (dr (bk bY))/\Q (dr (bk bY)) aC
  |none=>dK
theorem bT.ofW{P:bW}{bs:List (Nat×du)}(aI:fS P bs=true){f:FuncId}{fn:Func}(aM:P.funcs[f]? =some fn){code:Code}(af:fn.body=some code)(hM:(fn.name== "runtime.NumGoroutine")=false){e1:List cp}(xQ:p8 bs e1 fn.results.toList=true)
  {args:List ag} (aE:args.length<=fn.ntmps) {s:dM} (pT:js s) {Q:ag->dM->Prop} (he:∀X:eH,X.N=fn.ntmps->X.ob=fY s->X.ex=[]->(∀b o,X.ν0.A b o->b<X.w0.heap.size)->j1 args->(∀j cs,look j s.b=some cs->iB cs=true->jA cs)->L4 P X code (ck e1 s Q) ⟨ki 0 args,s.b,s.e,0,fY s⟩):bT P f args s Q:=by
 intro w ν vs gl aO ad hr;refine .inl ⟨⟨fn,aM,by simp[af],hM⟩,?_⟩;have o4:=CW hr;have gh:vs.size=args.length:=by simpa using o4
 let X:eH:=⟨w,ν,gE ν s,fn.ntmps,fY s,gl,[]⟩
 have od:∀k,fresh 0 (fY s) k->ν.bx k=none/\ν.ow k=none/\∀j b,¬ν.tr k j b:=by
  intro k aa;cases k with
  |loc m=>exact⟨(ad _).1 (pT.1 m),(ad _).2.1 (pT.2 m),(ad _).2.2⟩
  |obj m=>
   simp only[fresh,true_and]at aa;refine⟨?_,?_,(ad _).2.2⟩
   ·refine(ad _).1 ?_;cases h:look (.obj m) s.b with
    |none=>rfl
    |some x=>exact absurd (zP (.inl (by simp[h]))) aa
   ·refine(ad _).2.1 ?_;cases h:look (.obj m) s.e with
    |none=>rfl
    |some x=>exact absurd (zP (.inr (by simp[h]))) aa
 have lO:∀m,(ν.bx (.obj m)≠none\/ν.ow (.obj m)≠none)-> .obj m∈fY s:=by
  intro m hm;refine Classical.byContradiction fun aD=>?_;obtain⟨I,J,_⟩:=od (.obj m) ⟨trivial,aD⟩;rcases hm with hm|hm
  ·exact hm I
  ·exact hm J
 have pR:ct X ⟨ki 0 args,s.b,s.e,0,fY s⟩ {tmps:=vs++Array.replicate (fn.ntmps-vs.size) undef,defers:=[]} w ν:=by
  refine⟨⟨aO.alt,fun k cs aa=>?_,aO.inj,fun g o eU=>?_,aO.oinj,aO.obx,aO.one,aO.otr⟩,⟨rfl,rfl,rfl,da _,fun _ _ _=>rfl,fun b o h=>⟨h,rfl⟩,fun b o h=>.inl h,fun n b h=>h,fun n b h=>lO n (.inl (by rw[h];simp)),fun m n u h=>⟨n,u,h,.inl ⟨rfl,rfl⟩⟩,fun m n u h=>lO m (.inr (by rw[h];simp)),fun k j _ _ b h=>absurd h ((ad k).2.2 j b),fun k j b h=>absurd h ((ad k).2.2 j b),fun k j b h=>absurd h ((ad k).2.2 j b),fun _ _ _=>rfl,fun j n u b aq _=>(by rw[(ad _).2.1 (pT.2 j)]at aq;cases aq)⟩,rfl,?_,fun i=>?_,od,fun _ ad=>(by cases ad),fun m hm aM=>aM.2 hm⟩
  ·obtain⟨bl,us,el,g1,g2,g3⟩:=aO.box k cs aa;exact⟨bl,us,el,g1,.inl g2,g3⟩
  ·obtain⟨v,us,g1,g2,g3,g4⟩:=aO.own g o eU;exact⟨v,us,g1,g2,fun bl er=>⟨.inl (g3 bl er).1,(g3 bl er).2⟩,g4⟩
  ·show(vs++Array.replicate (fn.ntmps-vs.size) undef).size=fn.ntmps;simp;omega
  ·rw[Ei];by_cases aw:i<args.length
   ·rw[bN Ω];have ui:args[i]? =some args[i]:=bO aw;obtain⟨v,aq,aU⟩:=Gi i hr ui;have aS:(vs++Array.replicate (fn.ntmps-vs.size) undef).getD i undef=v:=by
     have DV:vs[i]? =some v:=by simpa using aq
     rw[Array.getD_eq_getD_getElem?,Array.getElem?_append_left Ω,DV];rfl
    show aR w ν _ ((vs++Array.replicate (fn.ntmps-vs.size) undef).getD i undef);rw[aS];simpa[List.getD,ui]using aU
   ·rw[bf Ω];simp[aR]
 have abx:=he X rfl rfl rfl aO.alt (Tq hr) (fun j cs al=>by obtain⟨bl,us,el,_,_,_,_,g5⟩:=aO.box j cs al;exact Tf g5) _ w ν pR;refine calls_of_wp aM af (wp_mono abx fun e cV w' bK=>?_);obtain⟨st',ν',⟨lM,bG⟩,dv⟩:=bK;cases xO:bn st' e1 with
 |none=>simp[xO]at bG
 |some x=>
  obtain⟨h9,bY⟩:=x;simp only[xO]at bG;obtain⟨mP,aC,kb,ke,b9,cx,dp,c6,cH⟩:=bG;obtain⟨wz,g1,g2⟩:=KZ aI dv e1 fn.results.toList h9 bY xQ xO mP;have I9:=CW g2;have hK:cV.defers=[]/\∃v,(results fn cV.tmps).run P w'= .ok v w'/\(fun(e:Ending) w'=> ∃v r aC ν',e= .returned v/\Q r aC/\aR w' ν' r v/\Good (fun bl=>gE ν s bl\/w.heap.size<=bl) w' ν' aC.b aC.e/\sN ν' aC/\js aC/\sC ⟨w,ν,gE ν s,0,fY s,gl,[]⟩ w' ν') (.returned v) w':=by
   refine⟨dv.defers,?_⟩;have hc:(results fn cV.tmps).run P w'= .ok (if h:wz.toArray.size=1 then wz.toArray[0]else .tuple wz.toArray) w':=by rw[aff];simp only[e2,Array.mapM_eq_mapM_toList,Sem.run_map,g1,e8,fC]
   refine⟨_,hc,_,dr (bk bY),aC,ν'.cut (ah aC),rfl,cH,?_,dv.good.cut b9 cx (fun bl h _=>h),?_,dp,?_⟩
   ·have lk:aR w' ν' (bk bY) (if h:wz.toArray.size=1 then wz.toArray[0]else .tuple wz.toArray):=by
     match bY,wz,g2,I9 with
     |[p],[v],g2,_=>simp only[cD]at g2;obtain⟨u,bF,aq,aU,_⟩:=g2;cases aq;simpa[bk]using aU
     |[],[],g2,_=>simp[bk,aR,cD]
     |p::hv::bY,v::v2::wz,g2,_=>rw[dif_neg Ψ];simp only[bk,aR];exact⟨_,rfl,by simpa using g2⟩
     |[_],[],_,h=>simp at h
     |[],_::_,_,h=>simp at h
     |[_],_::_::_,_,h=>simp at h
     |_::_::_,[],_,h=>simp at h
     |_::_::_,[_],_,h=>simp at h
    exact sd (nS.cut _ w' ν') _ _ c6 (yk _ _ lk)
   ·intro k;refine⟨?_,?_,?_⟩;rotate_left 2
    ·rintro j b ⟨ao,af⟩;obtain⟨t1,t2⟩:=dv.fr.trn k j b af;rcases ao with ao|ao<;>obtain⟨x,pU⟩:=fv.1 ao
     ·obtain⟨bl,bF,el,aq,_⟩:=dv.good.box k x (b9 k x pU).1;rw[t1]at aq;cases aq
     ·obtain⟨v',bF,aq,_⟩:=dv.good.own k x (cx k x pU).1;rw[t2]at aq;cases aq
    ·intro aa;by_cases ao:ah aC k
     ·rw[aT.cut_bx ao];rcases ao with ao|ao
      ·rw[aa]at ao;cases ao
      ·obtain⟨x,pU⟩:=fv.1 ao;obtain⟨v',bF,aq,_⟩:=dv.good.own k x (cx k x pU).1;rcases dv.good.one k with I|I
       ·exact I
       ·rw[I]at aq;cases aq
     ·exact(aT.cut_no ao).1
    ·intro aa;by_cases ao:ah aC k
     ·rw[aT.cut_ow ao];rcases ao with ao|ao
      ·obtain⟨x,pU⟩:=fv.1 ao;obtain⟨bl,bF,el,aq,_⟩:=dv.good.box k x (b9 k x pU).1;rcases dv.good.one k with I|I
       ·rw[I]at aq;cases aq
       ·exact I
      ·rw[aa]at ao;cases ao
     ·exact(aT.cut_no ao).2.1
   ·refine⟨dv.fr.os,dv.fr.tape,dv.fr.output,dv.fr.size,dv.fr.block,dv.fr.keep,dv.fr.fresh,fun n b h=>?_,fun n b h=>lO n (.inl (by rw[h];simp)),fun m n u h=>?_,fun m n u h=>lO m (.inr (by rw[h];simp)),fun k j bz e4 b I J=>dv.fr.trd k j bz e4 b I.2 J.2,fun k j b af=>dv.fr.trb k j b af.2,fun k j b af=>(by rw[aT.cut_bx af.1,aT.cut_ow af.1];exact dv.fr.trn k j b af.2),dv.fr.sh,fun j n u b aq aU=>dv.fr.nrow j n u b (aT.cut_someO aq).2 aU⟩
    ·have ao:ah aC (.obj n):=by
      cases aE:look (.obj n) s.b with
      |none=>rw[(ad _).1 aE]at h;cases h
      |some x=>exact Ci kb _ (by simp[aE])
     rw[aT.cut_bx ao];exact dv.fr.obj n b h
    ·have ao:ah aC (.obj m):=by
      cases aE:look (.obj m) s.e with
      |none=>rw[(ad _).2.1 aE]at h;cases h
      |some x=>exact Ci ke _ (by simp[aE])
     rw[aT.cut_ow ao];exact dv.fr.row m n u h
  rcases lM with rfl|rfl<;>exact hK
theorem bT.of{P:bW}(hm:P.follows .mixedOrders=true){bs:List (Nat×du)}(aI:fS P bs=true){f:FuncId}{fn:Func}(aM:P.funcs[f]? =some fn){code:Code}(af:fn.body=some code)(hM:(fn.name== "runtime.NumGoroutine")=false){c:C}(aD:gJ fn.ntmps bs c code=true){e1:List cp}(xQ:p8 bs e1 fn.results.toList=true)
  {args:List ag} (aE:args.length<=fn.ntmps) {s:dM} (pT:js s) {Q:ag->dM->Prop} (he:j1 args->(∀j cs,look j s.b=some cs->iB cs=true->jA cs)->cP P (fY s) c (ck e1 s Q) ⟨ki 0 args,s.b,s.e,0,fY s⟩):bT P f args s Q:=
 bT.ofW aI aM af hM xQ aE pT fun X ja o3 _ _ I J=>qD hm aI c code _ _ (by rw[ja];exact aD) (by rw[o3];exact he I J)
def cF(bs:List (Nat×du))(c:C)(e1:List cp)(acW:Nat)(fn:Func):Bool:=
 match fn.body with
 |some code=>gJ fn.ntmps bs c code&&p8 bs e1 fn.results.toList&& !(fn.name== "runtime.NumGoroutine")&&decide (acW<=fn.ntmps)
 |none=>false
theorem bT.mk{P:bW}(hm:P.follows .mixedOrders=true){bs:List (Nat×du)}(aI:fS P bs=true){f:FuncId}{fn:Func}(aM:P.funcs[f]? =some fn){c:C}{e1:List cp}{n:Nat}(ec:cF bs c e1 n fn=true)
  {args:List ag} (aE:args.length<=n) {s:dM} (pT:js s) {Q:ag->dM->Prop} (he:j1 args->(∀j cs,look j s.b=some cs->iB cs=true->jA cs)->cP P (fY s) c (ck e1 s Q) ⟨ki 0 args,s.b,s.e,0,fY s⟩):bT P f args s Q:=by
 unfold cF at ec;split at ec
 ·rename_i code af;simp only[bB,Bool.not_eq_true',ef]at ec;obtain⟨⟨⟨I,J⟩,av⟩,aV⟩:=ec;exact bT.of hm aI aM af av I J (Nat.le_trans aE aV) pT he
 ·cases ec
theorem wi:js ⟨[],[]⟩:=⟨fun _=>rfl,fun _=>rfl⟩
def b1(e1:List cp)(r:ag)(e:Exit)(st:bb):Prop:=
 (e= .ret\/e= .normal)/\match bn st e1 with
  |some (c,bY)=>c/\dr (bk bY)=r
  |none=>dK
theorem UX{e1:List cp}{r:ag}(hr:ak (fun _=>dK) r):b1 e1 r=ck e1 ⟨[],[]⟩ (fun dt aC=>dt=r/\aC=⟨[],[]⟩):=by
 funext e st;unfold b1 ck;apply propext;refine and_congr_right fun _=>?_;cases bn st e1 with
 |none=>exact Iff.rfl
 |some x=>
  obtain⟨c,bY⟩:=x;refine and_congr_right fun _=>?_;constructor
  ·intro h;refine⟨⟨[],[]⟩,trivial,trivial,fun k cs aa=>by simp[look]at aa,fun k cs aa=>by simp[look]at aa,wi,?_,h,rfl⟩;rw[h];exact uA (fun k aa=>aa.elim) r hr
  ·rintro⟨aC,_,_,_,_,_,_,h,_⟩;exact h
theorem cg.mk{P:bW}(hm:P.follows .mixedOrders=true){bs:List (Nat×du)}(aI:fS P bs=true){f:FuncId}{fn:Func}(aM:P.funcs[f]? =some fn){c:C}{e1:List cp}{n:Nat}(ec:cF bs c e1 n fn=true)
  {args:List ag} (aE:args.length<=n) {r:ag} (hr:ak (fun _=>dK) r) (he:j1 args->cP P [] c (b1 e1 r) ⟨ki 0 args,[],[],0,[]⟩):cg P f args r:=by
 refine bT.mk hm aI aM ec aE wi fun I _=>?_;rw[<-UX hr];exact he I
theorem GD{α:Type}{β:Type}:∀l:List (aJ×α),bu ([]:List (aJ×β)) l=l
 |[]=>rfl
 |(k,x)::r=>by simp[bu,look,GD r]
theorem bI.val{P:bW}{n:Nat}{args:List ag}{st:bb}{d:be Nat}{K:bb->Prop}{r:ag}(aa:ai (fun _=>dK) args)(aM:cg P n args r)(h:K {st with t:=e6 d r st.t}):bI P n args st d K:=by
 refine .inl ⟨⟨[],[]⟩,_,fun k cs aa=>by simp[look]at aa,fun k cs aa=>by simp[look]at aa,wi,ux (fun _ h=>h.elim) _ aa,aM,?_⟩;rintro dt aC ⟨rfl,rfl⟩;refine⟨⟨fun m h=>by simp[look]at h,fun m h=>by simp[look]at h⟩,?_⟩;have:after st ⟨[],[]⟩ ⟨[],[]⟩ d dt={st with t:=e6 d dt st.t}:=by simp[after,GD,fY]
 rw[this];exact h
@[reducible,simp] def ca(n:Int):cS:= .c (.int .i64 n)
@[reducible,simp] def ab(a b:Nat):cL:=⟨none,.s (.v a (.mov (.t b)))⟩
@[reducible,simp] def bm(a:Nat)(i:fD):cL:=⟨none,.s (.v a i)⟩
@[reducible,simp] def cd(i:dG):cL:=⟨none,.s i⟩
@[reducible,simp] def eg(a f:Nat)(l:List cS):cL:=⟨none,.call (some a) (.c (.func f [])) l⟩
@[reducible,simp] def cj(j:Nat)(w:Bool)(a b:Nat):cL:=⟨some (j,w),.s (.v a (.mov (.t b)))⟩
@[reducible,simp] def kF(j:Nat)(w:Bool)(a:Nat)(i:fD):cL:=⟨some (j,w),.s (.v a i)⟩
@[reducible,simp] def ys(j:Nat)(w:Bool)(i:dG):cL:=⟨some (j,w),.s i⟩
@[reducible,simp] def di(d s a b:Nat):cL:=bm d (.iaddr s (.t a) (.t b))
@[reducible,simp] def aW(d s a:Nat):cL:=bm d (.load false s (.t a))
@[reducible,simp] def bH(d s a:Nat):cL:=bm d (.load true s (.t a))
@[reducible,simp] def a6(d o s a:Nat):cL:=bm d (.faddr o false s (.t a))
@[reducible,simp] def hP(d o s a:Nat):cL:=bm d (.faddr o true s (.t a))
@[reducible,simp] def cC(d:Nat)(o:BinOp)(a b:Nat):cL:=bm d (.bin o false (.t a) (.t b))
@[reducible,simp] def a1(d:Nat)(o:BinOp)(a:Nat)(n:Int):cL:=bm d (.bin o false (.t a) (ca n))
@[reducible,simp] def cy(d a:Nat):cL:=bm d (.len (.t a))
@[reducible,simp] def eP(d a:Nat):cL:=bm d (.notB (.t a))
@[reducible,simp] def hx(d i a:Nat):cL:=bm d (.ext i (.t a))
@[reducible,simp] def c7(d a b:Nat):cL:=bm d (.pick (.t a) (.c (.bool true)) (.t b))
@[reducible,simp] def dq(d a b:Nat):cL:=bm d (.pick (.t a) (.t b) (.c (.bool false)))
@[reducible,simp] def cl(d:Nat)(b:Bool):cL:=bm d (.mov (.c (.bool b)))
@[reducible,simp] def cA(d:Nat)(n:Int):cL:=bm d (.mov (ca n))
@[reducible,simp] def bM(s a b:Nat):cL:=cd (.store s (.t a) (.t b))
@[reducible,simp] def aB(j:Nat)(w:Bool)(x:cL):cL:=⟨some (j,w),x.i⟩
@[reducible,simp] def ae(l:List cL)(c:C):C:= .seq (.region l) c
@[reducible,simp] def bt(n:Nat)(a b:C):C:= .cond (.t n) a b
@[reducible,simp] def LW(d a:Nat)(l:List cS):cL:=⟨none,.call (some d) (.t a) l⟩
@[reducible,simp] def cW(d f a:Nat):cL:=eg d f [.t a]
@[reducible,simp] def dJ(d f a b:Nat):cL:=eg d f [.t a,.t b]
@[reducible,simp] def gi:List ag:=[.int .i64 0,.int .i64 0,.str [],.slice 4 .nil []]
@[reducible,simp] def eA(a b:Nat):cL:=cd (.box a none (.t b))
@[reducible,simp] def jk(a:Nat)(l:List ag):cL:=cd (.alloc a none (.agg l))
@[reducible,simp] def ps(a n:Nat):cL:=bm a (.mov (.c (.slice n .nil [])))
@[reducible,simp] def kp(a b c d e:Nat):cL:=cd (.app a b c (.t d) (.t e))
@[reducible,simp] def ff(a b c:Nat)(l:List cS):cL:=cd (.bsl a b c l)
@[reducible,simp] def ko(a b:Nat):cL:=bm a (.nck (.t b))
@[reducible,simp] def k0(d s a:Nat)(n:Int):cL:=bm d (.iaddr s (.t a) (ca n))
@[reducible,simp] def pq(d:Nat)(l:List ag)(m:List (Nat×Nat×cS)):cL:=bm d (.build l m)
@[reducible,simp] def ir(a b c:Nat)(x:C):C:= .block 0 (.loop (ae [cC a .lss b c] (.seq (bt a .skip (.exit 0)) x)))
end
end Go.Pv
namespace Go.Proofs.YtlnndmgfngfeiaaGreatDoor
section
open Go Go.Pv
def Ha:C:=(ae [eA 1 0,jk 2 gi] (.seq (ae [a6 3 0 1 1,aW 4 1 3,a1 5 .neq 4 4] (bt 5 (ae [a6 6 0 1 1,aW 7 1 6,a6 8 1 1 1,aW 9 1 8,a6 10 2 1 1,aW 11 1 10,pq 12 gi [(0,1,(.t 7)),(1,1,(.t 9)),(2,1,(.t 11))],bM 4 2 12] .ret) .skip)) (.seq (.drawn true 25 [a6 13 3 1 1,aW 14 1 13,k0 15 4 14 0,bH 16 4 15,cW 17 75 16,a6 18 3 1 1,aW 19 1 18,k0 20 4 19 1,bH 21 4 20,cW 22 75 21,ff 23 4 40 [.t 17,.t 22],pq 24 gi [(0,1,(ca 4)),(3,1,(.t 23))],bM 4 2 24]) .ret)))
@[simp] def aeH:List cp:=[.cell 2 true 4]
def MH:C:=(ae [eA 1 0,cl 2 false] (ae [bH 3 4 1,eg 4 150 [.t 3,(ca 5000)],a1 5 .gtr 4 0,ab 2 5] .ret))
@[simp] def SL:List cp:=[.tmp 2]
def DE:C:=(ae [eA 2 0] (.seq (ae [a6 4 0 1 2,aW 5 1 4,a1 6 .eql 5 1] (bt 6 (.region [ab 7 1,a6 8 1 1 2,aW 9 1 8,LW 10 7 [.t 9]]) .skip)) (ae [a6 11 0 1 2,aW 12 1 11,a1 13 .eql 12 4] (bt 13 (ae [a6 14 3 1 2,aW 15 1 14,k0 16 4 15 0,bH 17 4 16,ab 18 1,dJ 19 79 17 18] (.region [a6 20 3 1 2,aW 21 1 20,k0 22 4 21 1,bH 23 4 22,ab 24 1,dJ 25 79 23 24])) .skip))))
@[simp] def F4:List cp:=[]
def Nn:C:=(ae [eA 2 0,eA 3 1,jk 4 gi] (ae [bH 5 4 2,bH 6 4 3,ff 7 4 40 [.t 5,.t 6],pq 8 gi [(0,1,(ca 4)),(3,1,(.t 7))],bM 4 4 8] .ret))
@[simp] def SZ:List cp:=[.cell 4 true 4]
def Nq:C:=(ae [jk 2 gi] (ae [ab 3 0,pq 4 gi [(0,1,(ca 1)),(1,1,(.t 3))],bM 4 2 4] .ret))
@[simp] def S1:List cp:=[.cell 2 true 4]
def MU:C:=(ae [eA 2 0,cA 4 0] (.seq (ae [ab 7 1,a1 8 .lss 7 1] (bt 8 (ae [cA 4 (-1)] .ret) .skip)) (.seq (ae [a6 9 0 1 2,aW 10 1 9,a1 11 .neq 10 4] (bt 11 (.seq (ae [a6 12 3 1 2,aW 13 1 12,cy 14 13,a1 15 .neq 14 0] (bt 15 (ae [cA 4 (-1)] .ret) .skip)) (.seq (ae [a6 16 0 1 2,aW 17 1 16] (.block 0 (ae [a1 19 .eql 17 0,ab 18 19] (bt 18 (ae [a6 20 1 1 2,aW 21 1 20,a1 22 .neq 21 0,ab 23 22,aB 23 false (a6 24 2 1 2),aB 23 false (aW 25 1 24),kF 23 false 26 (.bin .neq false (.t 25) (.c (.str []))),c7 27 23 26] (bt 27 (ae [cA 4 (-1)] .ret) .skip)) (ae [a1 29 .eql 17 1,ab 28 29] (bt 28 (ae [a6 30 1 1 2,aW 31 1 30,a1 32 .lss 31 0,ab 33 32,aB 33 false (a6 34 1 1 2),aB 33 false (aW 35 1 34),aB 33 false (a1 36 .gtr 35 100000),c7 37 33 36,ab 38 37,aB 38 false (a6 39 2 1 2),aB 38 false (aW 40 1 39),kF 38 false 41 (.bin .neq false (.t 40) (.c (.str []))),c7 42 38 41] (bt 42 (ae [cA 4 (-1)] .ret) .skip)) (ae [a1 44 .eql 17 2,ab 43 44] (bt 43 (ae [a6 45 1 1 2,aW 46 1 45,a1 47 .neq 46 0,ab 48 47,aB 48 false (a6 49 2 1 2),aB 48 false (aW 50 1 49),aB 48 false (cW 51 170 50),aB 48 false (eP 52 51),c7 53 48 52] (bt 53 (ae [cA 4 (-1)] .ret) .skip)) (ae [a1 55 .eql 17 3,ab 54 55] (bt 54 (ae [a6 56 1 1 2,aW 57 1 56,a1 58 .lss 57 (-1000000000),ab 59 58,aB 59 false (a6 60 1 1 2),aB 59 false (aW 61 1 60),aB 59 false (a1 62 .gtr 61 1000000000),c7 63 59 62,ab 64 63,aB 64 false (a6 65 2 1 2),aB 64 false (aW 66 1 65),kF 64 false 67 (.bin .neq false (.t 66) (.c (.str []))),c7 68 64 67] (bt 68 (ae [cA 4 (-1)] .ret) .skip)) (ae [cA 4 (-1)] .ret))))))))))) (ae [cA 4 1] .ret))) .skip)) (.seq (ae [a6 69 1 1 2,aW 70 1 69,a1 71 .neq 70 0,ab 72 71,aB 72 false (a6 73 2 1 2),aB 72 false (aW 74 1 73),kF 72 false 75 (.bin .neq false (.t 74) (.c (.str []))),c7 76 72 75,ab 77 76,aB 77 false (a6 78 3 1 2),aB 77 false (aW 79 1 78),aB 77 false (cy 80 79),aB 77 false (a1 81 .neq 80 2),c7 82 77 81] (bt 82 (ae [cA 4 (-1)] .ret) .skip)) (ae [a6 83 3 1 2,aW 84 1 83,k0 85 4 84 0,bH 86 4 85,ab 87 1,a1 88 .sub 87 1,dJ 89 150 86 88,ab 5 89] (.seq (ae [ab 90 5,a1 91 .lss 90 0] (bt 91 (ae [cA 4 (-1)] .ret) .skip)) (ae [a6 92 3 1 2,aW 93 1 92,k0 94 4 93 1,bH 95 4 94,ab 96 1,a1 97 .sub 96 1,ab 98 5,cC 99 .sub 97 98,dJ 100 150 95 99,ab 6 100] (.seq (ae [ab 101 6,a1 102 .lss 101 0] (bt 102 (ae [cA 4 (-1)] .ret) .skip)) (ae [ab 103 5,bm 104 (.bin .add false (ca 1) (.t 103)),ab 105 6,cC 106 .add 104 105,ab 4 106] .ret)))))))))
@[simp] def F5:List cp:=[.tmp 4]
def MX:C:=(ae [ps 2 1] (ae [cd (.bslm 5 (some 306) 1 3 []),ab 3 5] (.seq (ae [ab 6 0,cd (.range 7 none (.t 6))] (.block 0 (.loop (ae [⟨none,.next 8 (.t 7)⟩,hx 9 0 8] (.seq (bt 9 .skip (.exit 0)) (.block 1 (ae [bm 10 (.ment (.t 7)),hx 11 0 10,ab 4 11] (.region [ab 12 3,ab 13 4,ff 14 1 3 [.t 13],cd (.appm 15 none 1 3 (.t 12) (.t 14)),ab 3 15])))))))) (ae [ab 16 3,cW 17 213 16] (.seq (.pub 3 (.region [ab 18 3,ab 2 18])) .ret)))))
@[simp] def SQ:List cp:=[.tmp 2]
def ME:C:=(ae [cl 2 false] (.seq (ae [ab 4 0,bm 5 (.slen (.t 4)),a1 6 .lss 5 1,ab 7 6,cj 7 false 8 0,aB 7 false (bm 9 (.slen (.t 8))),aB 7 false (a1 10 .gtr 9 12),c7 11 7 10,ab 12 11,cj 12 false 13 0,aB 12 false (bm 14 (.sidx (.t 13) (ca 0))),aB 12 false (bm 15 (.bin .lss false (.t 14) (.c (.int .u8 97)))),c7 16 12 15,ab 17 16,cj 17 false 18 0,aB 17 false (bm 19 (.sidx (.t 18) (ca 0))),aB 17 false (bm 20 (.bin .gtr false (.t 19) (.c (.int .u8 122)))),c7 21 17 20] (bt 21 (ae [cl 2 false] .ret) .skip)) (.seq (ae [cA 3 1] (.block 0 (.loop (.seq (ae [ab 22 3,ab 23 0,bm 24 (.slen (.t 23)),cC 25 .lss 22 24] (bt 25 .skip (.exit 0))) (.seq (.block 1 (ae [ab 28 0,ab 29 3,bm 30 (.sidx (.t 28) (.t 29)),bm 31 (.bin .geq false (.t 30) (.c (.int .u8 97))),ab 32 31,cj 32 true 33 0,cj 32 true 34 3,aB 32 true (bm 35 (.sidx (.t 33) (.t 34))),aB 32 true (bm 36 (.bin .leq false (.t 35) (.c (.int .u8 122)))),dq 37 32 36,ab 38 37,cj 38 false 39 0,cj 38 false 40 3,aB 38 false (bm 41 (.sidx (.t 39) (.t 40))),aB 38 false (bm 42 (.bin .geq false (.t 41) (.c (.int .u8 48)))),cj 38 false 43 42,cj 43 true 44 0,cj 43 true 45 3,aB 43 true (bm 46 (.sidx (.t 44) (.t 45))),aB 43 true (bm 47 (.bin .leq false (.t 46) (.c (.int .u8 57)))),aB 38 false (dq 48 43 47),c7 49 38 48,ab 50 49,cj 50 false 51 0,cj 50 false 52 3,aB 50 false (bm 53 (.sidx (.t 51) (.t 52))),aB 50 false (bm 54 (.bin .eql false (.t 53) (.c (.int .u8 45)))),c7 55 50 54,eP 56 55] (bt 56 (ae [cl 2 false] .ret) .skip))) (.region [ab 26 3,a1 27 .add 26 1,ab 3 27])))))) (ae [cl 2 true] .ret))))
@[simp] def F2:List cp:=[.tmp 2]
def MY:C:=(ae [cl 2 false] (.seq (ae [ab 5 0,cy 6 5,cA 7 0] (ir 8 7 6 (.seq (.block 1 (ae [di 9 4 5 7,bH 10 4 9,jk 4 gi,bM 4 4 10] (ae [bH 11 4 4,cW 12 77 11,eP 13 12] (bt 13 (ae [cl 2 false] .ret) .skip)))) (.region [a1 14 .add 7 1,ab 7 14])))) (ae [cl 2 true] .ret)))
@[simp] def aeR:List cp:=[.tmp 2]
def bs:List (Nat×du):=[
 (3,⟨1,8,.int .i64,.int .i64 0⟩),
 (9,⟨1,16,.str,.str []⟩),
 (36,⟨1,24,.slice 120,.slice 5 .nil []⟩),
 (38,⟨1,24,.slice 40,.slice 4 .nil []⟩),
 (40,⟨4,56,.struct [(0,3),(1,3),(2,9),(3,38)],.agg [.int .i64 0,.int .i64 0,.str [],.slice 4 .nil []]⟩),
 (120,⟨5,64,.struct [(0,3),(1,40)],.agg [.int .i64 0,.int .i64 0,.int .i64 0,.str [],.slice 4 .nil []]⟩),
 (136,⟨1,24,.slice 3,.slice 1 .nil []⟩),
 (189,⟨1,8,.other,.junk⟩),
 (199,⟨1,8,.map 3 4,.junk⟩),
 (209,⟨1,8,.int .u64,.int .u64 0⟩)]
theorem mixed:aP.follows .mixedOrders=true:=by kernel_rfl
theorem bJ{bs:List (Nat×du)}(aI:fS aP bs=true){f:FuncId}{fn:Func}(aM:aP.funcs[f]? =some fn){c:C}{e1:List cp}{n:Nat}(ec:cF bs c e1 n fn=true){args:List ag}{r:ag}(he:j1 args->cP aP [] c (b1 e1 r) ⟨ki 0 args,[],[],0,[]⟩)(aE:args.length<=n:=by simp)(hr:ak (fun _=>dK) r:=by simp[ak]):cg aP f args r:=cg.mk mixed aI aM ec aE hr he
theorem q5:fS aP bs=true:=by kernel_rfl
theorem R8:cF bs Ha aeH 1 Tryz.f75=true:=by kernel_rfl
theorem OG:aP.funcs[(75:Nat)]? =some Tryz.f75:=Tryz.func75
theorem ads:cF bs MH SL 1 Tryz.f77=true:=by kernel_rfl
theorem XD:aP.funcs[(77:Nat)]? =some Tryz.f77:=Tryz.func77
theorem Ki:cF bs DE F4 2 Tryz.f79=true:=by kernel_rfl
theorem HY:aP.funcs[(79:Nat)]? =some Tryz.f79:=Tryz.func79
theorem ad5:cF bs Nn SZ 2 Tryz.f141=true:=by kernel_rfl
theorem Yg:aP.funcs[(141:Nat)]? =some Tryz.f141:=Tryz.func141
theorem ad7:cF bs Nq S1 1 Tryz.f142=true:=by kernel_rfl
theorem Yi:aP.funcs[(142:Nat)]? =some Tryz.f142:=Tryz.func142
theorem adF:cF bs MU F5 2 Tryz.f150=true:=by kernel_rfl
theorem XQ:aP.funcs[(150:Nat)]? =some Tryz.f150:=Tryz.func150
theorem adI:cF bs MX SQ 1 Tryz.f160=true:=by kernel_rfl
theorem XT:aP.funcs[(160:Nat)]? =some Tryz.f160:=Tryz.func160
theorem adp:cF bs ME F2 1 Tryz.f170=true:=by kernel_rfl
theorem XA:aP.funcs[(170:Nat)]? =some Tryz.f170:=Tryz.func170
theorem adJ:cF bs MY aeR 1 Tryz.f183=true:=by kernel_rfl
theorem XU:aP.funcs[(183:Nat)]? =some Tryz.f183:=Tryz.func183
end
end Go.Proofs.YtlnndmgfngfeiaaGreatDoor
namespace Go.Pv
section
open Go Go.RowKit
theorem gd{α:Type}{l:List α}{i:Nat}(h:i<l.length):∃b,l[i]? =some b/\∀h,(l[i]'h)=b:=⟨l[i],bO h,fun _=>rfl⟩
def K6(st:bb)(i:dG):Prop:=match lu st i with|some (c,_)=>c|none=>dK
def K7(st:bb)(i:dG):bb:=match lu st i with|some (_,s)=>s|none=>st
def yI(P:bW)(ob:List aJ)(r:List cL)(K:bb->Prop)(st:bb):Prop:=ho P ob r st K
def yO(P:bW)(ob:List aJ)(c:C)(Q:Exit->bb->Prop)(st:bb):Prop:=cP P ob c Q st
def pJ(P:bW)(ob:List aJ)(v:ag)(s:Nat)(w:Bool)(i:dH)(r:List cL)(st:bb)(K:bb->Prop):Prop:=
 match v with
 | .bool b=>(b=w->ho P ob (⟨none,i⟩::r) {st with t:=put s (.bool w) st.t} K)/\(b= !w->ho P ob r {st with t:=e6 i.dst (.tuple []) (put s (.bool !w) st.t)} K)
 | .tuple []=>ho P ob r {st with t:=e6 i.dst (.tuple []) st.t} K
 |_=>dK
def tR(P:bW)(ob:List aJ)(v:ag)(x:cS)(t e:C)(Q:Exit->bb->Prop)(st:bb):Prop:=
 match v with
 | .bool b=>(b=true->cP P ob t Q (sc st x true))/\(b=false->cP P ob e Q (sc st x false))
 |_=>dK
def HS(P:bW)(ob:List aJ)(v:ag)(d:be Nat)(xs:List ag)(r:List cL)(st:bb)(K:bb->Prop):Prop:=
 match v with
 | .func n dI=>bI P n (cO (xs++dI)) st d (yI P ob r K)
 |_=>dK
section
variable {P:bW} {ob:List aJ} {st:bb} {K:bb->Prop} {r:List cL} {Q:Exit->bb->Prop} {a b c t e:C}
theorem Xl:ho P ob [] st K=K st:=rfl
theorem Xn{i:dG}:ho P ob (⟨none,.s i⟩::r) st K=(K6 st i/\ho P ob r (K7 st i) K):=by
 simp only[ho,rB,K6,K7];cases lu st i with
 |none=>simp
 |some x=>rfl
theorem Xi{d:be Nat}{f:cS}{xs:List cS}:ho P ob (⟨none,.call d f xs⟩::r) st K=HS P ob (bL st.t f) d (xs.map (bL st.t)) r st K:=by simp only[ho,rB,HS];rfl
def HT(P:bW)(ob:List aJ)(v:ag)(d:be Nat)(xs:List ag)(r:List cL)(st:bb)(K:bb->Prop):Prop:=
 match v with
 | .func n dI=>AI P ob n (xs++dI) st d (yI P ob r K)
 |_=>dK
theorem Xm{d:be Nat}{f:cS}{xs:List cS}:ho P ob (⟨none,.opn d f xs⟩::r) st K=HT P ob (bL st.t f) d (xs.map (bL st.t)) r st K:=by simp only[ho,rB,HT];rfl
theorem Xg{n:Nat}{dI xs:List ag}{d:be Nat}:HT P ob (.func n dI) d xs r st K=AI P ob n (xs++dI) st d (yI P ob r K):=rfl
theorem Xk{d:Nat}{x:cS}:ho P ob (⟨none,.next d x⟩::r) st K=xe st d (bL st.t x) (yI P ob r K):=by simp only[ho,rB];rfl
def vc(P:bW)(ob:List aJ)(c:C)(Q:Exit->bb->Prop):be bb->Prop
 |some st=>cP P ob c Q st
 |none=>dK
theorem US:vc P ob c Q (some st)=cP P ob c Q st:=rfl
theorem WW{s:Nat}:cP P ob (.pub s c) Q st=vc P ob c Q (uM st s):=by simp only[cP];cases uM st s<;>rfl
theorem WS{o7:Bool}{s:Nat}:cP P ob (.fg o7 s c) Q st=cP P ob c Q {st with t:=put s (zd o7 (get s st.t)) st.t}:=rfl
theorem WT{o7:Bool}{s:Nat}{d:C}:cP P ob (.seq (.fg o7 s c) d) Q st=cP P ob (.seq c d) Q {st with t:=put s (zd o7 (get s st.t)) st.t}:=rfl
theorem WU{eD:Bool}{s:Nat}:cP P ob (.fz eD s c) Q st=vc P ob c Q (vz st eD s):=by simp only[cP];cases vz st eD s<;>rfl
theorem WV{eD:Bool}{s:Nat}{d:C}:cP P ob (.seq (.fz eD s c) d) Q st=vc P ob (.seq c d) Q (vz st eD s):=by simp only[cP];cases vz st eD s<;>rfl
theorem WQ{s:Nat}:cP P ob (.fd s c) Q st=(Bi ob st s/\cP P ob c Q (zc st s)):=rfl
theorem WR{s:Nat}{d:C}:cP P ob (.seq (.fd s c) d) Q st=(Bi ob st s/\cP P ob (.seq c d) Q (zc st s)):=rfl
theorem WX{s:Nat}:cP P ob (.pubB s c) Q st=vc P ob c Q (wu st s):=by simp only[cP];cases wu st s<;>rfl
theorem Xh{n:Nat}{dI:List ag}{d:be Nat}{xs:List ag}:HS P ob (.func n dI) d xs r st K=bI P n (cO (xs++dI)) st d (yI P ob r K):=rfl
theorem Xj{s:Nat}{w:Bool}{i:dH}:ho P ob (⟨some (s,w),i⟩::r) st K=pJ P ob (get s st.t) s w i r st K:=by simp only[ho,pJ];try rfl
theorem Xs{s:Nat}{i:dH}:pJ P ob (.bool true) s true i r st K=ho P ob (⟨none,i⟩::r) {st with t:=put s (.bool true) st.t} K:=by simp[pJ]
theorem Xo{s:Nat}{i:dH}:pJ P ob (.bool false) s false i r st K=ho P ob (⟨none,i⟩::r) {st with t:=put s (.bool false) st.t} K:=by simp[pJ]
theorem Xr{s:Nat}{i:dH}:pJ P ob (.bool true) s false i r st K=ho P ob r {st with t:=e6 i.dst (.tuple []) (put s (.bool true) st.t)} K:=by simp[pJ]
theorem Xp{s:Nat}{i:dH}:pJ P ob (.bool false) s true i r st K=ho P ob r {st with t:=e6 i.dst (.tuple []) (put s (.bool false) st.t)} K:=by simp[pJ]
theorem Xq{s:Nat}{w:Bool}{i:dH}:pJ P ob (.tuple []) s w i r st K=ho P ob r {st with t:=e6 i.dst (.tuple []) st.t} K:=by simp[pJ]
theorem cw{x:Bool}{s:Nat}{w:Bool}{i:dH}(I:x=w->ho P ob (⟨none,i⟩::r) {st with t:=put s (.bool w) st.t} K)(J:x= !w->ho P ob r {st with t:=e6 i.dst (.tuple []) (put s (.bool !w) st.t)} K):pJ P ob (.bool x) s w i r st K:=⟨I,J⟩
theorem WD:cP P ob (.seq (.seq a b) c) Q st=cP P ob (.seq a (.seq b c)) Q st:=by simp only[cP];congr 1;funext e st';cases e<;>rfl
theorem W2:cP P ob (.seq .skip c) Q st=cP P ob c Q st:=rfl
theorem W0:cP P ob (.seq .ret c) Q st=Q .ret st:=rfl
theorem WN{n:Nat}:cP P ob (.seq (.exit n) c) Q st=Q (.exit n) st:=rfl
theorem W3:cP P ob .skip Q st=Q .normal st:=rfl
theorem W1:cP P ob .ret Q st=Q .ret st:=rfl
theorem WO{n:Nat}:cP P ob (.exit n) Q st=Q (.exit n) st:=rfl
theorem WY{gs:List cL}:cP P ob (.seq (.region gs) c) Q st=ho P ob gs st (yO P ob c Q):=rfl
theorem WZ{gs:List cL}:cP P ob (.region gs) Q st=ho P ob gs st (Q .normal):=rfl
theorem WH{x:cS}:cP P ob (.seq (.cond x t e) c) Q st=tR P ob (bL st.t x) x (.seq t c) (.seq e c) Q st:=by simp only[cP,tR];try rfl
theorem WI{x:cS}:cP P ob (.cond x t e) Q st=tR P ob (bL st.t x) x t e Q st:=by simp only[cP,tR];try rfl
theorem W5{x:cS}:tR P ob (.bool true) x t e Q st=cP P ob t Q (sc st x true):=by simp[tR]
theorem W4{x:cS}:tR P ob (.bool false) x t e Q st=cP P ob e Q (sc st x false):=by simp[tR]
theorem cu{v:Bool}{x:cS}(I:v=true->cP P ob t Q (sc st x true))(J:v=false->cP P ob e Q (sc st x false)):tR P ob (.bool v) x t e Q st:=⟨I,J⟩
def yE(P:bW)(ob:List aJ)(id:Nat)(c:C)(Q:Exit->bb->Prop)(e:Exit)(st:bb):Prop:=
 match e with
 | .normal=>cP P ob c Q st
 | .exit j=>if j=id then cP P ob c Q st else Q (.exit j) st
 |e=>Q e st
theorem WE{id:Nat}:cP P ob (.seq (.block id a) c) Q st=cP P ob a (yE P ob id c Q) st:=by
 simp only[cP];congr 1;funext e st';cases e with
 |exit j=>rfl
 |_=>rfl
theorem WG{id:Nat}:cP P ob (.block id a) Q st=cP P ob a (yE P ob id .skip Q) st:=by
 simp only[cP];congr 1;funext e st';cases e with
 |exit j=>simp only[yE];by_cases al:j=id<;>simp[al,cP]
 |_=>rfl
theorem UJ{id:Nat}:yE P ob id c Q .normal st=yO P ob c Q st:=rfl
theorem UI{id j:Nat}:yE P ob id c Q (.exit j) st=if j=id then yO P ob c Q st else Q (.exit j) st:=rfl
theorem UK{id:Nat}:yE P ob id c Q .ret st=Q .ret st:=rfl
def bP(ob:List aJ)(jm:Nat->bb->Prop)(k:Nat)(Q:Exit->bb->Prop)(e:Exit)(st:bb):Prop:=
 match e with
 | .normal=> ∃bz oy,bz<k/\nT ob st oy/\jm bz oy
 |e=>Q e st
theorem UQ{jm:Nat->bb->Prop}{k:Nat}:bP ob jm k Q .normal st= ∃bz oy,bz<k/\nT ob st oy/\jm bz oy:=rfl
theorem UP{jm:Nat->bb->Prop}{k n:Nat}:bP ob jm k Q (.exit n) st=Q (.exit n) st:=rfl
theorem UR{jm:Nat->bb->Prop}{k:Nat}:bP ob jm k Q .ret st=Q .ret st:=rfl
theorem y4(jm:Nat->bb->Prop)(m:Nat)(wB:bb)(hw:nT ob st wB)(bD:jm m wB)(h:∀k s,jm k s->(∀i,iW (get i s.t))->(∀j cs,look j s.b=some cs->iB cs=true->jA cs)->cP P ob a (bP ob jm k Q) s):cP P ob (.loop a) Q st:=by
 simp only[cP];refine⟨jm,m,wB,hw,bD,fun k s I J av=>?_⟩;have:=h k s I J av;have bG:(bP ob jm k Q)=(fun e aC=>match e with| .normal=> ∃bz oy,bz<k/\nT ob aC oy/\jm bz oy|e=>Q e aC):=by funext e aC;cases e<;>rfl
 rw[bG]at this;exact this
end
/-Regions cq draw their order. -/
def K4(n0:Nat)(st:bb)(i:dG):Prop:=match dY (nq n0 i) st.n (nq n0 i::st.o) st i with|some (c,_)=>c|none=>dK
def K5(n0:Nat)(st:bb)(i:dG):bb:=match dY (nq n0 i) st.n (nq n0 i::st.o) st i with|some (_,s)=>s|none=>st
def GM(P:bW)(q:Bool)(nw:List Nat)(n0:Nat)(r:List cL)(K:bb->Prop)(st:bb):Prop:=hF P q nw n0 r st K
def pI(P:bW)(q:Bool)(nw:List Nat)(n0:Nat)(v:ag)(s:Nat)(w:Bool)(i:dH)(r:List cL)(st:bb)(K:bb->Prop):Prop:=
 match v with
 | .bool b=>(b=w->hF P q nw n0 (⟨none,i⟩::r) {st with t:=put s (.bool w) st.t} K)/\(b= !w->hF P q nw n0 r {st with t:=e6 i.dst (.tuple []) (put s (.bool !w) st.t)} K)
 | .tuple []=>hF P q nw n0 r {st with t:=e6 i.dst (.tuple []) st.t} K
 |_=>dK
def HR(P:bW)(q:Bool)(nw:List Nat)(n0:Nat)(v:ag)(d:be Nat)(xs:List ag)(r:List cL)(st:bb)(K:bb->Prop):Prop:=
 match v with
 | .func n dI=>gI P q nw n (cO (xs++dI)) st d (GM P q nw n0 r K)
 |_=>dK
section
variable {P:bW} {ob:List aJ} {st:bb} {K:bb->Prop} {r:List cL} {Q:Exit->bb->Prop} {c:C} {q:Bool} {nw:List Nat} {n0 N:Nat}
theorem W9:hF P q nw n0 [] st K=K st:=rfl
theorem Xa{i:dG}:hF P q nw n0 (⟨none,.s i⟩::r) st K=(kv q nw n0 st i/\K4 n0 st i/\hF P q nw n0 r (K5 n0 st i) K):=by
 simp only[hF,iZ,K4,K5];cases dY (nq n0 i) st.n (nq n0 i::st.o) st i with
 |none=>simp
 |some x=>rfl
theorem W7{d:be Nat}{f:cS}{xs:List cS}:hF P q nw n0 (⟨none,.call d f xs⟩::r) st K=HR P q nw n0 (bL st.t f) d (xs.map (bL st.t)) r st K:=by simp only[hF,iZ,HR];rfl
theorem W6{n:Nat}{dI:List ag}{d:be Nat}{xs:List ag}:HR P q nw n0 (.func n dI) d xs r st K=gI P q nw n (cO (xs++dI)) st d (GM P q nw n0 r K):=rfl
theorem W8{s:Nat}{w:Bool}{i:dH}:hF P q nw n0 (⟨some (s,w),i⟩::r) st K=pI P q nw n0 (get s st.t) s w i r st K:=by simp only[hF,pI];try rfl
theorem Xf{s:Nat}{i:dH}:pI P q nw n0 (.bool true) s true i r st K=hF P q nw n0 (⟨none,i⟩::r) {st with t:=put s (.bool true) st.t} K:=by simp[pI]
theorem Xb{s:Nat}{i:dH}:pI P q nw n0 (.bool false) s false i r st K=hF P q nw n0 (⟨none,i⟩::r) {st with t:=put s (.bool false) st.t} K:=by simp[pI]
theorem Xe{s:Nat}{i:dH}:pI P q nw n0 (.bool true) s false i r st K=hF P q nw n0 r {st with t:=e6 i.dst (.tuple []) (put s (.bool true) st.t)} K:=by simp[pI]
theorem Xc{s:Nat}{i:dH}:pI P q nw n0 (.bool false) s true i r st K=hF P q nw n0 r {st with t:=e6 i.dst (.tuple []) (put s (.bool false) st.t)} K:=by simp[pI]
theorem Xd{s:Nat}{w:Bool}{i:dH}:pI P q nw n0 (.tuple []) s w i r st K=hF P q nw n0 r {st with t:=e6 i.dst (.tuple []) st.t} K:=by simp[pI]
theorem cv{x:Bool}{s:Nat}{w:Bool}{i:dH}(I:x=w->hF P q nw n0 (⟨none,i⟩::r) {st with t:=put s (.bool w) st.t} K)(J:x= !w->hF P q nw n0 r {st with t:=e6 i.dst (.tuple []) (put s (.bool !w) st.t)} K):pI P q nw n0 (.bool x) s w i r st K:=⟨I,J⟩
theorem WJ{gs:List cL}:cP P ob (.seq (.drawn q N gs) c) Q st=hF P q [] st.n gs st (tF (st.n+N) st.o (yO P ob c Q)):=rfl
theorem WK{gs:List cL}:cP P ob (.drawn q N gs) Q st=hF P q [] st.n gs st (tF (st.n+N) st.o (Q .normal)):=rfl
theorem WL{gs:List cL}:cP P ob (.seq (.drawnW nw N gs) c) Q st=hF P false (p2 nw st.o) st.n gs st (tF (st.n+N) ((p2 nw st.o).map aJ.obj++st.o) (yO P ob c Q)):=rfl
theorem WM{gs:List cL}:cP P ob (.drawnW nw N gs) Q st=hF P false (p2 nw st.o) st.n gs st (tF (st.n+N) ((p2 nw st.o).map aJ.obj++st.o) (Q .normal)):=rfl
theorem ac5{o:List aJ}:p2 [] o=[]:=rfl
theorem ac3{j:Nat}{nw:List Nat}{o:List aJ}:p2 (j::nw) o=if aJ.obj j∈o then p2 nw o else j::p2 nw o:=by simp only[p2,List.filter_cons,ef,ite_not]
theorem gI.val{n:Nat}{args:List ag}{d:be Nat}{r:ag}(aa:ai (fun _=>dK) args)(aM:cg P n args r)(h:K {st with t:=e6 d r st.t}):gI P q nw n args st d K:=by
 refine .inr ⟨⟨[],[]⟩,⟨[],[]⟩,r,none,fun k cs aa=>by simp[look]at aa,fun k cs aa=>by simp[look]at aa,wi,wi,⟨fun k h=>.inl h,fun k h=>.inl h,fun k h=>h,fun k h=>h,fun k h=>by cases h⟩,ux (fun _ h=>h.elim) _ aa,aM,fun _=>⟨rfl,rfl⟩,?_⟩;have:({after st ⟨[],[]⟩ ⟨[],[]⟩ d r with o:=st.o}:bb)={st with t:=e6 d r st.t}:=by simp[after,GD]
 rw[this];exact h
theorem aY{n:Nat}{args:List ag}{d:be Nat}{r:ag}(aM:cg P n args r)(h:K {st with t:=e6 d r st.t})(aa:ai (fun _=>dK) args:=by simp):gI P q nw n args st d K:=gI.val aa aM h
end
section
variable {k:IntKind} {n:Int} {b:Bool} {s:List aF} {sz:Nat} {tag:yN} {xs:List ag} {key:aJ} {off f:Nat} {x:ag}
@[simp]theorem akI:ez (.int k n)=true:=rfl
@[simp]theorem akv:ez (.bool b)=true:=rfl
@[simp]theorem akQ:ez (.str s)=true:=rfl
@[simp]theorem akP:ez (.slice sz tag xs)=true:=rfl
@[simp]theorem akt:ez (.agg xs)=true:=rfl
@[simp]theorem akM:ez (.ptr key off)=true:=rfl
@[simp]theorem akC:ez (.eptr x)=true:=rfl
@[simp]theorem akH{t:Nat}:ez (.iface t x)=true:=rfl
@[simp]theorem ahW{t:Nat}:cells (.iface t x)=[.iface t x]:=rfl
@[simp]theorem aky{a:be Addr}{n c:Nat}:ez (.cst (.slice a n c))=true:=rfl
@[simp]theorem akz{s}:ez (.cst (.string s))=true:=rfl
@[simp]theorem akK:ez .nilp=true:=rfl
@[simp]theorem akE:ez (.func f xs)=true:=rfl
@[simp]theorem akG:ez (.gmap key)=true:=rfl
@[simp]theorem akO{n:Nat}:ez (.row sz key n)=true:=rfl
@[simp]theorem ah4{n:Nat}:cells (.row sz key n)=[.row sz key n]:=rfl
@[simp]theorem ahX:cells (.int k n)=[.int k n]:=rfl
@[simp]theorem ahM:cells (.bool b)=[.bool b]:=rfl
@[simp]theorem ah6:cells (.str s)=[.str s]:=rfl
@[simp]theorem ah5:cells (.slice sz tag xs)=[.slice sz tag xs]:=rfl
@[simp]theorem ahK:cells (.agg xs)=xs:=rfl
@[simp]theorem ah2:cells (.ptr key off)=[.ptr key off]:=rfl
@[simp]theorem ahR:cells (.eptr x)=[.eptr x]:=rfl
@[simp]theorem ah0:cells .nilp=[.nilp]:=rfl
@[simp]theorem ahT:cells (.func f xs)=[.func f xs]:=rfl
@[simp]theorem ahV:cells (.gmap key)=[.gmap key]:=rfl
end
section
variable {b:List (aJ×List ag)} {e:List (aJ×dw)} {agg:Bool} {sz off:Nat} {k:aJ} {p:ag} {cs xs vs:List ag} {gT:IntKind} {n i:Int} {m j:Nat} {tag:yN} {s:List aF} {Mj:Bool} {lo aw:be ag}
@[simp]theorem ajX{dj:Nat}{f:Nat}:mw b e agg sz (.rptr dj k m j f)=yl agg sz dj m j f (look k e):=rfl
@[simp]theorem ajW:mw b e agg sz (.ptr k off)=(match look k b with
  |some cs=>if agg then some (iB cs=true/\off+sz<=cs.length,.agg ((cs.drop off).take sz))else(cs[off]?).map fun p=>(iB cs=true,p)
  |none=>none):=rfl
@[simp]theorem ajV:mw b e agg sz (.eptr p)=if agg then some (isAgg sz p,p)else some (ez p=true/\cells p=[p],p):=rfl
@[simp]theorem aiy:Bj agg sz (.eptr p)=if agg then some (isAgg sz p,p)else some (ez p=true/\cells p=[p],p):=rfl
@[simp]theorem ain{o:Nat}:n2 off agg sz (.ptr k o)=some (True,.ptr k (o+off)):=rfl
@[simp]theorem aip{dj f:Nat}:n2 off agg sz (.rptr dj k m j f)=some (True,.rptr dj k m j (f+off)):=rfl
@[simp]theorem aie:n2 off agg sz (.eptr (.agg cs))=if agg then some (off+sz<=cs.length,.eptr (.agg ((cs.drop off).take sz)))else(cs[off]?).map fun p=>(ez p=true/\cells p=[p],.eptr p):=rfl
@[simp]theorem air:rD off agg sz (.agg cs)=if agg then some (off+sz<=cs.length,.agg ((cs.drop off).take sz))else(cs[off]?).map fun p=>(True,p):=rfl
@[simp]theorem ajb{dj:Nat}:zz sz (.slice dj tag xs) (.int gT i)=if dj=sz then some (0<=i/\i<xs.length,.eptr (xs.getD i.toNat .junk))else none:=rfl
@[simp]theorem aja{dj:Nat}:zz sz (.row dj k m) (.int gT i)=if dj=sz then some (0<=i/\i<m,.rptr dj k m i.toNat 0)else none:=rfl
@[simp]theorem ajU{dj:Nat}:zE (.slice dj tag xs)=some (True,.int .i64 xs.length):=rfl
@[simp]theorem ajT{dj:Nat}:zE (.row dj k m)=some (True,.int .i64 m):=rfl
@[simp]theorem ajS{a:be Addr}{n c:Nat}:zE (.cst (.slice a n c))=some (True,.int .i64 n):=rfl
@[simp]theorem akr{s}:C2 (.cst (.string s))=some (True,.int .i64 s.size):=rfl
@[simp]theorem aks:C2 (.str s)=some (True,.int .i64 s.length):=rfl
@[simp]theorem aid:D4 j (.tuple vs)=(vs[j]?).map fun p=>(True,p):=rfl
@[simp]theorem akd:zK (.ptr k off)=some (True,.ptr k off):=rfl
@[simp]theorem akb:zK (.eptr p)=some (True,.eptr p):=rfl
@[simp]theorem akc:zK (.func j cs)=some (True,.func j cs):=rfl
@[simp]theorem ake:FP (.bool Mj)=some (True,.bool (!Mj)):=rfl
@[simp]theorem akq:Gt (.str s) (.int gT i)=some (0<=i/\i<s.length,.int .u8 (s.getD i.toNat 0).toNat):=rfl
@[simp]theorem akR:Gx (.str s) lo aw=(match qT 0 lo,qT s.length aw with
  |some l,some h=>some (0<=l/\l<=h/\h<=s.length,.str ((s.take h.toNat).drop l.toNat))
  |_,_=>none):=rfl
@[simp]theorem ajY{dj:Nat}:Fz sz (.slice dj tag xs) lo aw=(if dj=sz then match qT 0 lo,qT xs.length aw with
  |some l,some h=>some (0<=l/\l<=h/\h<=xs.length,.slice sz .no ((xs.take h.toNat).drop l.toNat))
  |_,_=>none else none):=rfl
theorem acN{f:aJ->be (List ag)}{b0:jN}{z q:ag}{ok:Bool}:qQ f b0 z ok (.gmap k) q=(match f k with
  |some (.hdm _ _::kvs)=>if zD b0 q=false then none else match v8 b0 q kvs with
   |some (some v)=>some (True,if ok then .tuple [v,.bool true]else v)
   |some none=>some (True,if ok then .tuple [z,.bool false]else z)
   |none=>none
  |_=>none):=rfl
theorem acM{f:aJ->be (List ag)}:tf f (.ptr k 0)=(match f k with
  |some [.hdi _ seen last,.gmap mk]=>match f mk with
   |some (.hdm clock borns::kvs)=>match seen.getLast? with
    |some n=>(om n borns kvs).map fun p=>(clock=last,p)
    |none=>none
   |_=>none
  |_=>none):=rfl
@[simp]theorem akp{dj f n' el hR:Nat}:yl agg sz dj m j f (some ⟨n',el,hR,some xs⟩)=(if n'=m/\hR=dj then
   (match xs[j]? with
    |some p=>if agg then some (ez p=true/\f+sz<=(cells p).length,.agg (((cells p).drop f).take sz))else((cells p)[f]?).map fun q=>(ez p=true,q)
    |none=>none)else none):=rfl
end
attribute [simp] WD WY WE WH W2 W0 WN W3 W1 WO WZ WG WI yO UJ UI UK UP UR Xl Xn Xi Xh Xj
 Xs Xo Xr Xp Xq W5 W4 K6 K7 lu gB ki bL get put iy pX mX mY cR qT au az Gz oz tM F0 FJ DN FD
 look e6 dG.dst dH.dst sc yI qs cO dr ak ai
 WJ WK WL WM ac5 ac3 W9 Xa W7 W6 W8 Xf Xb Xe Xc Xd K4 K5 dY nq kv xl fD.loadO tF GM xV iB l6 Xk WW WX WS WT WU WV vz H7 sK zd US uM CL wu q2 qZ Dw FB Dv oQ
theorem aX{P:bW}{n:Nat}{args:List ag}{st:bb}{d:be Nat}{K:bb->Prop}{r:ag}(aM:cg P n args r)(h:K {st with t:=e6 d r st.t})(aa:ai (fun _=>dK) args:=by simp):bI P n args st d K:=bI.val aa aM h
theorem aA{a b:Prop}(af:b)(b4:a:=by first|omega|(unfold aZ;omega)|(unfold bA;omega)):a/\b:=⟨b4,af⟩
theorem cK{p:Prop}(h:dK:=by first|contradiction|omega):p:=h.elim
theorem bZ{p:Prop}(h:p:=by(try simp[*]);(repeat' first|with_reducible refine aA ?_|with_reducible refine aX (by assumption) ?_|with_reducible refine aY (by assumption) ?_|simp[*]);(all_goals first|done|(simp[b1,bn,bp,bk, *];done))):p:=h
attribute [simp] Xm Xg WQ WR AW Fj gQ gX A4 A3 DM yY zc zb Bi
end
section
open Go
inductive ba where
 |mk (kind n:Int) (name:List aF) (args:List ba)
def ba.kind:ba->Int| .mk k _ _ _=>k
def ba.num:ba->Int| .mk _ n _ _=>n
def ba.name:ba->List aF| .mk _ _ s _=>s
def ba.args:ba->List ba| .mk _ _ _ a=>a
mutual
def enc:ba->ag
 | .mk k n s a=>.agg [.int .i64 k,.int .i64 n,.str s,.slice 4 .no (qC a)]
def qC:List ba->List ag
 |[]=>[]
 |x::xs=>enc x::qC xs
end
theorem DX:∀l,qC l=l.map enc
 |[]=>rfl
 |x::xs=>by simp[qC,DX xs]
theorem y2(t:ba):enc t= .agg [.int .i64 t.kind,.int .i64 t.num,.str t.name,.slice 4 .no (t.args.map enc)]:=by cases t;simp[enc,DX,ba.kind,ba.num,ba.name,ba.args]
mutual
theorem Rh(S:aJ->Prop):∀t:ba,ak S (enc t)
 | .mk k n s a=>by simp[enc,ak,ai,JH S a]
theorem JH(S:aJ->Prop):∀l:List ba,ai S (qC l)
 |[]=>by simp[qC,ai]
 |x::xs=>by simp[qC,ai,Rh S x,JH S xs]
end
mutual
theorem TN:∀t:ba,dr (enc t)=enc t
 | .mk k n s a=>by simp[enc,dr,cO,Lf a]
theorem Lf:∀l:List ba,cO (qC l)=qC l
 |[]=>by simp[qC,cO]
 |x::xs=>by simp[qC,cO,TN x,Lf xs]
end
@[simp]theorem ajH(S:aJ->Prop)(t:ba):ak S (enc t)=True:=eq_true (Rh S t)
@[simp]theorem ajA(S:aJ->Prop)(l:List ba):ai S (l.map enc)=True:=by rw[<-DX];exact eq_true (JH S l)
theorem afM(l:List ba):cO (l.map enc)=l.map enc:=by rw[<-DX];exact Lf l
attribute [simp] TN afM
@[simp]theorem akB(t:ba):ez (enc t)=true:=by rw[y2];rfl
@[simp]theorem ahQ(t:ba):cells (enc t)=[.int .i64 t.kind,.int .i64 t.num,.str t.name,.slice 4 .no (t.args.map enc)]:=by rw[y2];rfl
@[simp]theorem aha(t:ba):ag.agg [.int .i64 t.kind,.int .i64 t.num,.str t.name,.slice 4 .no (t.args.map enc)]=enc t:=(y2 t).symm
@[simp]theorem aij(off:Nat)(eD:Bool)(sz:Nat)(t:ba):n2 off eD sz (.eptr (enc t))=if eD then some (off+sz<=4,.eptr (.agg (([.int .i64 t.kind,.int .i64 t.num,.str t.name,.slice 4 .no (t.args.map enc)].drop off).take sz)))else(([.int .i64 t.kind,.int .i64 t.num,.str t.name,.slice 4 .no (t.args.map enc)]:List ag)[off]?).map fun p=>(ez p=true/\cells p=[p],.eptr p):=by rw[y2];rfl
@[simp]theorem ajl(t:ba):Pv.isAgg 4 (enc t):=by rw[y2];exact⟨_,rfl,rfl⟩
inductive T where
 |nil
 |var (n:Int)
 |sym (s:List aF)
 |num (n:Int)
 |pair (a b:T)
 deriving DecidableEq,Inhabited
def T.tm:T->ba
 | .nil=>.mk 0 0 [] []
 | .var n=>.mk 1 n [] []
 | .sym s=>.mk 2 0 s []
 | .num n=>.mk 3 n [] []
 | .pair a b=>.mk 4 0 [] [a.tm,b.tm]
def T.e:T->ag
 | .nil=>.agg [.int .i64 0,.int .i64 0,.str [],.slice 4 .no []]
 | .var n=>.agg [.int .i64 1,.int .i64 n,.str [],.slice 4 .no []]
 | .sym s=>.agg [.int .i64 2,.int .i64 0,.str s,.slice 4 .no []]
 | .num n=>.agg [.int .i64 3,.int .i64 n,.str [],.slice 4 .no []]
 | .pair a b=>.agg [.int .i64 4,.int .i64 0,.str [],.slice 4 .no [a.e,b.e]]
theorem sM:∀t:T,enc t.tm=t.e
 | .nil| .var _| .sym _| .num _=>rfl
 | .pair a b=>by simp[T.tm,enc,qC,T.e,sM a,sM b]
def T.kind:T->Int
 | .nil=>0| .var _=>1| .sym _=>2| .num _=>3| .pair _ _=>4
def T.int:T->Int
 | .var n=>n| .num n=>n|_=>0
def T.name:T->List aF
 | .sym s=>s|_=>[]
def T.args:T->List T
 | .pair a b=>[a,b]|_=>[]
theorem T.e_eq(t:T):t.e= .agg [.int .i64 t.kind,.int .i64 t.int,.str t.name,.slice 4 .no (t.args.map T.e)]:=by cases t<;>rfl
@[simp]theorem ag9(t:T):ag.agg [.int .i64 t.kind,.int .i64 t.int,.str t.name,.slice 4 .no (t.args.map T.e)]=t.e:=(T.e_eq t).symm
@[simp]theorem ahd:ag.agg [.int .i64 0,.int .i64 0,.str [],.slice 4 .no []]=T.nil.e:=rfl
@[simp]theorem ahj(n:Int):ag.agg [.int .i64 1,.int .i64 n,.str [],.slice 4 .no []]=(T.var n).e:=rfl
@[simp]theorem ahi(s:List aF):ag.agg [.int .i64 2,.int .i64 0,.str s,.slice 4 .no []]=(T.sym s).e:=rfl
@[simp]theorem ahe(n:Int):ag.agg [.int .i64 3,.int .i64 n,.str [],.slice 4 .no []]=(T.num n).e:=rfl
@[simp]theorem ahf(a b:T):ag.agg [.int .i64 4,.int .i64 0,.str [],.slice 4 .no [a.e,b.e]]=(T.pair a b).e:=rfl
@[simp]theorem ajK:(T.nil).kind=0:=rfl
@[simp]theorem ajc:(T.nil).int=0:=rfl
@[simp]theorem aj5:(T.nil).name=[]:=rfl
@[simp]theorem ahk:(T.nil).args=[]:=rfl
@[simp]theorem ajO(n:Int):(T.var n).kind=1:=rfl
@[simp]theorem ajg(n:Int):(T.var n).int=n:=rfl
@[simp]theorem aj9(n:Int):(T.var n).name=[]:=rfl
@[simp]theorem aho(n:Int):(T.var n).args=[]:=rfl
@[simp]theorem ajN(s:List aF):(T.sym s).kind=2:=rfl
@[simp]theorem ajf(s:List aF):(T.sym s).int=0:=rfl
@[simp]theorem aj8(s:List aF):(T.sym s).name=s:=rfl
@[simp]theorem ahn(s:List aF):(T.sym s).args=[]:=rfl
@[simp]theorem ajL(n:Int):(T.num n).kind=3:=rfl
@[simp]theorem ajd(n:Int):(T.num n).int=n:=rfl
@[simp]theorem aj6(n:Int):(T.num n).name=[]:=rfl
@[simp]theorem ahl(n:Int):(T.num n).args=[]:=rfl
@[simp]theorem ajM(a b:T):(T.pair a b).kind=4:=rfl
@[simp]theorem aje(a b:T):(T.pair a b).int=0:=rfl
@[simp]theorem aj7(a b:T):(T.pair a b).name=[]:=rfl
@[simp]theorem ahm(a b:T):(T.pair a b).args=[a,b]:=rfl
@[simp]theorem ajG(S:aJ->Prop)(t:T):ak S t.e=True:=by rw[<-sM];simp
@[simp]theorem akV(t:T):dr t.e=t.e:=by rw[<-sM];simp
theorem Rc(S:aJ->Prop):∀l:List T,ai S (l.map T.e)
 |[]=>by simp[ai]
 |x::xs=>by simp[ai,Rc S xs]
@[simp]theorem ajz(S:aJ->Prop)(l:List T):ai S (l.map T.e)=True:=eq_true (Rc S l)
@[simp]theorem afL:∀l:List T,cO (l.map T.e)=l.map T.e
 |[]=>rfl
 |x::xs=>by simp[cO,afL xs]
@[simp]theorem akA(t:T):ez t.e=true:=by rw[T.e_eq];rfl
@[simp]theorem ahP(t:T):cells t.e=[.int .i64 t.kind,.int .i64 t.int,.str t.name,.slice 4 .no (t.args.map T.e)]:=by rw[T.e_eq];rfl
@[simp]theorem ajk(t:T):Pv.isAgg 4 t.e:=by rw[T.e_eq];exact⟨_,rfl,rfl⟩
def T.size:T->Nat
 | .pair a b=>1+a.size+b.size
 |_=>1
theorem T.size_pos(t:T):1<=t.size:=by cases t<;>simp[T.size]<;>omega
def low(b:aF):Bool:=decide (97<=b.toNat/\b.toNat<=122)
def kd(b:aF):Bool:=low b||decide (48<=b.toNat/\b.toNat<=57)||b.toNat==45
def gM(s:List aF):Bool:=decide (1<=s.length/\s.length<=12)&&low (s.getD 0 0)&&(s.drop 1).all kd
def T.ok:T->Bool
 | .nil=>true
 | .var n=>decide (0<=n/\n<=100000)
 | .sym s=>gM s
 | .num n=>decide (-1000000000<=n/\n<=1000000000)
 | .pair a b=>a.ok&&b.ok
def kT(k n:Int)(s:List aF):Bool:=if k=0 then n==0&&s==[]else if k=1 then decide (0<=n/\n<=100000)&&s==[]else if k=2 then n==0&&gM s else if k=3 then decide (-1000000000<=n/\n<=1000000000)&&s==[]else false
def fu:ba->Int->Int
 | .mk k n s [a,b],room=>if room<1\/k≠4\/n≠0\/s≠[]then-1 else if fu a (room-1)<0 then-1 else if fu b (room-1-fu a (room-1))<0 then-1 else 1+fu a (room-1)+fu b (room-1-fu a (room-1))
 | .mk k n s args,room=>if room<1\/k=4\/args≠[]\/kT k n s=false then-1 else 1
theorem J4(k n:Int)(s:List aF)(args:List ba)(room:Int):fu (.mk k n s args) room=if room<1 then-1 else if k≠4 then(if args≠[]then-1 else if kT k n s then 1 else-1)else if n≠0\/s≠[]then-1 else match args with
  |[a,b]=>if fu a (room-1)<0 then-1 else if fu b (room-1-fu a (room-1))<0 then-1 else 1+fu a (room-1)+fu b (room-1-fu a (room-1))
  |_=> -1:=by
 match args with
 |[]=>simp only[fu];by_cases I:room<1<;>by_cases J:k=4<;>by_cases av:kT k n s=true<;>simp[I,J,av]
 |[a]=>simp[fu]
 |[a,b]=>simp only[fu];by_cases I:room<1<;>by_cases J:k=4<;>simp[I,J]
 |a::b::c::r=>simp[fu]
theorem J3:∀(t:T) (room:Int),fu t.tm room=if t.ok=true/\(t.size:Int)<=room then(t.size:Int)else-1
 | .nil,room=>by simp[T.tm,fu,T.ok,T.size,kT];split<;>rename_i h<;>simp_all<;>omega
 | .var n,room=>by simp[T.tm,fu,T.ok,T.size,kT];split<;>split<;>simp_all<;>omega
 | .sym s,room=>by simp[T.tm,fu,T.ok,T.size,kT];by_cases I:room<1<;>by_cases J:gM s=true<;>simp[I,J]<;>omega
 | .num n,room=>by simp[T.tm,fu,T.ok,T.size,kT];split<;>split<;>simp_all<;>omega
 | .pair a b,room=>by
  have b4:=a.size_pos;have af:=b.size_pos;simp only[T.tm,fu,J3 a,J3 b,T.ok,T.size,bB];by_cases I:room<1
  ·simp[I];omega
  ·by_cases J:a.ok=true/\(a.size:Int)<=room-1
   ·rw[bN J];by_cases av:b.ok=true/\(b.size:Int)<=room-1-a.size
    ·rw[bN av];simp[I,J.1,av.1];split<;>omega
    ·rw[bf av];simp[I,J.1];intro mN;have:=av;simp[mN]at this;omega
   ·rw[bf J];simp[I];intro ZN;have:=J;simp[ZN]at this;omega
theorem FO:∀(t:ba) (room:Int),fu t room= -1\/1<=fu t room
 | .mk k n s [a,b],room=>by
  simp only[fu];split
  ·exact .inl rfl
  ·split
   ·exact .inl rfl
   ·split
    ·exact .inl rfl
    ·right;omega
 | .mk k n s [],room=>by simp only[fu];split<;>simp
 | .mk k n s [a],room=>by simp[fu]
 | .mk k n s (a::b::c::r),room=>by simp[fu]
theorem J6:∀(t:ba) (room:Int),0<fu t room->∃x:T,x.tm=t
 | .mk k n s [a,b],room,h=>by
  simp only[fu]at h;split at h
  ·omega
  ·rename_i I;simp only[not_or,Int.not_lt,ne_eq,ala]at I;obtain⟨I,rfl,rfl,rfl⟩:=I;split at h
   ·omega
   ·split at h
    ·omega
    ·obtain⟨x,rfl⟩:=J6 a (room-1) (by rcases FO a (room-1)with h|h<;>omega);obtain⟨y,rfl⟩:=J6 b (room-1-fu x.tm (room-1)) (by rcases FO b (room-1-fu x.tm (room-1))with h|h<;>omega);exact⟨.pair x y,rfl⟩
 | .mk k n s [],room,h=>by
  simp only[fu]at h;split at h
  ·omega
  ·rename_i I;simp only[not_or,ne_eq,not_true_eq_false,not_false_eq_true,true_and,Bool.not_eq_false]at I;obtain⟨_,_,I⟩:=I;unfold kT at I;split at I
   ·rename_i e;subst e;simp at I;obtain⟨rfl,rfl⟩:=I;exact⟨.nil,rfl⟩
   ·split at I
    ·rename_i e;subst e;simp at I;obtain⟨_,rfl⟩:=I;exact⟨.var n,rfl⟩
    ·split at I
     ·rename_i e;subst e;simp at I;obtain⟨rfl,_⟩:=I;exact⟨.sym s,rfl⟩
     ·split at I
      ·rename_i e;subst e;simp at I;obtain⟨_,rfl⟩:=I;exact⟨.num n,rfl⟩
      ·cases I
 | .mk k n s [a],room,h=>by simp[fu]at h
 | .mk k n s (a::b::c::r),room,h=>by simp[fu]at h
theorem J5:∀(t:ba) (room:Int),fu t room<=room\/fu t room= -1
 | .mk k n s [a,b],room=>by
  simp only[fu];split
  ·exact .inr rfl
  ·split
   ·exact .inr rfl
   ·split
    ·exact .inr rfl
    ·rcases J5 b (room-1-fu a (room-1))with h|h<;>omega
 | .mk k n s [],room=>by simp only[fu];split<;>simp;rename_i h;omega
 | .mk k n s [a],room=>by simp[fu]
 | .mk k n s (a::b::c::r),room=>by simp[fu]
mutual
def ba.sz:ba->Nat
 | .mk _ _ _ a=>1+ba.szL a
def ba.szL:List ba->Nat
 |[]=>0
 |x::xs=>x.sz+ba.szL xs
end
theorem TR:∀{l:List ba} {x:ba},x∈l->x.sz<=ba.szL l
 |y::l,x,h=>by
  rcases gH.1 h with rfl|h
  ·simp[ba.szL]
  ·have:=TR h;simp[ba.szL];omega
theorem afV{t x:ba}(h:x∈t.args):x.sz<t.sz:=by cases t;simp[ba.args]at h;have:=TR h;simp[ba.sz];omega
def T.fit(t:T):Bool:=t.ok&&decide (t.size<=5000)
def ba.fits(t:ba):Bool:=decide (0<fu t 5000)
theorem ba.fits_T(t:T):t.tm.fits=t.fit:=by
 unfold ba.fits T.fit;rw[J3];have:=t.size_pos;by_cases I:t.ok=true<;>by_cases J:t.size<=5000
 ·rw[bN ⟨I,Ω⟩];simp[I,J];omega
 ·rw[bf Ω];simp[J]
 ·rw[bf (by simp[I])];simp[I]
 ·rw[bf (by simp[I])];simp[I]
theorem ba.fits_ex{t:ba}(h:t.fits=true):∃x:T,x.tm=t/\x.fit=true:=by obtain⟨x,rfl⟩:=J6 t 5000 (by simpa[ba.fits]using h);exact⟨x,rfl,by rw[<-ba.fits_T];exact h⟩
structure jM where
 v:Int
 t:T
 deriving DecidableEq,Inhabited
def jM.e(b:jM):ag:= .agg [.int .i64 b.v,.int .i64 b.t.kind,.int .i64 b.t.int,.str b.t.name,.slice 4 .no (b.t.args.map T.e)]
@[simp]theorem jM.eta(b:jM):jM.mk b.v b.t=b:=rfl
@[simp]theorem ag2(v:Int)(t:T):ag.agg [.int .i64 v,.int .i64 t.kind,.int .i64 t.int,.str t.name,.slice 4 .no (t.args.map T.e)]=(jM.mk v t).e:=rfl
@[simp]theorem ag3(v:Int):ag.agg [.int .i64 v,.int .i64 0,.int .i64 0,.str [],.slice 4 .no []]=(jM.mk v .nil).e:=rfl
@[simp]theorem ag7(v n:Int):ag.agg [.int .i64 v,.int .i64 1,.int .i64 n,.str [],.slice 4 .no []]=(jM.mk v (.var n)).e:=rfl
@[simp]theorem ag6(v:Int)(s:List aF):ag.agg [.int .i64 v,.int .i64 2,.int .i64 0,.str s,.slice 4 .no []]=(jM.mk v (.sym s)).e:=rfl
@[simp]theorem ag4(v n:Int):ag.agg [.int .i64 v,.int .i64 3,.int .i64 n,.str [],.slice 4 .no []]=(jM.mk v (.num n)).e:=rfl
@[simp]theorem ag5(v:Int)(a b:T):ag.agg [.int .i64 v,.int .i64 4,.int .i64 0,.str [],.slice 4 .no [a.e,b.e]]=(jM.mk v (.pair a b)).e:=rfl
@[simp]theorem aku(b:jM):ez b.e=true:=rfl
@[simp]theorem ahL(b:jM):cells b.e=[.int .i64 b.v,.int .i64 b.t.kind,.int .i64 b.t.int,.str b.t.name,.slice 4 .no (b.t.args.map T.e)]:=rfl
@[simp]theorem ais(off:Nat)(eD:Bool)(sz:Nat)(b:jM):rD off eD sz b.e=if eD then some (off+sz<=5,.agg (([.int .i64 b.v,.int .i64 b.t.kind,.int .i64 b.t.int,.str b.t.name,.slice 4 .no (b.t.args.map T.e)].drop off).take sz))else(([.int .i64 b.v,.int .i64 b.t.kind,.int .i64 b.t.int,.str b.t.name,.slice 4 .no (b.t.args.map T.e)]:List ag)[off]?).map fun p=>(True,p):=rfl
@[simp]theorem aif(off:Nat)(eD:Bool)(sz:Nat)(b:jM):n2 off eD sz (.eptr b.e)=if eD then some (off+sz<=5,.eptr (.agg (([.int .i64 b.v,.int .i64 b.t.kind,.int .i64 b.t.int,.str b.t.name,.slice 4 .no (b.t.args.map T.e)].drop off).take sz)))else(([.int .i64 b.v,.int .i64 b.t.kind,.int .i64 b.t.int,.str b.t.name,.slice 4 .no (b.t.args.map T.e)]:List ag)[off]?).map fun p=>(ez p=true/\cells p=[p],.eptr p):=rfl
def T.occ(v:Int):T->Bool
 | .var n=>n==v
 | .pair a b=>a.occ v||b.occ v
 |_=>false
structure sA where
 v:Int
 t:ba
def sA.e(b:sA):ag:= .agg [.int .i64 b.v,.int .i64 b.t.kind,.int .i64 b.t.num,.str b.t.name,.slice 4 .no (b.t.args.map enc)]
@[simp]theorem sA.eta(b:sA):sA.mk b.v b.t=b:=rfl
@[simp]theorem ag8(v:Int)(t:ba):ag.agg [.int .i64 v,.int .i64 t.kind,.int .i64 t.num,.str t.name,.slice 4 .no (t.args.map enc)]=(sA.mk v t).e:=rfl
@[simp]theorem akw(b:sA):ez b.e=true:=rfl
@[simp]theorem ahN(b:sA):cells b.e=[.int .i64 b.v,.int .i64 b.t.kind,.int .i64 b.t.num,.str b.t.name,.slice 4 .no (b.t.args.map enc)]:=rfl
@[simp]theorem ait(off:Nat)(eD:Bool)(sz:Nat)(b:sA):rD off eD sz b.e=if eD then some (off+sz<=5,.agg (([.int .i64 b.v,.int .i64 b.t.kind,.int .i64 b.t.num,.str b.t.name,.slice 4 .no (b.t.args.map enc)].drop off).take sz))else(([.int .i64 b.v,.int .i64 b.t.kind,.int .i64 b.t.num,.str b.t.name,.slice 4 .no (b.t.args.map enc)]:List ag)[off]?).map fun p=>(True,p):=rfl
@[simp]theorem aih(off:Nat)(eD:Bool)(sz:Nat)(b:sA):n2 off eD sz (.eptr b.e)=if eD then some (off+sz<=5,.eptr (.agg (([.int .i64 b.v,.int .i64 b.t.kind,.int .i64 b.t.num,.str b.t.name,.slice 4 .no (b.t.args.map enc)].drop off).take sz)))else(([.int .i64 b.v,.int .i64 b.t.kind,.int .i64 b.t.num,.str b.t.name,.slice 4 .no (b.t.args.map enc)]:List ag)[off]?).map fun p=>(ez p=true/\cells p=[p],.eptr p):=rfl
def Ve(l:List jM)(v:Int):be T:=(l.find? fun b=>b.v==v).map (·.t)
end
end Go.Pv
namespace Go.Proofs.YtlnndmgfngfeiaaGreatDoor
section
open Go Go.Pv
def abP(s:List aF)(k:Nat)(st:bb):Prop:=∃i:Nat,1<=i/\i<=s.length/\k=s.length-i/\((s.drop 1).all kd=(s.drop i).all kd)/\st=⟨[(0,.str s),(3,.int .i64 i)],[],[],0,[]⟩
theorem Ub(s:List aF):cg aP 170 [.str s] (.bool (gM s)):=by
 refine cg.mk mixed q5 XA adp Ψ (by simp[ak]) fun af=>?_;unfold ME;simp;(with_reducible repeat' first|((first|refine cu (fun h=>?_) fun h=>?_|refine cw (fun h=>?_) fun h=>?_|refine cv (fun h=>?_) fun h=>?_)<;>try simp at h)|refine aA ?_|simp);case refine_1.refine_1.refine_1.refine_2=>
  have EY:gM s=(s.drop 1).all kd:=by simp[gM,low];omega
  rw[EY];refine y4 (abP s) (s.length-1) _ ⟨Ψ,by simp[oA],by simp[oB],Ψ⟩ ⟨1,Ω,Ω,rfl,rfl,rfl⟩ ?_;rintro k st ⟨i,sV,BE,aa,j4,rfl⟩ sT b5;rw[j4];simp;refine cu (fun b7=>?_) (fun jc=>?_)
  ·simp at b7;have a7:s.drop i=s[i]?.getD 0::s.drop (i+1):=by rw[List.drop_eq_getElem_cons b7];simp[b7]
   simp;(with_reducible repeat' first|((first|refine cu (fun h=>?_) fun h=>?_|refine cw (fun h=>?_) fun h=>?_|refine cv (fun h=>?_) fun h=>?_)<;>try simp at h)|refine aA ?_|simp);all_goals first
    |(simp[b1,F2,bn,bp,bk,a7,kd,low];omega)
    |(simp only[UQ];refine⟨s.length-(i+1),_,Ω,⟨Ψ,by simp[oA],by simp[oB],Ψ⟩,i+1,Ω,Ω,rfl,?_,rfl⟩;rw[j4,a7];simp[kd,low];omega)
  ·simp at jc;have:s.drop i=[]:=by simp;omega
   simp[b1,F2,bn,bp,bk,this]
 all_goals simp[b1,F2,bn,bp,bk,gM,low]
 all_goals omega
theorem agB(m:Nat):∀(t:ba),t.sz<=m->∀(room:Int),0<=room/\room<=10000->cg aP 150 [enc t,.int .i64 room] (.int .i64 (fu t room)):=by
 induction m with
 |zero=>intro t aI;cases t;simp[ba.sz]at aI
 |succ m a8=>
 rintro⟨k,n,s,args⟩ aI room nD;refine bJ q5 XQ adF fun aG=>?_;unfold MU;simp[ba.kind,ba.num,ba.name,ba.args];(with_reducible repeat' first|((first|refine cu (fun h=>?_) fun h=>?_|refine cw (fun h=>?_) fun h=>?_|refine cv (fun h=>?_) fun h=>?_)<;>try simp at h)|refine aA ?_|simp);all_goals try refine bI.val Ψ (Ub _) ?_
 all_goals try simp
 (with_reducible repeat' first|((first|refine cu (fun h=>?_) fun h=>?_|refine cw (fun h=>?_) fun h=>?_|refine cv (fun h=>?_) fun h=>?_)<;>try simp at h)|refine aA ?_|simp);all_goals try simp[b1,F5,bn,bp,bk]
 case succ.refine_2.refine_2.refine_1.refine_1.refine_2=>
  rename_i bD I J av;match args,h with
  |[a,b],_=>
  simp[ba.sz,ba.szL]at aI;subst I J av;simp;(with_reducible repeat' first|((first|refine cu (fun h=>?_) fun h=>?_|refine cw (fun h=>?_) fun h=>?_|refine cv (fun h=>?_) fun h=>?_)<;>try simp at h)|refine aA ?_|simp);refine bI.val Ψ (a8 a Ω (room-1) Ω) ?_;simp;have b4:=J5 a (room-1);have zl:=FO a (room-1);(with_reducible repeat' first|((first|refine cu (fun h=>?_) fun h=>?_|refine cw (fun h=>?_) fun h=>?_|refine cv (fun h=>?_) fun h=>?_)<;>try simp at h)|refine aA ?_|simp)
  ·simp[b1,F5,bn,bp,bk];rw[J4];simp;omega
  ·refine bI.val Ψ (a8 b Ω (room-1-fu a (room-1)) Ω) ?_;simp;have af:=J5 b (room-1-fu a (room-1));have hq:=FO b (room-1-fu a (room-1));(with_reducible repeat' first|((first|refine cu (fun h=>?_) fun h=>?_|refine cw (fun h=>?_) fun h=>?_|refine cv (fun h=>?_) fun h=>?_)<;>try simp at h)|refine aA ?_|simp);all_goals simp[b1,F5,bn,bp,bk]
   all_goals rw[J4];simp;omega
 all_goals rw[J4]
 all_goals simp_all[kT]
 all_goals first|omega|(split<;>simp at h⊢)
theorem Ud(t:ba):cg aP 77 [enc t] (.bool t.fits):=by refine bJ q5 XD ads fun aG=>?_;unfold MH;simp;refine bI.val Ψ (agB t.sz t (da _) 5000 Ω) ?_;simp;simp[b1,SL,bn,bp,bk];simp[ba.fits]
theorem agd(t:T):cg aP 77 [t.e] (.bool t.fit):=by have:=Ud t.tm;rwa[sM,ba.fits_T]at this
theorem LA(a b:T):cg aP 141 [a.e,b.e] (T.pair a b).e:=by refine bJ q5 Yg ad5 fun aG=>?_;unfold Nn;simp;(with_reducible repeat' first|((first|refine cu (fun h=>?_) fun h=>?_|refine cw (fun h=>?_) fun h=>?_|refine cv (fun h=>?_) fun h=>?_)<;>try simp at h)|refine aA ?_|simp);all_goals try simp[b1,SZ,bn,bp,bk]
theorem agh(t:T):cg aP 75 [t.e] t.e:=by
 induction t with
 |pair a b s7 s8=>refine bJ q5 OG R8 fun aG=>?_;unfold Ha;exact bZ
 |_=>refine bJ q5 OG R8 fun aG=>?_;unfold Ha;exact bZ
end
end Go.Proofs.YtlnndmgfngfeiaaGreatDoor
namespace Go.Pv
section
open Go Go.RowKit
structure fq (s:dM):Prop where
 obj:js s
 kb:∀k cs,look k s.b=some cs->ai (ah s) cs
 ke:∀k o,look k s.e=some o->b6 (ah s) o
structure fJ (s aC:dM):Prop where
 b:∀k,(look k s.b).isSome=(look k aC.b).isSome
 e:∀k,(look k s.e).isSome=(look k aC.e).isSome
theorem fJ.refl(s:dM):fJ s s:=⟨fun _=>rfl,fun _=>rfl⟩
theorem zG{α:Type}{k:aJ}{x:α}:∀{l:List (aJ×α)},(k,x)∈l->(look k l).isSome
 |(i,y)::r,h=>by
  simp only[look];split
  ·rfl
  ·rename_i cE;rcases gH.1 h with h|h
   ·cases h;exact absurd rfl cE
   ·exact zG h
theorem abH{s:dM}{k:aJ}(h:k∈fY s):ah s k:=by
 unfold fY at h;rcases iG.1 h with h|h
 ·obtain⟨⟨bz,x⟩,I,rfl⟩:=pv.1 h;exact .inl (zG I)
 ·obtain⟨⟨bz,x⟩,I,rfl⟩:=pv.1 h;exact .inr (zG I)
theorem acC{s:dM}(h:js s)(m:Nat):aJ.loc m∉fY s:=fun hm=>by
 rcases abH hm with I|I
 ·rw[h.1 m]at I;cases I
 ·rw[h.2 m]at I;cases I
theorem Dd{α β:Type}(s:List (aJ×β)):∀(a b:List (aJ×α)),bu s (a++b)=bu s a++bu s b
 |[],b=>rfl
 |(k,x)::r,b=>by
  simp only[iT,bu];cases look k s with
  |none=>simp[Dd s r b]
  |some _=>exact Dd s r b
theorem Uy{α β:Type}(s:List (aJ×β)):∀(l:List (aJ×α)),(∀k x,(k,x)∈l->(look k s).isSome)->bu s l=[]
 |[],_=>rfl
 |(k,x)::r,h=>by
  have I:=h k x Ψ;simp only[bu];cases aE:look k s with
  |none=>rw[aE]at I;cases I
  |some _=>exact Uy s r fun k x ad=>h k x (by simp[ad])
theorem nh{α:Type}(s:List (aJ×α)):bu s s=[]:=Uy s s fun k x h=>zG h
theorem T5{α:Type}{k:aJ}{x:α}:∀{l:List (aJ×α)},look k l=none->cR k x l=l++[(k,x)]
 |[],_=>rfl
 |(i,y)::r,h=>by
  simp only[look]at h;split at h
  ·cases h
  ·rename_i cE;simp[cR,cE,T5 h]
theorem r1{α:Type}(k:aJ):∀(a b:List (aJ×α)),look k (a++b)=match look k a with|some x=>some x|none=>look k b
 |[],b=>rfl
 |(i,y)::r,b=>by
  simp only[iT,look];split
  ·rfl
  ·exact r1 k r b
theorem bI.ob{P:bW}{n:Nat}{args:List ag}{st:bb}{d:be Nat}{K:bb->Prop}{s:dM}{Q:ag->dM->Prop}(aM:bT P n args s Q)(ao:fq s)(af:∀k cs,look k s.b=some cs->look k st.b=some cs)(he:∀k o,look k s.e=some o->look k st.e=some o)
  (aa:ai (ah s) args) (h:∀r aC,Q r aC->fJ s aC/\K ⟨e6 d r st.t,bu s.b st.b++aC.b,bu s.e st.e++aC.e,st.n,st.o++fY aC⟩):bI P n args st d K:=by
 refine .inl ⟨s,Q,fun k cs aD=>⟨af k cs aD,.inl (by simp[aD]),ao.kb k cs aD⟩,fun k o aj=>⟨he k o aj,.inr (by simp[aj]),ao.ke k o aj⟩,ao.obj,aa,aM,fun r aC bG=>?_⟩;obtain⟨I,J⟩:=h r aC bG;exact⟨⟨fun m hm=>.inl (by rw[I.b];exact hm),fun m hm=>.inl (by rw[I.e];exact hm)⟩,J⟩
theorem ck.ob{e1:List cp}{s aC:dM}{Q:ag->dM->Prop}{e:Exit}{st:bb}{c:Prop}{bY:List ag}(lM:e= .ret\/e= .normal)(xO:bn st e1=some (c,bY))(aD:c)(ao:fq aC)(eL:fJ s aC)(af:∀k cs,look k aC.b=some cs->look k st.b=some cs)(cN:∀k o,look k aC.e=some o->look k st.e=some o)
  (aa:ak (ah aC) (dr (bk bY))) (bG:Q (dr (bk bY)) aC):ck e1 s Q e st:=by
 refine⟨lM,?_⟩;rw[xO];have P4:∀{α:Type} (l:List (aJ×α)),(∀k x,(k,x)∈l->ah aC k)->fB aC l:=by
  intro α l;induction l with
  |nil=>intro _;trivial
  |cons x r a8=>obtain⟨k,x⟩:=x;intro h;exact⟨h k x Ψ,a8 fun k x ad=>h k x (by simp[ad])⟩
 exact⟨aD,aC,P4 _ fun k x ad=>.inl (by rw[<-eL.b];exact zG ad),P4 _ fun k x ad=>.inr (by rw[<-eL.e];exact zG ad),fun k cs cT=>⟨af k cs cT,.inl (by simp[cT]),ao.kb k cs cT⟩,fun k o aj=>⟨cN k o aj,.inr (by simp[aj]),ao.ke k o aj⟩,ao.obj,aa,bG⟩
def cz(st:bb)(e1:List cp)(R:ag->Prop):Prop:=match bn st e1 with
 |some (c,bY)=>c/\R (dr (bk bY))
 |none=>dK
theorem ck.at{e1:List cp}{s:dM}{Q:ag->dM->Prop}{e:Exit}{st:bb}(aC:dM)(lM:e= .ret\/e= .normal)(ao:fq aC)(eL:fJ s aC)(af:∀k cs,look k aC.b=some cs->look k st.b=some cs)(cN:∀k o,look k aC.e=some o->look k st.e=some o)
  (h:cz st e1 fun r=>ak (ah aC) r/\Q r aC):ck e1 s Q e st:=by
 unfold cz at h;split at h
 ·rename_i c bY hr;exact ck.ob lM hr h.1 ao eL af cN h.2.1 h.2.2
 ·exact h.elim
theorem gI.ob{P:bW}{nw:List Nat}{n:Nat}{args:List ag}{st:bb}{d:be Nat}{K:bb->Prop}{s aC:dM}{r:ag}(aM:bT P n args s fun dt eB=>dt=r/\eB=aC)(ao:fq s)(et:fq aC)(eL:fJ s aC)(af:∀k cs,look k s.b=some cs->look k st.b=some cs)(he:∀k o,look k s.e=some o->look k st.e=some o)
  (aa:ai (ah s) args) (h:K ⟨e6 d r st.t,bu s.b st.b++aC.b,bu s.e st.e++aC.e,st.n,st.o⟩):gI P false nw n args st d K:=
 .inr ⟨s,aC,r,none,fun k cs aD=>⟨af k cs aD,.inl (by simp[aD]),ao.kb k cs aD⟩,fun k o aj=>⟨he k o aj,.inr (by simp[aj]),ao.ke k o aj⟩,ao.obj,et.obj,⟨fun k aa=>.inl (by rw[eL.b];exact aa),fun k aa=>.inl (by rw[eL.e];exact aa),fun k aa=>by rw[<-eL.b];exact aa,fun k aa=>by rw[<-eL.e];exact aa,fun k aa=>by cases aa⟩,aa,aM,(fun e=>by cases e),h⟩
theorem gI.new{P:bW}{nw:List Nat}{n:Nat}{args:List ag}{st:bb}{d:be Nat}{K:bb->Prop}{m:Nat}{cs:List ag}{r:ag}(aM:bT P n args ⟨[],[]⟩ fun dt eB=>dt=r/\eB=⟨[(.obj m,cs)],[]⟩)(hm:m∈nw)(af:look (.obj m) st.b=none)(he:look (.obj m) st.e=none)
  (aa:ai (fun _=>dK) args) (h:K ⟨e6 d r st.t,st.b++[(.obj m,cs)],st.e,st.n,st.o⟩):gI P false nw n args st d K:=by
 refine .inr ⟨⟨[],[]⟩,⟨[(.obj m,cs)],[]⟩,r,some (.obj m),fun k cs aa=>by simp[look]at aa,fun k cs aa=>by simp[look]at aa,wi,⟨fun j=>by simp[look],fun j=>by simp[look]⟩,⟨fun k aa=>?_,fun k aa=>by simp[look]at aa,fun k aa=>by simp[look]at aa,fun k aa=>by simp[look]at aa,fun k aa=>?_⟩,ux (fun _ h=>h.elim) _ aa,aM,(fun e=>by cases e),?_⟩
 ·simp only[look]at aa;split at aa
  ·rename_i e;subst e;exact .inr rfl
  ·cases aa
 ·simp only[dL]at aa;subst aa;exact⟨⟨m,hm,rfl⟩,af,he,.inl (by simp[look])⟩
 ·have:({after st ⟨[],[]⟩ ⟨[(.obj m,cs)],[]⟩ d r with o:=st.o}:bb)=⟨e6 d r st.t,st.b++[(.obj m,cs)],st.e,st.n,st.o⟩:=by simp[after,GD]
  rw[this];exact h
theorem fq.of{s:dM}(aj:js s)(af:∀x∈s.b,ai (ah s) x.2)(he:∀x∈s.e,∀xs,x.2.xs=some xs->ai (ah s) xs):fq s:=⟨aj,fun k cs aa=>af (k,cs) (v7 aa),fun k o aa xs ad=>he (k,o) (v7 aa) xs ad⟩
@[simp]theorem akg(b:List (aJ×List ag))(e:List (aJ×dw)):fY ⟨b,e⟩=b.map (·.1)++e.map (·.1):=rfl
theorem acg{α:Type}{s b:List (aJ×α)}(h:∀p∈s,look p.1 b=some p.2):∀k x,look k s=some x->look k b=some x:=fun k x ad=>h (k,x) (v7 ad)
theorem cb{S:aJ->Prop}{fy b:List (aJ×List ag)}(h:∀p∈fy,look p.1 b=some p.2/\S p.1/\ai S p.2):oA S fy b:=fun k x ad=>h (k,x) (v7 ad)
theorem cc{S:aJ->Prop}{fy b:List (aJ×dw)}(h:∀p∈fy,look p.1 b=some p.2/\S p.1/\b6 S p.2):oB S fy b:=fun k x ad=>h (k,x) (v7 ad)
theorem aH{α:Type}{s b:List (aJ×α)}(h:∀k x,look k s=some x->look k b=some x:=by first|(refine acg ?_;simp;done)|(intro k x ad;first|exact ad|(simp[ad,nh];done)|(simp[r1,nh,ad];done)|(cases k<;>simp_all[r1];done))):∀k x,look k s=some x->look k b=some x:=h
theorem c8{ob:List aJ}{st st':bb}(I:∀x∈st'.t,get x.1 st.t=x.2/\ak (fun k=> ¬fresh st'.n st'.o k) x.2:=by simp[fresh,ai,ak,bc,ah,Pv.look])(J:∀p∈st'.b,look p.1 st.b=some p.2/\(¬fresh st'.n st'.o p.1)/\ai (fun k=> ¬fresh st'.n st'.o k) p.2:=by simp[fresh,ai,ak,bc,ah,Pv.look])(av:∀p∈st'.e,look p.1 st.e=some p.2/\(¬fresh st'.n st'.o p.1)/\b6 (fun k=> ¬fresh st'.n st'.o k) p.2:=by simp[fresh,ai,ak,b6,ah,Pv.look])(aV:∀m∈ob,m∈st'.o:=by simp):nT ob st st':=⟨I,cb J,cc av,aV⟩
theorem bP.next{ob:List aJ}{jm:Nat->bb->Prop}{k:Nat}{Q:Exit->bb->Prop}{st:bb}(bz:Nat){aC:bb}(aa:bz<k)(aw:jm bz aC)(hw:nT ob st aC):bP ob jm k Q .normal st:=⟨bz,aC,aa,hw,aw⟩
end
end Go.Pv
namespace Go.Proofs.YtlnndmgfngfeiaaGreatDoor
section
open Go Go.Pv
end
end Go.Proofs.YtlnndmgfngfeiaaGreatDoor
namespace Go.Pv
section
open Go Go.RowKit
def lb:List (Int×ag)->List ag
 |[]=>[]
 |(k,v)::r=>.int .i64 k::v::lb r
def lY(l:List (Int×ag)):List ag:= .hdm l.length (List.range l.length)::lb l
def vn(k:Int):List (Int×ag)->be ag
 |[]=>none
 |(i,v)::r=>if k=i then some v else vn k r
def qt(k:Int)(v:ag):List (Int×ag)->be (List (Int×ag))
 |[]=>none
 |(i,w)::r=>if k=i then some ((k,v)::r)else match qt k v r with|some dt=>some ((i,w)::dt)|none=>none
def np(k:Int)(v:ag)(l:List (Int×ag)):List (Int×ag):=match qt k v l with|some cQ=>cQ|none=>l++[(k,v)]
@[simp]theorem aj1:[ag.hdm 0 []]=lY []:=rfl
theorem O3:∀a b,lb (a++b)=lb a++lb b
 |[],_=>rfl
 |(k,v)::r,b=>by simp[lb,O3 r b]
theorem RA(k:Int):∀l,v8 .i (.int .i64 k) (lb l)=some (vn k l)
 |[]=>rfl
 |(i,v)::r=>by
  simp only[lb,v8,vW,vn];by_cases h:k=i
  ·simp[h]
  ·have:(k==i)=false:=by simp[h]
   simp[h,RA k r,this]
theorem Mh{k:Int}{v:ag}:∀{l cQ},qt k v l=some cQ->cQ.length=l.length
 |[],_,h=>by simp[qt]at h
 |(i,w)::r,cQ,h=>by
  simp only[qt]at h;split at h
  ·cases h;rfl
  ·split at h
   ·rename_i dt hr;cases h;simp[Mh hr]
   ·cases h
theorem RF(k:Int)(v:ag):∀l,x3 .i (.int .i64 k) v (lb l)=some ((qt k v l).map lb)
 |[]=>rfl
 |(i,w)::r=>by
  simp only[lb,x3,vW,qt];by_cases h:k=i
  ·subst h;simp[lb]
  ·simp only[and_self,if_true,h,if_false,dO,RF k v r];have:(k==i)=false:=by simp[h]
   rw[this];cases qt k v r<;>simp[lb]
@[simp]theorem acQ(k:Int)(v:ag)(l:List (Int×ag)):uD .i (.int .i64 k) v (lY l)=some (lY (np k v l)):=by
 simp only[lY,uD,Rb,Bool.true_eq_false,reduceCtorEq,if_false,RF,np];cases h:qt k v l with
 |some cQ=>simp[Mh h]
 |none=>simp[O3,lb,List.range_succ]
@[simp]theorem mW(f:aJ->be (List ag))(m:aJ)(l:List (Int×ag))(z:ag)(ok:Bool)(k:Int)(hm:f m=some (lY l)):qQ f .i z ok (.gmap m) (.int .i64 k)=(match vn k l with
  |some v=>some (True,if ok then .tuple [v,.bool true]else v)
  |none=>some (True,if ok then .tuple [z,.bool false]else z)):=by
 simp only[acN,hm,lY,Rb,Bool.true_eq_false,reduceCtorEq,if_false,RA];cases vn k l<;>rfl
def bc(n:Nat)(seen:List Nat)(m:aJ):List ag:=[.hdi n seen n,.gmap m]
@[simp]theorem ako(m:aJ)(l:List (Int×ag)):CR m (lY l)=some (bc l.length [] m):=rfl
@[simp]theorem akk(l:List (Int×ag)):iB (lY l)=false:=rfl
theorem JU(b:Nat):∀(n:Nat) (l:List (Int×ag)),om b (List.range' n l.length) (lb l)=(if n<=b then(l[b-n]?).map fun x=>.tuple [.int .i64 x.1,x.2]else none)
 |n,[]=>by simp[om,lb]
 |n,(k,v)::r=>by
  simp only[e3,List.range'_succ,lb,om];by_cases h:n=b
  ·subst h;simp
  ·rw[bf h,JU b (n+1) r];by_cases J:n<=b
   ·rw[bN J,bN Ω];have:b-n=(b-(n+1))+1:=Ω
    rw[this];simp
   ·rw[bf J,bf Ω]
@[simp]theorem acL(f:aJ->be (List ag))(gT mk:aJ)(n:Nat)(seen:List Nat)(b:Nat)(l:List (Int×ag))(aw:f gT=some (bc n (seen++[b]) mk))(hm:f mk=some (lY l))(aK:n=l.length):tf f (.ptr gT 0)=(l[b]?).map fun x=>(True,.tuple [.int .i64 x.1,x.2]):=by subst aK;simp only[acM,aw,hm,bc,lY,List.getLast?_append,List.getLast?_singleton,Option.some_or,List.range_eq_range',JU,Nat.zero_le,if_true,Nat.sub_zero,Option.map_map];cases l[b]?<;>simp
theorem WC{st:bb}{d:Nat}{K:bb->Prop}{gT mk:aJ}{n:Nat}{seen:List Nat}{l:List (Int×ag)}(aw:look gT st.b=some (bc n seen mk))(hm:look mk st.b=some (lY l))(aK:n=l.length)
  (I:(∀b,b<n->b∈seen)->K {st with t:=put d (.tuple [.bool false]) st.t}) (J:∀b k v,l[b]? =some (k,v)->b∉seen->K {st with t:=put d (.tuple [.bool true,.int .i64 k,v]) st.t,b:=cR gT (bc n (seen++[b]) mk) st.b}):
  xe st d (.ptr gT 0) K:=by
 subst aK;simp only[xe,aw,bc,hm,lY,RM,and_self,true_and];refine⟨fun h=>I fun b af=>h b (by simpa using af),fun b k v IY af=>?_⟩;rw[List.range_eq_range',JU]at IY;simp only[Nat.zero_le,if_true,Nat.sub_zero,hT,ag.tuple.injEq,AB,and_true]at IY;obtain⟨⟨bz,v'⟩,aq,aU,bR⟩:=IY;simp only at aU bR;subst aU bR;exact J b bz v' aq af
theorem aes{n:Nat}{seen:List Nat}(a7:seen.Nodup)(b7:∀b∈seen,b<n)(j4:∀b,b<n->b∈seen):seen.Perm (List.range n):=(List.perm_ext_iff_of_nodup a7 List.nodup_range).2 fun b=>⟨fun h=>by simpa using b7 b h,fun h=>j4 b (by simpa using h)⟩
theorem TC{n:Nat}{seen:List Nat}(a7:seen.Nodup)(b7:∀b∈seen,b<n):seen.length<=n:=by have:=ag0 a7 (l₂:=List.range n) (fun b af=>by simpa using b7 b af);simpa using this
theorem afr{n b:Nat}{seen:List Nat}(a7:seen.Nodup)(b7:∀b∈seen,b<n)(af:b<n)(aK:b∉seen):seen.length<n:=by have I:(b::seen).Nodup:=List.nodup_cons.2 ⟨aK,a7⟩;have:=TC I (n:=n) (by simp;exact⟨af,b7⟩);simp at this;omega
theorem S5{α:Type}:∀(l pre:List α),(List.range' pre.length l.length).filterMap (fun b=>(pre++l)[b]?)=l
 |[],_=>rfl
 |x::r,pre=>by have a8:=S5 r (pre++[x]);simp only[dF,List.length_singleton,l2,List.singleton_append]at a8;simp[List.range'_succ,a8]
theorem afq{α:Type}{l:List α}{seen:List Nat}(a7:seen.Nodup)(b7:∀b∈seen,b<l.length)(j4:∀b,b<l.length->b∈seen):(seen.filterMap fun b=>l[b]?).Perm l:=by have I:=(aes a7 b7 j4).filterMap fun b=>l[b]?;have J:=S5 l [];simp only[nj,List.nil_append,<-List.range_eq_range']at J;rwa[J]at I
theorem adf{b:Nat}{seen:List Nat}(a7:seen.Nodup)(aK:b∉seen):(seen++[b]).Nodup:=by rw[ss];exact⟨a7,Ψ,by simp;intro a b4 e;subst e;exact aK b4⟩
theorem ct.start{w:World}{ν:aT}(gl:nQ w ν){s:dM}{args:List ag}{vs:Array Value}(pT:js s)(aO:Good (gE ν s) w ν s.b s.e)(ad:sN ν s)(hr:cD w ν args vs.toList):
  ct ⟨w,ν,gE ν s,vs.size,fY s,gl,[]⟩ ⟨ki 0 args,s.b,s.e,0,fY s⟩ {tmps:=vs,defers:=[]} w ν:=by
 have o4:=CW hr;have gh:vs.size=args.length:=by simpa using o4
 have od:∀k,fresh 0 (fY s) k->ν.bx k=none/\ν.ow k=none/\∀j b,¬ν.tr k j b:=by
  intro k aa;cases k with
  |loc m=>exact⟨(ad _).1 (pT.1 m),(ad _).2.1 (pT.2 m),(ad _).2.2⟩
  |obj m=>
   simp only[fresh,true_and]at aa;refine⟨?_,?_,(ad _).2.2⟩
   ·refine(ad _).1 ?_;cases h:look (.obj m) s.b with
    |none=>rfl
    |some x=>exact absurd (zP (.inl (by simp[h]))) aa
   ·refine(ad _).2.1 ?_;cases h:look (.obj m) s.e with
    |none=>rfl
    |some x=>exact absurd (zP (.inr (by simp[h]))) aa
 have lO:∀m,(ν.bx (.obj m)≠none\/ν.ow (.obj m)≠none)-> .obj m∈fY s:=by
  intro m hm;refine Classical.byContradiction fun aD=>?_;obtain⟨I,J,_⟩:=od (.obj m) ⟨trivial,aD⟩;rcases hm with hm|hm
  ·exact hm I
  ·exact hm J
 refine⟨⟨aO.alt,fun k cs aa=>?_,aO.inj,fun g o eU=>?_,aO.oinj,aO.obx,aO.one,aO.otr⟩,⟨rfl,rfl,rfl,da _,fun _ _ _=>rfl,fun b o h=>⟨h,rfl⟩,fun b o h=>.inl h,fun n b h=>h,fun n b h=>lO n (.inl (by rw[h];simp)),fun m n u h=>⟨n,u,h,.inl ⟨rfl,rfl⟩⟩,fun m n u h=>lO m (.inr (by rw[h];simp)),fun k j _ _ b h=>absurd h ((ad k).2.2 j b),fun k j b h=>absurd h ((ad k).2.2 j b),fun k j b h=>absurd h ((ad k).2.2 j b),fun _ _ _=>rfl,fun j n u b aq _=>(by rw[(ad _).2.1 (pT.2 j)]at aq;cases aq)⟩,rfl,rfl,fun i=>?_,od,fun _ ad=>(by cases ad),fun m hm aM=>aM.2 hm⟩
 ·obtain⟨bl,us,el,g1,g2,g3⟩:=aO.box k cs aa;exact⟨bl,us,el,g1,.inl g2,g3⟩
 ·obtain⟨v,us,g1,g2,g3,g4⟩:=aO.own g o eU;exact⟨v,us,g1,g2,fun bl er=>⟨.inl (g3 bl er).1,(g3 bl er).2⟩,g4⟩
 ·rw[Ei];by_cases aw:i<args.length
  ·rw[bN Ω];have ui:args[i]? =some args[i]:=bO aw;obtain⟨v,aq,aU⟩:=Gi i hr ui;have DV:vs[i]? =some v:=by simpa using aq
   show aR w ν _ (vs.getD i undef);rw[Array.getD_eq_getD_getElem?,DV];simpa[List.getD,ui]using aU
  ·rw[bf Ω];simp[aR]
theorem bT.sem{P:bW}{f:FuncId}{args:List ag}{s:dM}{Q:ag->dM->Prop}(pT:js s)
  (h:∀(w:World) (ν:aT) (vs:Array Value) (gl:nQ w ν),vs.size=args.length->ct ⟨w,ν,gE ν s,vs.size,fY s,gl,[]⟩ ⟨ki 0 args,s.b,s.e,0,fY s⟩ {tmps:=vs,defers:=[]} w ν->
   va P f vs w fun e w'=> ∃v st' cV ν' r aC,e= .returned v/\ct ⟨w,ν,gE ν s,vs.size,fY s,gl,[]⟩ st' cV w' ν'/\aR w' ν' r v/\fB aC s.b/\fB aC s.e/\oA (ah aC) aC.b st'.b/\oB (ah aC) aC.e st'.e/\js aC/\ak (ah aC) r/\Q r aC):bT P f args s Q:=by
 intro w ν vs gl aO ad hr;have gh:vs.size=args.length:=by simpa using CW hr
 have pR:=ct.start gl pT aO ad hr;have hm:∀(e:Ending) (w':World),(∃v st' cV ν' r aC,e= .returned v/\ct ⟨w,ν,gE ν s,vs.size,fY s,gl,[]⟩ st' cV w' ν'/\aR w' ν' r v/\fB aC s.b/\fB aC s.e/\oA (ah aC) aC.b st'.b/\oB (ah aC) aC.e st'.e/\js aC/\ak (ah aC) r/\Q r aC)->
   ∃v r aC ν',e= .returned v/\Q r aC/\aR w' ν' r v/\Good (fun bl=>gE ν s bl\/w.heap.size<=bl) w' ν' aC.b aC.e/\sN ν' aC/\js aC/\sC ⟨w,ν,gE ν s,0,fY s,gl,[]⟩ w' ν':=by
  rintro e w' ⟨v,st',cV,ν',r,aC,rfl,dv,wv,kb,ke,b9,cx,dp,c6,cH⟩;refine⟨v,r,aC,ν'.cut (ah aC),rfl,cH,sd (nS.cut _ w' ν') _ _ c6 wv,dv.good.cut b9 cx (fun bl h _=>h),?_,dp,?_⟩
  ·intro k;refine⟨?_,?_,?_⟩;rotate_left 2
   ·rintro j b ⟨ao,af⟩;obtain⟨t1,t2⟩:=dv.fr.trn k j b af;rcases ao with ao|ao<;>obtain⟨x,pU⟩:=fv.1 ao
    ·obtain⟨bl,bF,el,aq,_⟩:=dv.good.box k x (b9 k x pU).1;rw[t1]at aq;cases aq
    ·obtain⟨v',bF,aq,_⟩:=dv.good.own k x (cx k x pU).1;rw[t2]at aq;cases aq
   ·intro aa;by_cases ao:ah aC k
    ·rw[aT.cut_bx ao];rcases ao with ao|ao
     ·rw[aa]at ao;cases ao
     ·obtain⟨x,pU⟩:=fv.1 ao;obtain⟨v',bF,aq,_⟩:=dv.good.own k x (cx k x pU).1;rcases dv.good.one k with I|I
      ·exact I
      ·rw[I]at aq;cases aq
    ·exact(aT.cut_no ao).1
   ·intro aa;by_cases ao:ah aC k
    ·rw[aT.cut_ow ao];rcases ao with ao|ao
     ·obtain⟨x,pU⟩:=fv.1 ao;obtain⟨bl,bF,el,aq,_⟩:=dv.good.box k x (b9 k x pU).1;rcases dv.good.one k with I|I
      ·rw[I]at aq;cases aq
      ·exact I
     ·rw[aa]at ao;cases ao
    ·exact(aT.cut_no ao).2.1
  ·refine⟨dv.fr.os,dv.fr.tape,dv.fr.output,dv.fr.size,dv.fr.block,dv.fr.keep,dv.fr.fresh,fun n b h=>?_,dv.fr.obn,fun m n u h=>?_,dv.fr.obr,fun k j bz e4 b I J=>dv.fr.trd k j bz e4 b I.2 J.2,fun k j b af=>dv.fr.trb k j b af.2,fun k j b af=>(by rw[aT.cut_bx af.1,aT.cut_ow af.1];exact dv.fr.trn k j b af.2),dv.fr.sh,fun j n u b aq aU=>dv.fr.nrow j n u b (aT.cut_someO aq).2 aU⟩
   ·have ao:ah aC (.obj n):=by
     cases aE:look (.obj n) s.b with
     |none=>rw[(ad _).1 aE]at h;cases h
     |some x=>exact Ci kb _ (by simp[aE])
    rw[aT.cut_bx ao];exact dv.fr.obj n b h
   ·have ao:ah aC (.obj m):=by
     cases aE:look (.obj m) s.e with
     |none=>rw[(ad _).2.1 aE]at h;cases h
     |some x=>exact Ci ke _ (by simp[aE])
    rw[aT.cut_ow ao];exact dv.fr.row m n u h
 rcases h w ν vs gl gh pR with⟨sU,aD⟩|⟨v,w',aD,xO⟩
 ·exact .inl ⟨sU,aD.mono hm⟩
 ·exact .inr ⟨v,w',aD,hm _ _ xO⟩
theorem ct.grown{C:eH}{st:bb}{a:Act}{w w':World}{ν:aT}(h:ct C st a w ν)(aO:w.grownBy w' none):ct C st a w' ν:=by
 have nz:lA w ν w' ν:=⟨fun b o bg=>⟨bg,NM aO (h.good.alt b o bg)⟩,fun _ _ _ h=>h,fun _ n u _ h=>⟨n,u,h,.inl ⟨rfl,rfl⟩⟩,fun b o bg=>yp (aO.block b (h.good.alt b o bg) Ψ),fun _ _ _ _ h=>h⟩;refine h.over nz rfl ⟨fun b o bg=>Nat.lt_of_lt_of_le (h.good.alt b o bg) aO.size,fun k cs aa=>?_,h.good.inj,fun g o eU=>?_,h.good.oinj,h.good.obx,h.good.one,h.good.otr⟩
  ⟨aO.os.trans h.fr.os,aO.tape.trans h.fr.tape,aO.output.trans h.fr.output,Nat.le_trans h.fr.size aO.size,fun k aa hm=>?_,fun b o bg=>?_,h.fr.fresh,h.fr.obj,h.fr.obn,h.fr.row,h.fr.obr,h.fr.trd,fun k j b af=>⟨(h.fr.trb k j b af).1,Nat.lt_of_lt_of_le (h.fr.trb k j b af).2 aO.size⟩,h.fr.trn,fun b o bg=>(nz.sh b o (h.fr.keep b o bg).1).trans (h.fr.sh b o bg),h.fr.nrow⟩ h.new
 ·obtain⟨bl,us,el,g1,g2,g3,g4,g5⟩:=h.good.box k cs aa;exact⟨bl,us,el,g1,g2,g3,by rw[aO.block bl (Array.getElem?_eq_some_iff.1 g4).1 Ψ];exact g4,pe nz g5⟩
 ·obtain⟨v,us,g1,g2,g3,g4⟩:=h.good.own g o eU;exact⟨v,us,g1,g2.kept aO (by cases v.ownBlock<;>simp),g3,qY nz (fun _ _ _ h=>h) g4⟩
 ·rw[aO.block k (Nat.lt_of_lt_of_le aa h.fr.size) Ψ];exact h.fr.block k aa hm
 ·obtain⟨dh,ed⟩:=h.fr.keep b o bg;exact⟨dh,(nz.A b o dh).2.trans ed⟩
theorem bI.new{P:bW}{n:Nat}{args:List ag}{st:bb}{d:be Nat}{K:bb->Prop}{s:dM}{Q:ag->dM->Prop}(aM:bT P n args s Q)(ao:fq s)(af:∀k cs,look k s.b=some cs->look k st.b=some cs)(he:∀k o,look k s.e=some o->look k st.e=some o)
  (aa:ai (ah s) args) (h:∀r aC,Q r aC->(∀m,ah aC (.obj m)->ah s (.obj m)/\fJ s aC\/ .obj m∉st.o)/\K ⟨e6 d r st.t,bu s.b st.b++aC.b,bu s.e st.e++aC.e,st.n,st.o++fY aC⟩):bI P n args st d K:=by
 refine .inl ⟨s,Q,fun k cs aD=>⟨af k cs aD,.inl (by simp[aD]),ao.kb k cs aD⟩,fun k o aj=>⟨he k o aj,.inr (by simp[aj]),ao.ke k o aj⟩,ao.obj,aa,aM,fun r aC bG=>?_⟩;obtain⟨I,J⟩:=h r aC bG;refine⟨⟨fun m hm=>?_,fun m hm=>?_⟩,J⟩
 ·rcases I m (.inl hm)with⟨_,av⟩|av
  ·exact .inl (by rw[av.b];exact hm)
  ·exact .inr av
 ·rcases I m (.inr hm)with⟨_,av⟩|av
  ·exact .inl (by rw[av.e];exact hm)
  ·exact .inr av
theorem ck.new{e1:List cp}{s:dM}{Q:ag->dM->Prop}{e:Exit}{st:bb}(aC:dM)(lM:e= .ret\/e= .normal)(ao:fq aC)(eL:fB aC s.b/\fB aC s.e)(af:∀k cs,look k aC.b=some cs->look k st.b=some cs)(cN:∀k o,look k aC.e=some o->look k st.e=some o)
  (h:cz st e1 fun r=>ak (ah aC) r/\Q r aC):ck e1 s Q e st:=by
 unfold cz at h;split at h
 ·rename_i c bY hr;refine⟨lM,?_⟩;rw[hr];exact⟨h.1,aC,eL.1,eL.2,fun k cs cT=>⟨af k cs cT,.inl (by simp[cT]),ao.kb k cs cT⟩,fun k o aj=>⟨cN k o aj,.inr (by simp[aj]),ao.ke k o aj⟩,ao.obj,h.2.1,h.2.2⟩
 ·exact h.elim
@[simp]theorem aic{P:bW}{ob:List aJ}{c d:C}{Q:Exit->bb->Prop}{st:bb}{s:Nat}:cP P ob (.seq (.pub s c) d) Q st=vc P ob (.seq c d) Q (uM st s):=by simp only[cP];cases uM st s<;>rfl
@[simp]theorem aib{P:bW}{ob:List aJ}{c d:C}{Q:Exit->bb->Prop}{st:bb}{s:Nat}:cP P ob (.seq (.pubB s c) d) Q st=vc P ob (.seq c d) Q (wu st s):=by simp only[cP];cases wu st s<;>rfl
end
section
open Go Go.RowKit
def Ch(t:List (Nat×ag))(b0:List Nat):List (Nat×ag):=b0.map fun k=>(k,get k t)
@[simp]theorem ajw(t:List (Nat×ag)):Ch t []=[]:=rfl
@[simp]theorem ajv(t:List (Nat×ag))(k:Nat)(b0:List Nat):Ch t (k::b0)=(k,get k t)::Ch t b0:=rfl
def pa(st:bb)(b0:List Nat)(cs:List (Nat×ag)):bb:=⟨Ch st.t b0++cs,st.b,st.e,st.n,st.o⟩
theorem acO(t:List (Nat×ag))(b:List (aJ×List ag))(e:List (aJ×dw))(n:Nat)(o:List aJ)(b0:List Nat)(cs:List (Nat×ag)):pa ⟨t,b,e,n,o⟩ b0 cs=⟨Ch t b0++cs,b,e,n,o⟩:=rfl
def yF{α:Type}(S:Nat->α->bb)(n:Nat)(hA:Nat->α->Prop)(k:Nat)(st:bb):Prop:= ∃i a,i<=n/\k=n-i/\hA i a/\st=S i a
section
variable {P:bW} {ob:List aJ} {st:bb} {Q:Exit->bb->Prop} {c:C} {α:Type}
theorem fM(S:Nat->α->bb)(n:Nat)(hA:Nat->α->Prop)(a0:α)(hw:nT ob st (S 0 a0))(bD:hA 0 a0)(kN:∀a,hA n a->(∀i,iW (get i (S n a).t))->cP P ob c (bP ob (yF S n hA) 0 Q) (S n a))
  (rU:∀i a,i<n->hA i a->(∀j,iW (get j (S i a).t))->cP P ob c (bP ob (yF S n hA) (n-i) Q) (S i a)):cP P ob (.loop c) Q st:=by
 refine y4 (yF S n hA) n _ hw ⟨0,a0,Ω,Ω,bD,rfl⟩ ?_;rintro k s ⟨i,a,aw,rfl,al,rfl⟩ af _;rcases hS i n with h|h
 ·exact rU i a h al af
 ·obtain rfl:i=n:=Ω
  rw[Nat.sub_self];exact kN a al af
theorem bP.rng{S:Nat->α->bb}{n:Nat}{hA:Nat->α->Prop}{i:Nat}(cV:α)(aw:i<n)(al:hA (i+1) cV)(hw:nT ob st (S (i+1) cV)):bP ob (yF S n hA) (n-i) Q .normal st:=⟨n-(i+1),_,Ω,hw,i+1,cV,Ω,rfl,al,rfl⟩
def Dk{α:Type}(S:α->bb)(μ:α->Nat)(hA:α->Prop)(k:Nat)(st:bb):Prop:= ∃a,k=μ a/\hA a/\st=S a
theorem gZ(S:α->bb)(μ:α->Nat)(hA:α->Prop)(a0:α)(hw:nT ob st (S a0))(bD:hA a0)
  (rU:∀a,hA a->(∀j,iW (get j (S a).t))->cP P ob c (bP ob (Dk S μ hA) (μ a) Q) (S a)):cP P ob (.loop c) Q st:=by
 refine y4 (Dk S μ hA) (μ a0) _ hw ⟨a0,rfl,bD,rfl⟩ ?_;rintro k s ⟨a,rfl,al,rfl⟩ af _;exact rU a al af
theorem bP.whl{S:α->bb}{μ:α->Nat}{hA:α->Prop}{k:Nat}(cV:α)(hm:μ cV<k)(al:hA cV)(hw:nT ob st (S cV)):bP ob (Dk S μ hA) k Q .normal st:=⟨μ cV,_,hm,hw,cV,rfl,al,rfl⟩
end
theorem qU{p:Prop}(h:p:=by(try simp[*]);(repeat' first|with_reducible refine aA ?_|with_reducible refine aX (by assumption) ?_|with_reducible refine aY (by assumption) ?_|simp[*]);(all_goals first|exact bP.rng () (by assumption) (by first|assumption|trivial) c8|exact bP.rng _ (by assumption) (by assumption) c8)):p:=h
end
section
open Go Go.RowKit
def uI(s:dM)(n:Nat)(k:aJ):Prop:=ah s k\/ ∃m,m<n/\k= .loc m
section
variable {α:Type}
end
end
section
open Go Go.RowKit
section
variable {P:bW} {ob:List aJ} {st:bb} {Q:Exit->bb->Prop} {c:C} {α:Type}
theorem Bd(b0:List Nat)(cs:Nat->α->List (Nat×ag))(n:Nat)(hA:Nat->α->Prop)(a0:α)(hw:nT ob st (pa st b0 (cs 0 a0)))(bD:hA 0 a0)(kN:∀a,hA n a->(∀i,iW (get i (pa st b0 (cs n a)).t))->cP P ob c (bP ob (yF (fun i a=>pa st b0 (cs i a)) n hA) 0 Q) (pa st b0 (cs n a)))
  (rU:∀i a,i<n->hA i a->(∀j,iW (get j (pa st b0 (cs i a)).t))->cP P ob c (bP ob (yF (fun i a=>pa st b0 (cs i a)) n hA) (n-i) Q) (pa st b0 (cs i a))):cP P ob (.loop c) Q st:=
 fM (fun i a=>pa st b0 (cs i a)) n hA a0 hw bD kN rU
theorem Ov(b0:List Nat)(cs:α->List (Nat×ag))(μ:α->Nat)(hA:α->Prop)(a0:α)(hw:nT ob st (pa st b0 (cs a0)))(bD:hA a0)
  (rU:∀a,hA a->(∀j,iW (get j (pa st b0 (cs a)).t))->cP P ob c (bP ob (Dk (fun a=>pa st b0 (cs a)) μ hA) (μ a) Q) (pa st b0 (cs a))):cP P ob (.loop c) Q st:=
 gZ (fun a=>pa st b0 (cs a)) μ hA a0 hw bD rU
end
attribute [simp] acO
end
end Go.Pv
namespace Go.Proofs.YtlnndmgfngfeiaaGreatDoor
section
open Go Go.Pv
def Na:C:=(ae [cl 6 false] (ae [ab 7 0,ab 8 1,cC 9 .geq 7 8,ab 10 9,cj 10 true 11 0,cj 10 true 12 2,aB 10 true (cC 13 .leq 11 12),dq 14 10 13,ab 6 14] .ret))
@[simp] def SR:List cp:=[.tmp 6]
def yT:C:=(ae [eA 2 0,ps 4 1] (.seq (ae [a6 7 0 1 2,aW 8 1 7,a1 9 .eql 8 1] (bt 9 (ae [ab 10 1,a6 11 1 1 2,aW 12 1 11,dJ 13 212 10 12,ab 4 13] .ret) .skip)) (.seq (ae [a6 14 3 1 2,aW 15 1 14,cy 16 15,cA 17 0] (ir 18 17 16 (.seq (.block 1 (ae [di 19 4 15 17,bH 20 4 19,jk 6 gi,bM 4 6 20] (.region [bH 21 4 6,ab 22 1,dJ 23 156 21 22,ab 1 23]))) (.region [a1 24 .add 17 1,ab 17 24])))) (ae [ab 25 1,ab 4 25] .ret))))
@[simp] def Aa:List cp:=[.tmp 4]
def M0:C:=(ae [cl 2 false] (.seq (ae [cA 3 0] (.block 0 (.loop (.seq (ae [ab 5 3,ab 6 0,bm 7 (.slen (.t 6)),cC 8 .lss 5 7] (bt 8 .skip (.exit 0))) (.seq (.block 1 (ae [ab 11 0,ab 12 3,bm 13 (.sidx (.t 11) (.t 12)),bm 14 (.bin .geq false (.t 13) (.c (.int .u8 97))),ab 15 14,cj 15 true 16 0,cj 15 true 17 3,aB 15 true (bm 18 (.sidx (.t 16) (.t 17))),aB 15 true (bm 19 (.bin .leq false (.t 18) (.c (.int .u8 122)))),dq 20 15 19,ab 4 20] (ae [ab 21 4,eP 22 21,ab 23 22,cj 23 true 24 3,aB 23 true (a1 25 .eql 24 0),cj 23 true 26 25,cj 26 false 27 0,cj 26 false 28 3,aB 26 false (bm 29 (.sidx (.t 27) (.t 28))),aB 26 false (bm 30 (.bin .neq false (.t 29) (.c (.int .u8 45)))),cj 26 false 31 30,cj 31 true 32 0,cj 31 true 33 3,aB 31 true (bm 34 (.sidx (.t 32) (.t 33))),aB 31 true (bm 35 (.conv .i64 (.t 34))),aB 31 true (eg 36 127 [.t 35,(ca 48),(ca 57)]),aB 31 true (eP 37 36),aB 26 false (dq 38 31 37),aB 23 true (c7 39 26 38),dq 40 23 39] (bt 40 (ae [cl 2 false] .ret) .skip)))) (.region [ab 9 3,a1 10 .add 9 1,ab 3 10])))))) (ae [ab 41 0,bm 42 (.slen (.t 41)),eg 43 127 [.t 42,(ca 1),(ca 12)],ab 2 43] .ret)))
@[simp] def z7:List cp:=[.tmp 2]
def Nj:C:=(ae [ps 4 1] (ae [ab 7 0,cy 8 7,ab 5 8] (.seq (.block 0 (.loop (.seq (ae [ab 9 5,a1 10 .gtr 9 0,ab 11 10,cj 11 true 12 0,cj 11 true 13 5,aB 11 true (a1 14 .sub 13 1),aB 11 true (di 15 1 12 14),aB 11 true (aW 16 1 15),cj 11 true 17 1,aB 11 true (cC 18 .geq 16 17),dq 19 11 18] (bt 19 .skip (.exit 0))) (.block 1 (.region [ab 20 5,a1 21 .sub 20 1,ab 5 21]))))) (.seq (ae [ab 22 5,ab 23 0,cy 24 23,cC 25 .lss 22 24,ab 26 25,cj 26 true 27 0,cj 26 true 28 5,aB 26 true (di 29 1 27 28),aB 26 true (aW 30 1 29),cj 26 true 31 1,aB 26 true (cC 32 .eql 30 31),dq 33 26 32] (bt 33 (ae [ab 34 0,ab 4 34] .ret) .skip)) (ae [ff 35 1 3 [],ab 36 0,ab 37 5,bm 38 (.lsl 1 (.t 36) none (some (.t 37))),kp 39 1 3 35 38,ab 6 39] (ae [ab 40 6,ab 41 1,ff 42 1 3 [.t 41],kp 43 1 3 40 42,ab 6 43] (ae [ab 44 6,ab 45 0,ab 46 5,bm 47 (.lsl 1 (.t 45) (some (.t 46)) none),kp 48 1 3 44 47,ab 4 48] .ret)))))))
@[simp] def yf:List cp:=[.tmp 4]
def lD:C:=(ae [eA 1 0,cl 2 false] (.seq (ae (a6 3 0 1 1::aW 4 1 3::a1 5 .neq 4 1::ab 6 5::aB 6 true (a6 7 0 1 1)::aB 6 true (aW 8 1 7)::aB 6 true (a1 9 .neq 8 3)::dq 10 6 9::ab 11 10::aB 11 true (a6 12 1 1 1)::aB 11 true (aW 13 1 12)::aB 11 true (a1 14 .neq 13 0)::dq 15 11 14::ab 16 15::aB 16 false (a6 17 0 1 1)::aB 16 false (aW 18 1 17)::aB 16 false (a1 19 .neq 18 2)::cj 16 false 20 19::aB 20 true (a6 21 2 1 1)::aB 20 true (aW 22 1 21)::kF 20 true 23 (.bin .neq false (.t 22) (.c (.str [])))::aB 16 false (dq 24 20 23)::c7 25 16 24::ab 26 25::aB 26 false (a6 27 0 1 1)::aB 26 false (aW 28 1 27)::aB 26 false (a1 29 .neq 28 4)::cj 26 false 30 29::aB 30 true (a6 31 3 1 1)::aB 30 true (aW 32 1 31)::aB 30 true (cy 33 32)::aB 30 true (a1 34 .gtr 33 0)::aB 26 false (dq 35 30 34)::c7 36 26 35::[]) (bt 36 (ae [cl 2 false] .ret) .skip)) (.seq (ae [a6 37 0 1 1,aW 38 1 37] (.block 0 (ae [a1 40 .eql 38 0,ab 39 40] (bt 39 (ae [cl 2 true] .ret) (ae [a1 42 .eql 38 1,ab 41 42] (bt 41 (ae [a6 43 1 1 1,aW 44 1 43,eg 45 127 [.t 44,(ca 0),(ca 100000)],ab 2 45] .ret) (ae [a1 47 .eql 38 2,ab 46 47] (bt 46 (ae [a6 48 2 1 1,aW 49 1 48,cW 50 188 49,ab 2 50] .ret) (ae [a1 52 .eql 38 3,ab 51 52] (bt 51 (ae [a6 53 1 1 1,aW 54 1 53,eg 55 127 [.t 54,(ca (-1000000000)),(ca 1000000000)],ab 2 55] .ret) (ae [a1 57 .eql 38 4,ab 56 57] (bt 56 (ae [a6 58 3 1 1,aW 59 1 58,cy 60 59,a1 61 .eql 60 2,ab 62 61,aB 62 true (a6 63 3 1 1),aB 62 true (aW 64 1 63),aB 62 true (k0 65 4 64 0),aB 62 true (bH 66 4 65),aB 62 true (cW 67 270 66),dq 68 62 67,ab 69 68,aB 69 true (a6 70 3 1 1),aB 69 true (aW 71 1 70),aB 69 true (k0 72 4 71 1),aB 69 true (bH 73 4 72),aB 69 true (cW 74 270 73),dq 75 69 74,ab 2 75] .ret) .skip)))))))))))) (ae [cl 2 false] .ret))))
@[simp] def ls:List cp:=[.tmp 2]
def M8:C:=(ae [eA 1 0,cl 2 false] (ae [bH 3 4 1,eg 4 283 [.t 3,(ca 5000)],a1 5 .leq 4 5000,ab 6 5,aB 6 true (bH 7 4 1),aB 6 true (cW 8 270 7),dq 9 6 8,ab 2 9] .ret))
@[simp] def ae0:List cp:=[.tmp 2]
def Nh:C:=(ae [eA 2 0,cA 4 0] (ae [cA 5 1] (.seq (ae [a6 8 3 1 2,aW 9 1 8,cy 10 9,cA 11 0] (ir 12 11 10 (.seq (.block 1 (ae [di 13 4 9 11,bH 14 4 13,jk 7 gi,bM 4 7 14] (.seq (ae [ab 15 5,ab 16 1,cC 17 .gtr 15 16] (bt 17 (ae [ab 18 5,ab 4 18] .ret) .skip)) (.region [ab 19 5,bH 20 4 7,ab 21 1,ab 22 5,cC 23 .sub 21 22,dJ 24 283 20 23,cC 25 .add 19 24,ab 5 25])))) (.region [a1 26 .add 11 1,ab 11 26])))) (ae [ab 27 5,ab 4 27] .ret))))
@[simp] def KA:List cp:=[.tmp 4]
def wE:List (Nat×du):=[
 (3,⟨1,8,.int .i64,.int .i64 0⟩),
 (5,⟨1,1,.int .u8,.int .u8 0⟩),
 (9,⟨1,16,.str,.str []⟩),
 (38,⟨1,24,.slice 40,.slice 4 .nil []⟩),
 (40,⟨4,56,.struct [(0,3),(1,3),(2,9),(3,38)],.agg [.int .i64 0,.int .i64 0,.str [],.slice 4 .nil []]⟩),
 (136,⟨1,24,.slice 3,.slice 1 .nil []⟩)]
theorem iQ:fS aP wE=true:=by kernel_rfl
theorem adU:cF wE Na SR 3 Tryz.f127=true:=by kernel_rfl
theorem X5:aP.funcs[(127:Nat)]? =some Tryz.f127:=Tryz.func127
theorem Cz:cF wE yT Aa 2 Tryz.f156=true:=by kernel_rfl
theorem Bf:aP.funcs[(156:Nat)]? =some Tryz.f156:=Tryz.func156
theorem adL:cF wE M0 z7 1 Tryz.f188=true:=by kernel_rfl
theorem XW:aP.funcs[(188:Nat)]? =some Tryz.f188:=Tryz.func188
theorem ad2:cF wE Nj yf 2 Tryz.f212=true:=by kernel_rfl
theorem Yd:aP.funcs[(212:Nat)]? =some Tryz.f212:=Tryz.func212
theorem mx:cF wE lD ls 1 Tryz.f270=true:=by kernel_rfl
theorem me:aP.funcs[(270:Nat)]? =some Tryz.f270:=Tryz.func270
theorem adS:cF wE M8 ae0 1 Tryz.f271=true:=by kernel_rfl
theorem X3:aP.funcs[(271:Nat)]? =some Tryz.f271:=Tryz.func271
theorem ad0:cF wE Nh KA 2 Tryz.f283=true:=by kernel_rfl
theorem Yb:aP.funcs[(283:Nat)]? =some Tryz.f283:=Tryz.func283
end
end Go.Proofs.YtlnndmgfngfeiaaGreatDoor
namespace Go.Pv
section
open Go
def T.ap(tD:Int->T):T->T
 | .var n=>tD n
 | .pair a b=>.pair (a.ap tD) (b.ap tD)
 |t=>t
def afs(s:List jM)(v:Int):T:=(Ve s v).getD (.var v)
abbrev LX(s:List jM):Prop:=s.Pairwise fun x y=>x.v<y.v
def one(v:Int)(x:T)(w:Int):T:=if w=v then x else .var w
end
end Go.Pv
namespace Go.Proofs.YtlnndmgfngfeiaaGreatDoor
section
open Go Go.Pv
mutual
def lF:ba->Int->Int
 | .mk _ _ _ args,m=>cntLS args 1 m
def cntLS:List ba->Int->Int->Int
 |[],n,_=>n
 |x::xs,n,m=>if m<n then n else cntLS xs (n+lF x (m-n)) m
end
mutual
theorem HD:∀(t:ba) (m:Int),0<=m->1<=lF t m/\lF t m<=m+1
 | .mk _ _ _ args,m,h=>by simp only[lF];exact N4 args 1 m h Ω Ω
theorem N4:∀(l:List ba) (n m:Int),0<=m->1<=n->n<=m+1->1<=cntLS l n m/\cntLS l n m<=m+1
 |[],n,m,_,I,J=>by simp only[cntLS];exact⟨I,J⟩
 |x::xs,n,m,bD,I,J=>by
  simp only[cntLS];split
  ·exact⟨I,J⟩
  ·have:=HD x (m-n) Ω;exact N4 xs _ m bD Ω Ω
end
theorem HC:∀(t:T) (m:Int),0<=m->(lF t.tm m<=m↔(t.size:Int)<=m)/\((t.size:Int)<=m->lF t.tm m=t.size)
 | .pair a b,m,h=>by
  have b4:=T.size_pos a;have af:=T.size_pos b;simp only[T.tm,lF,cntLS,T.size];by_cases I:m<1
  ·rw[bN I];exact⟨Ω,fun h=>Ω⟩
  ·rw[bf I];obtain⟨bV,a2⟩:=HC a (m-1) Ω;have a3:=HD a.tm (m-1) Ω;by_cases J:(a.size:Int)<=m-1
   ·have e:=a2 J;rw[e];by_cases av:m<1+(a.size:Int)
    ·omega
    ·rw[bf av];obtain⟨bQ,b3⟩:=HC b (m-(1+a.size)) Ω;refine⟨Ω,fun h=>?_⟩;rw[b3 Ω];omega
   ·have:¬lF a.tm (m-1)<=m-1:=fun h=>J (bV.1 h);rw[bN Ω];exact⟨Ω,fun h=>Ω⟩
 | .nil,m,h=>by simp[T.tm,lF,cntLS,T.size]
 | .var _,m,h=>by simp[T.tm,lF,cntLS,T.size]
 | .sym _,m,h=>by simp[T.tm,lF,cntLS,T.size]
 | .num _,m,h=>by simp[T.tm,lF,cntLS,T.size]
theorem Wg(t:ba)(m:Int):lF t m=cntLS t.args 1 m:=by cases t;rfl
theorem ago(t:ba):∀m:Int,0<=m->m<=1000000->cg aP 283 [enc t,.int .i64 m] (.int .i64 (lF t m)):=by
 suffices H:∀(k:Nat) (t:ba),t.sz<=k->∀m:Int,0<=m->m<=1000000->cg aP 283 [enc t,.int .i64 m] (.int .i64 (lF t m))from H _ t (da _)
 intro k;induction k with
 |zero=>intro t aI;cases t;simp[ba.sz]at aI
 |succ k a8=>
  intro t aI m bD I;refine bJ iQ Yb ad0 fun aG=>?_;unfold Nh;have fW:t.args.length<=68719476736:=by rw[y2]at aG;simp[j1,iW,jA,bA]at aG;omega
  simp;refine Bd [1,9,10] (fun i (n:Int)=>[(5,.int .i64 n),(11,.int .i64 i)]) t.args.length (fun i n=>(1<=n/\n<=m+1)/\cntLS (t.args.drop i) n m=lF t m) 1 c8 ⟨Ω,by simp[Wg]⟩ (fun n al _=>?_) (fun i n aw al _=>?_)
  ·simp;(with_reducible repeat' first|refine aA ?_|simp);simp[b1,KA,bn,bp,bk];have:=al.2;simp[cntLS]at this;exact this
  ·obtain⟨⟨oc,rR⟩,al⟩:=al;obtain⟨x,ad,dn⟩:=gd aw;have a7:t.args.drop i=x::t.args.drop (i+1):=by rw[List.drop_eq_getElem_cons aw,dn]
   have ev:x.sz<=k:=by have:=afV (eR ad);omega
   rw[a7]at al;simp only[cntLS]at al;simp[aw,dn];by_cases af:m<n
   ·rw[bN af]at al;(with_reducible repeat' first|refine aA ?_|simp[af]);simp[b1,KA,bn,bp,bk];exact al
   ·rw[bf af]at al;have aD:=HD x (m-n) Ω;((with_reducible repeat' first|refine aA ?_|refine aX (a8 x ev (m-n) Ω Ω) ?_|refine aY (a8 x ev (m-n) Ω Ω) ?_|simp[af]|((first|apply cu|apply cw|apply cv)<;>intro h<;>try simp at h))<;>(try exact cK));exact bP.rng (n+lF x (m-n)) aw ⟨Ω,al⟩ c8
theorem ee(n lo aw:Int):cg aP 127 [.int .i64 n,.int .i64 lo,.int .i64 aw] (.bool (decide (lo<=n/\n<=aw))):=by
 refine bJ iQ X5 adU fun aG=>?_;unfold Na;simp;((with_reducible repeat' first|refine aA ?_|simp|((first|apply cu|apply cw|apply cv)<;>intro h<;>try simp at h))<;>(try exact cK));all_goals simp[b1,SR,bn,bp,bk]
 all_goals first|omega|(simp;done)|(simp;omega)
def fx:ba->Bool
 | .mk k n s [a,b]=>k==4&&n==0&&s==[]&&fx a&&fx b
 | .mk k n s []=>kT k n s
 |_=>false
theorem Ap:∀x:T,fx x.tm=x.ok
 | .nil=>by simp[T.tm,fx,kT,T.ok]
 | .var _=>by simp[T.tm,fx,kT,T.ok]
 | .sym _=>by simp[T.tm,fx,kT,T.ok]
 | .num _=>by simp[T.tm,fx,kT,T.ok]
 | .pair a b=>by simp[T.tm,fx,T.ok,Ap a,Ap b]
theorem afC:∀(m:Nat) (t:ba),t.sz<=m->fx t=true->∃x:T,x.tm=t:=by
 intro m;induction m with
 |zero=>intro t aI;cases t;simp[ba.sz]at aI
 |succ m a8=>
  rintro⟨k,n,s,args⟩ aI h;match args with
  |[a,b]=>
   simp[ba.sz,ba.szL]at aI;simp only[fx,bB,dO]at h;obtain⟨⟨⟨⟨rfl,rfl⟩,av⟩,I⟩,J⟩:=h;obtain⟨x,rfl⟩:=a8 a Ω I;obtain⟨y,rfl⟩:=a8 b Ω J;have:s=[]:=by simpa using av
   subst this;exact⟨.pair x y,rfl⟩
  |[]=>
   simp only[fx,kT]at h;split at h
   ·subst_vars;simp at h;exact⟨.nil,by simp[T.tm,h]⟩
   split at h
   ·subst_vars;simp at h;exact⟨.var n,by simp[T.tm,h]⟩
   split at h
   ·subst_vars;simp at h;exact⟨.sym s,by simp[T.tm,h]⟩
   split at h
   ·subst_vars;simp at h;exact⟨.num n,by simp[T.tm,h]⟩
   ·simp at h
  |[_]=>simp[fx]at h
  |_::_::_::_=>simp[fx]at h
theorem YH(t:ba):t.fits=(decide (lF t 5000<=5000)&&fx t):=by
 by_cases h:fx t=true
 ·obtain⟨x,rfl⟩:=afC _ t (da _) h;have:=(HC x 5000 Ω).1;rw[ba.fits_T,T.fit,h];rw[Ap]at h;simp[h,this];omega
 ·have bD:t.fits=false:=by
   cases aM:t.fits with
   |false=>rfl
   |true=>obtain⟨x,rfl,ad⟩:=ba.fits_ex aM;rw[Ap]at h;simp[T.fit]at ad;exact absurd ad.1 h
  simp at h;rw[bD,h];simp
def Jx(s:List aF)(i:Nat):Prop:=i<=s.length/\∀k,k<i->kd (s.getD k 0)=true/\(k=0->low (s.getD k 0)=true)
theorem ab1{s:List aF}(h:Jx s s.length):gM s=decide (1<=s.length/\s.length<=12):=by
 unfold gM;by_cases aE:1<=s.length
 ·have I:=(h.2 0 Ω).2 rfl;have J:(s.drop 1).all kd=true:=by rw[gC];intro b af;obtain⟨i,aw,e⟩:=List.getElem_of_mem af;simp at aw e;have:=(h.2 (i+1) Ω).1;rw[List.getD_eq_getElem?_getD,bO Ω]at this;simp only[rh]at this;rw[<-e];exact this
  rw[I,J];simp
 ·have:decide (1<=s.length/\s.length<=12)=false:=by simp;omega
  rw[this];simp
theorem ab0{s:List aF}{i:Nat}(aw:i<s.length)(h:kd (s.getD i 0)=false\/(i=0/\low (s.getD i 0)=false)):gM s=false:=by
 cases e:gM s with
 |false=>rfl
 |true=>
  exfalso;simp only[gM,bB,gC]at e;obtain⟨⟨_,aq⟩,aU⟩:=e;rcases h with h|⟨rfl,h⟩
  ·by_cases bD:i=0
   ·subst bD;rw[kd,aq]at h;simp at h
   ·have:=aU (s.getD i 0) (by rw[List.getD_eq_getElem?_getD,bO aw];simp only[rh];refine List.mem_iff_getElem.2 ⟨i-1,by simp;omega,?_⟩;simp[show i-1+1=i from by omega])
    rw[this]at h;cases h
  ·rw[aq]at h;cases h
theorem gP(s:List aF):cg aP 188 [.str s] (.bool (gM s)):=by
 generalize bh:gM s=R;refine bJ iQ XW adL fun aG=>?_;unfold M0;have fW:s.length<=68719476736:=by simp[j1,iW,jA,bA]at aG;omega
 simp;refine Ov [0] (fun(i:Nat)=>[(3,.int .i64 i)]) (fun i=>s.length-i) (Jx s) 0 c8 ⟨Ω,fun k aa=>Ω⟩ (fun i al _=>?_);have iw:=al.1;by_cases aw:i<s.length
 ·have ij:=ab0 aw;rw[bh]at ij;obtain⟨c,aD,eX⟩:=gd aw;have oU:s.getD i 0=c:=by simp[List.getD_eq_getElem?_getD,aD]
  rw[oU]at ij;have eZ:kd c=true->(i=0->low c=true)->Jx s (i+1):=fun I J=>⟨Ω,fun k aa=>by
   rcases(by omega:k<i\/k=i)with h|rfl
   ·exact al.2 k h
   ·rw[oU];exact⟨I,J⟩⟩
  have hw:iF.wrap (c.toNat:Int)=c.toNat:=lx _ (by have:=c.toNat_lt;omega);simp[aw,eX,aD];by_cases b9:(97:Int)<=c.toNat
  ·by_cases cx:(c.toNat:Int)<=122
   ·have aE:low c=true:=by simp[low];omega
    (with_reducible repeat' first|refine aA ?_|refine aX (ee _ _ _) ?_|refine aY (ee _ _ _) ?_|simp[aw,eX,aD,b9,cx]);exact bP.whl (i+1) Ω (eZ (by simp[kd,aE]) (fun _=>aE)) c8
   ·have aE:low c=false:=by simp[low];omega
    by_cases bD:i=0
    ·rw[ij (.inr ⟨bD,aE⟩)];have rI:((i:Int)==0)=true:=by simp[bD]
     (with_reducible repeat' first|refine aA ?_|refine aX (ee _ _ _) ?_|refine aY (ee _ _ _) ?_|simp[aw,eX,aD,b9,cx,rI,hw]);simp[b1,z7,bn,bp,bk]
    ·have rI:((i:Int)==0)=false:=by simp[bD]
     by_cases dp:(c.toNat:Int)=45
     ·have uP:((c.toNat:Int) !=45)=false:=by simp[dp]
      (with_reducible repeat' first|refine aA ?_|refine aX (ee _ _ _) ?_|refine aY (ee _ _ _) ?_|simp[aw,eX,aD,b9,cx,rI,hw,dp,uP]);all_goals exact bP.whl (i+1) Ω (eZ (by simp[kd];omega) (fun h=>absurd h bD)) c8
     ·have uP:((c.toNat:Int) !=45)=true:=by simp[dp]
      by_cases c6:(48:Int)<=c.toNat/\(c.toNat:Int)<=57
      ·(with_reducible repeat' first|refine aA ?_|refine aX (ee _ _ _) ?_|refine aY (ee _ _ _) ?_|simp[aw,eX,aD,b9,cx,rI,hw,dp,uP,c6]);all_goals exact bP.whl (i+1) Ω (eZ (by simp[kd];omega) (fun h=>absurd h bD)) c8
      ·rw[ij (.inl (by simp[kd,aE];omega))];(with_reducible repeat' first|refine aA ?_|refine aX (ee _ _ _) ?_|refine aY (ee _ _ _) ?_|simp[aw,eX,aD,b9,cx,rI,hw,dp,uP,c6]);simp[b1,z7,bn,bp,bk]
  ·have aE:low c=false:=by simp[low];omega
   by_cases bD:i=0
   ·rw[ij (.inr ⟨bD,aE⟩)];have rI:((i:Int)==0)=true:=by simp[bD]
    (with_reducible repeat' first|refine aA ?_|refine aX (ee _ _ _) ?_|refine aY (ee _ _ _) ?_|simp[aw,eX,aD,b9,rI,hw]);simp[b1,z7,bn,bp,bk]
   ·have rI:((i:Int)==0)=false:=by simp[bD]
    by_cases dp:(c.toNat:Int)=45
    ·have uP:((c.toNat:Int) !=45)=false:=by simp[dp]
     (with_reducible repeat' first|refine aA ?_|refine aX (ee _ _ _) ?_|refine aY (ee _ _ _) ?_|simp[aw,eX,aD,b9,rI,hw,dp,uP]);all_goals exact bP.whl (i+1) Ω (eZ (by simp[kd];omega) (fun h=>absurd h bD)) c8
    ·have uP:((c.toNat:Int) !=45)=true:=by simp[dp]
     by_cases c6:(48:Int)<=c.toNat/\(c.toNat:Int)<=57
     ·(with_reducible repeat' first|refine aA ?_|refine aX (ee _ _ _) ?_|refine aY (ee _ _ _) ?_|simp[aw,eX,aD,b9,rI,hw,dp,uP,c6]);all_goals exact bP.whl (i+1) Ω (eZ (by simp[kd];omega) (fun h=>absurd h bD)) c8
     ·rw[ij (.inl (by simp[kd,aE];omega))];(with_reducible repeat' first|refine aA ?_|refine aX (ee _ _ _) ?_|refine aY (ee _ _ _) ?_|simp[aw,eX,aD,b9,rI,hw,dp,uP,c6]);simp[b1,z7,bn,bp,bk]
 ·have:i=s.length:=Ω
  subst this;rw[ab1 al]at bh;simp[aw];(with_reducible repeat' first|refine aA ?_|refine aX (ee _ _ _) ?_|refine aY (ee _ _ _) ?_|simp[aw]);simp[b1,z7,bn,bp,bk];rw[<-bh,Bool.eq_iff_iff];simp;omega
end
end Go.Proofs.YtlnndmgfngfeiaaGreatDoor
