/- A tree of blocks under a name taken back: its blocks are rows of the frame's own from here on. -/
import Derived.Deep.LoopGhost
import Derived.Test.YtlnndmgfngfeiaaDoorZg3
set_option linter.all false
set_option maxHeartbeats 4000000
set_option maxRecDepth 4000
open Array renaming getD_eq_getD_getElem?->l8,getElem?_eq_getElem->l9,replicate->nG
open Bool renaming and_eq_true->bD,false_eq_true->ib,not_eq_true'->oF
open Go renaming Program->bm,TypeId->eO
open Go.Region renaming binds->pG,ready->pH
open Go.Result renaming andThen_ok->ea
open Go.Sem renaming run_bind->dW,run_pure->eN
open Go.Value renaming cells->mO
open List renaming all_eq_true->kd,cons_append->eP,drop_eq_getElem_cons->pJ,eq_nil_of_length_eq_zero->pK,getElem?_append_left->nI,getElem?_eq_getElem->eo,getElem?_eq_some_iff->gp,length_append->jT,length_cons->mc,map_cons->ig,mem_append->hp,mem_append_left->kf,mem_append_right->iw,mem_cons->gZ,mem_map->lE
open Nat renaming le_refl->cx
open Option renaming getD_some->oG,isSome_iff_exists->eb,isSome_none->qo,map_some->mP
open Option.some renaming inj->iL,injEq->dp
open Prod.mk renaming injEq->hQ
open _root_ renaming False->cv,Option->aR,UInt8->az,beq_iff_eq->da,decide_eq_true_eq->fQ,if_neg->bh
namespace Go.Pv
section
open Go Go.RowKit
mutual
def e3(N:List aq):ab->ab
 | .slice sz (.tr k j) xs=>if k∈N\/k=dj then .slice sz .no (eu N xs)else .slice sz (.tr k j) (bF xs)
 | .slice sz (.own k) xs=>.slice sz (.own k) (eu N xs)
 | .slice sz .nil xs=>.slice sz .nil (eu N xs)
 | .slice sz .no xs=>.slice sz .no (eu N xs)
 | .slice sz (.lo _) xs=>.slice sz .no (eu N xs)
 | .agg cs=>.agg (eu N cs)
 | .eptr x=>.eptr (e3 N x)
 | .iface t x=>.iface t (e3 N x)
 | .tuple vs=>.tuple (eu N vs)
 | .func f cP=>.func f (eu N cP)
 |p=>p
def eu(N:List aq):List ab->List ab
 |[]=>[]
 |x::xs=>e3 N x::eu N xs
end
theorem tg(N:List aq):∀xs,(eu N xs).length=xs.length
 |[]=>rfl
 |x::xs=>by simp[eu,tg N xs]
section
variable {w:World} {ν μ:aC} {N:List aq} (aN:∀b o,ν.A b o->μ.A b o) (af:μ.bx=ν.bx) (ag:μ.ow=ν.ow) (au:∀k,k∉N->∀j b,ν.tr k j b->μ.tr k j b)
 (eC:∀k j aW dc b,ν.tr k j b->ν.tr aW dc b->k=aW/\j=dc)
include aN af ag au eC
mutual
theorem wb:∀(p:ab) (v:Value),aw w ν p v->aw w μ (e3 N p) v
 | .junk,_,_=>by simp[e3,aw]
 | .int _ _,_,h=>by simpa only[e3,aw]using h
 | .bool _,_,h=>by simpa only[e3,aw]using h
 | .str _,_,h=>by simpa only[e3,aw]using h
 | .slice sz tag xs,v,h=>by
  have hw:=h;simp only[aw]at h;obtain⟨I,aa,ak,aJ,ba⟩:=h;obtain⟨a0,My,bL,ck,dd,du⟩:=I;have e8:∃a cap,v= .slice a (eu N xs).length cap/\(eu N xs).length<=cap/\(cap<=maxLen/\(eu N xs).length<=b0)/\(eu N xs=[]\/ ∃b off us,a=some ⟨b,off,none⟩/\h7 w μ.A b off us/\cd w μ sz (eu N xs) us):=by
   refine⟨a0,My,by rw[tg];exact bL,by rw[tg];exact ck,by rw[tg];exact dd,?_⟩;rcases du with aJ|⟨b,off,us,ai,aE,bb⟩
   ·exact .inl (by rw[aJ];rfl)
   ·exact .inr ⟨b,off,us,ai,sC (fun b o h=>⟨aN b o h,rfl⟩) _ _ aE,Ex sz xs us bb⟩
  cases tag with
  |no=>simp only[e3,aw];exact⟨e8,fun e=>(by cases e),fun _ e=>(by cases e),fun _ _ e=>(by cases e),fun _ e=>(by cases e)⟩
  |lo k=>simp only[e3,aw];exact⟨e8,fun e=>(by cases e),fun _ e=>(by cases e),fun _ _ e=>(by cases e),fun _ e=>(by cases e)⟩
  |nil=>simp only[e3,aw];exact⟨e8,fun _=>aa rfl,fun _ e=>(by cases e),fun _ _ e=>(by cases e),fun _ e=>(by cases e)⟩
  |own k=>simp only[e3,aw];refine⟨e8,fun e=>(by cases e),fun g e=>?_,fun _ _ e=>(by cases e),fun _ e=>(by cases e)⟩;rw[ag,tg];exact ak g e
  |tr k j=>
   simp only[e3];by_cases J:k∈N\/k=dj
   ·rw[if_pos J];simp only[aw];exact⟨e8,fun e=>(by cases e),fun _ e=>(by cases e),fun _ _ e=>(by cases e),fun _ e=>(by cases e)⟩
   ·rw[bh J];have fS:=not_or.1 J;have aH:=Az eC _ v hw (by simp only[dt];exact fS.2) (by simp[tn]);have kr:=pY (A':=μ.A) (fun b o h=>⟨aN b o h,rfl⟩) (fun _ _ _=>rfl) _ _ (μ.tr k j) _ (fun b af=>by obtain⟨aW,i,hm,af⟩:=af;simp only[tn,List.mem_singleton,hQ]at hm;obtain⟨rfl,rfl⟩:=hm;exact au _ fS.1 _ _ af) aH
    simp only[bC]at kr;exact Bl kr (pC xs)
 | .agg cs,v,h=>by simp only[aw,e3]at h⊢;obtain⟨us,I,aa⟩:=h;exact⟨us,I,EA cs _ aa⟩
 | .ptr key off,v,h=>by simp only[aw,e3]at h⊢;rw[af];exact h
 | .eptr x,v,h=>by simp only[aw,e3]at h⊢;obtain⟨b,off,u,I,aa,ak⟩:=h;exact⟨b,off,u,I,wb x u aa,sC (fun b o h=>⟨aN b o h,rfl⟩) _ _ ak⟩
 | .iface t x,v,h=>by simp only[aw,e3]at h⊢;obtain⟨u,I,aa⟩:=h;exact⟨u,I,wb x u aa⟩
 | .nilp,_,h=>by simpa only[e3,aw]using h
 | .tuple vs,v,h=>by simp only[aw,e3]at h⊢;obtain⟨us,I,aa⟩:=h;exact⟨us,I,yi vs _ aa⟩
 | .func f cP,v,h=>by simp only[aw,e3]at h⊢;obtain⟨us,I,aa⟩:=h;exact⟨us,I,yi cP _ aa⟩
 | .gmap key,v,h=>by simp only[aw,e3]at h⊢;rw[af];exact h
 | .row sz k n,v,h=>by simp only[aw,e3]at h⊢;rw[ag];exact h
 | .rptr sz k n i f,v,h=>by simp only[aw,e3]at h⊢;rw[ag];exact h
 | .hdm _ _,_,h=>by simp only[aw]at h
 | .hdi _ _ _,_,h=>by simp only[aw]at h
 | .cst _,_,h=>by simpa only[e3,aw]using h
theorem EA:∀(cs:List ab) (us:List Value),bV w ν cs us->bV w μ (eu N cs) us
 |[],_,h=>by simpa only[eu,bV]using h
 |c::cs,us,h=>by simp only[bV,eu]at h⊢;obtain⟨u,a1,I,aa,ak⟩:=h;exact⟨u,a1,I,⟨wb c u aa.1,aa.2⟩,EA cs a1 ak⟩
theorem yi:∀(cs:List ab) (us:List Value),bT w ν cs us->bT w μ (eu N cs) us
 |[],_,h=>by simpa only[eu,bT]using h
 |c::cs,us,h=>by simp only[bT,eu]at h⊢;obtain⟨u,a1,I,aa,ak⟩:=h;exact⟨u,a1,I,wb c u aa,yi cs a1 ak⟩
theorem Ex(sz:Nat):∀(cs:List ab) (us:List Value),cd w ν sz cs us->cd w μ sz (eu N cs) us
 |[],_,h=>by simpa only[eu,cd]using h
 |c::cs,us,h=>by simp only[cd,eu]at h⊢;obtain⟨u,a1,I,⟨aa,qC⟩,ak⟩:=h;exact⟨u,a1,I,⟨wb c u aa,qC⟩,Ex sz cs a1 ak⟩
end
theorem Tw{cs:List ab}{us:List Value}(h:gI w ν cs us):gI w μ (eu N cs) us:=by
 have bn:∀c:ab,(∀a b,c≠ .hdm a b)->(∀a b d,c≠ .hdi a b d)->(∀a b,e3 N c≠ .hdm a b)/\(∀a b d,e3 N c≠ .hdi a b d):=by
  intro c I aa;cases c with
  |slice sz tag xs=>cases tag<;>simp only[e3]<;>first|(split<;>simp)|simp
  |hdm a b=>exact absurd rfl (I a b)
  |hdi a b d=>exact absurd rfl (aa a b d)
  |_=>simp[e3]
 unfold gI at h;split at h
 ·simp only[eu,e3,gI];exact⟨yi aN af ag au eC _ _ h.1,⟨by rw[tg];exact h.2.len,h.2.inc,h.2.lt⟩⟩
 ·simp only[eu,e3,gI];exact yi aN af ag au eC _ _ h
 ·rename_i e9 eA;have hr:=EA aN af ag au eC _ _ h;rw[k7]
  ·exact hr
  ·exact qc hr
end
theorem Nd(N:List aq)(cs:List ab)(us:Array Value)(el:eO):hl (eu N cs) us el=hl cs us el:=by
 cases cs with
 |nil=>rfl
 |cons c r=>
  cases c with
  |slice sz tag xs=>
   cases tag with
   |tr k j=>by_cases J:k∈N\/k=dj<;>simp[eu,e3,hl,J]
   |_=>rfl
  |_=>rfl
def wW(N:List aq)(l:List (Nat×ab)):List (Nat×ab):=l.map fun x=>(x.1,e3 N x.2)
def wU(N:List aq)(l:List (aq×List ab)):List (aq×List ab):=l.map fun x=>(x.1,eu N x.2)
def yW(N:List aq)(o:cp):cp:=⟨o.n,o.el,o.sz,o.xs.map (eu N)⟩
def uL(N:List aq)(rw:List aq)(l:List (aq×cp)):List (aq×cp):=(l.filter fun x=>decide (x.1∉rw)).map fun x=>(x.1,yW N x.2)
theorem HT(N:List aq)(i:Nat):∀l,get i (wW N l)=e3 N (get i l)
 |[]=>by simp[wW,get,e3]
 |(j,p)::r=>by
  have a8:=HT N i r;simp only[wW,ig,get]at a8⊢;split
  ·rfl
  ·exact a8
theorem DP(N:List aq)(k:aq):∀l,look k (wU N l)=(look k l).map (eu N)
 |[]=>rfl
 |(j,p)::r=>by
  have a8:=DP N k r;simp only[wU,ig,look]at a8⊢;split
  ·rfl
  ·exact a8
theorem DQ(N rw:List aq)(k:aq):∀l,look k (uL N rw l)=if k∈rw then none else(look k l).map (yW N)
 |[]=>by simp[uL,look]
 |(j,p)::r=>by
  have a8:=DQ N rw k r;simp only[uL]at a8⊢;by_cases av:j∈rw
  ·rw[List.filter_cons_of_neg (by simpa using av),a8];simp only[look];by_cases J:k∈rw
   ·simp[J]
   ·have:j≠k:=fun e=>J (e▸av);simp[J,this]
  ·rw[List.filter_cons_of_pos (by simpa using av)];simp only[ig,look];by_cases e:j=k
   ·subst e;simp[av]
   ·rw[bh e,a8,bh e]
def uX(st:aM)(p:ab):List aq:=(cc st.e p).map (·.1)
def rY(st:aM)(s:Nat):aM:=⟨put s (fold st.n st.e 0 (get s st.t)) (wW (uX st (get s st.t)) st.t),wU (uX st (get s st.t)) st.b,uL (uX st (get s st.t)) (bW (get s st.t)) st.e,st.n+1,st.o⟩
def tw(ob:List aq)(st:aM)(s:Nat):Prop:=cI st.e (get s st.t)/\(cc st.e (get s st.t)).Nodup/\(bW (get s st.t)).Nodup/\ .loc st.n∉st.o/\(∀k∈uX st (get s st.t),k∉ob)/\∀k∈bW (get s st.t),∃j,k= .loc j
def aC.fd(ν:aC)(R:Nat->Prop)(rw:List aq)(e:List (aq×cp))(T:List (Nat->Prop))(N:List aq)(n:Nat):aC:=
 {A:=fun b o=>ν.A b o\/ ∃k,k∈rw/\∃own,look k e=some own/\iH ν k b/\o<own.n*own.sz,
  bx:=ν.bx,ow:=ν.ow,
  tr:=fun k j b=>(k∉N/\ν.tr k j b)\/(k= .loc n/\∃S,T[j]? =some S/\S b)}
theorem Hs{C:db}{st:aM}{a:Act}{w:World}{ν:aC}(h:bK C st a w ν){s:Nat}(aA:tw C.ob st s):∃ν',bK C (rY st s) a w ν':=by
 obtain⟨ok,nd,rd,o3,IE,Iy⟩:=aA;unfold rY;generalize aV:get s st.t=p at ok nd rd IE Iy⊢;have qQ:aw w ν p (a.tmps.getD s undef):=by rw[<-aV];exact h.slot s
 let R:Nat->Prop:=fun b=> ∃k,k∈bW p/\iH ν k b
 have zV:=h.new (.loc st.n) ⟨cx _,o3⟩;have gg:∀k b,k∈bW p->iH ν k b->∃own,look k st.e=some own/\C.w0.heap.size<=b/\b<w.heap.size/\(∀k j,¬ν.tr k j b)/\(∀aW,(look aW st.b).isSome->ν.bx aW≠some b)/\∀g n v,(look g st.e).isSome->ν.ow g=some (n,v)->v.ownBlock=some b->g=k:=by rintro k b J ⟨n,v,I,aa⟩;obtain⟨own,kt⟩:=x1 _ ok k J;obtain⟨j,rfl⟩:=Iy k J;exact⟨own,kt,h.fr.nrow j n v b I aa,h.good.ownLt kt I aa,h.good.otr b (.inr ⟨_,_,_,by simp[kt],I,aa⟩),fun aW fS hv=>h.good.obx _ aW _ _ b (by simp[kt]) fS I aa hv,fun g n' v' aL ai aE=>h.good.oinj g _ n' n v' v b aL (by simp[kt]) ai I aE aa⟩
 have tF:uA ν R (bW p):=by refine⟨h.fr.trd,fun k aW b J fS I aa=>?_,fun k b J h=>⟨k,J,h⟩⟩;obtain⟨n,v,bt,a2⟩:=I;obtain⟨_,cJ,_⟩:=gg k b J ⟨n,v,bt,a2⟩;obtain⟨_,_,_,_,_,_,c2⟩:=gg aW b fS aa;exact c2 k n v (by simp[cJ]) bt a2
 let N:=uX st p
 let μ:aC:=ν.fd R (bW p) st.e (dV ν R st.e p) N st.n
 have aN:∀b o,ν.A b o->μ.A b o:=fun b o h=>.inl h;have eC:∀k,k∉N->∀j b,ν.tr k j b->μ.tr k j b:=fun k J j b af=>.inl ⟨J,af⟩;have tD:∀q v,aw w ν q v->aw w μ (e3 N q) v:=wb aN rfl rfl eC h.fr.trd;have P2:∀sz q v,cd w ν sz q v->cd w μ sz (eu N q) v:=fun sz=>Ex aN rfl rfl eC h.fr.trd sz;have zP:∀(j:Nat) (S:Nat->Prop) (b:Nat),(dV ν R st.e p)[j]? =some S->S b->(∃k∈bW p,iH ν k b)\/ ∃k i,(k,i)∈cc st.e p/\ν.tr k i b:=by
  intro j S b av hL;rcases wk _ j S av b hL with⟨k,J,I⟩|⟨⟨k,i,I,aa⟩,_⟩
  ·exact .inl ⟨k,J,I⟩
  ·exact .inr ⟨k,i,I,aa⟩
 have sf:∀k,(look k (wU N st.b)).isSome->(look k st.b).isSome:=fun k J=>by rw[DP]at J;simpa using J
 have tI:∀k,(look k (uL N (bW p) st.e)).isSome->k∉bW p/\(look k st.e).isSome:=fun k J=>by
  rw[DQ]at J;split at J
  ·cases J
  ·rename_i e;exact⟨e,by simpa using J⟩
 have IF:∀g n v b,g∉bW p->(look g st.e).isSome->ν.ow g=some (n,v)->v.ownBlock=some b->∀k∈bW p,¬iH ν k b:=by intro g n v b aL aB ai aE k J hr;obtain⟨_,_,_,_,_,_,c⟩:=gg k b J hr;exact aL (c g n v aB ai aE▸J)
 have Qj:aw w μ (fold st.n st.e 0 p) (a.tmps.getD s undef):=by refine zi (μ:=μ) h.good tF (fun b bI=>?_) aN (fun k J own kt b dM o ag=>.inr ⟨k,J,own,kt,dM,ag⟩) p _ 0 qQ ok nd (fun k J=>J) (fun i S aD b hL=>.inr ⟨rfl,S,by simpa using aD,hL⟩);obtain⟨k,J,dM⟩:=bI;obtain⟨_,_,_,_,aJ,_⟩:=gg k b J dM;exact aJ
 refine⟨μ,⟨fun bl o aN=>?_,fun k cs J=>?_,fun k aW bl I aa=>h.good.inj k aW bl (sf k I) (sf aW aa),fun g o aL=>?_,fun g dF n n' v v' bl I aa=>h.good.oinj g dF n n' v v' bl (tI g I).2 (tI dF aa).2,fun g k n v bl I aa=>h.good.obx g k n v bl (tI g I).2 (sf k aa),h.good.one,fun bl au k j Ra=>?_⟩,
  ⟨h.fr.os,h.fr.tape,h.fr.output,h.fr.size,h.fr.block,fun b o b1=>⟨.inl (h.fr.keep b o b1).1,(h.fr.keep b o b1).2⟩,fun b o b1=>?_,h.fr.obj,h.fr.obn,h.fr.row,h.fr.obr,fun k j aW dc b I aa=>?_,fun k j b af=>?_,fun k j b af=>?_,h.fr.sh,h.fr.nrow⟩,
  h.defers,h.size,fun i=>?_,fun k J=>?_,fun x ad=>?_,fun m hm aH=>h.obk m hm (n3 (Nat.le_succ _) (fun _ h=>h) aH)⟩
 ·rcases aN with aN|⟨k,J,own,_,dM,_⟩
  ·exact h.good.alt bl o aN
  ·obtain⟨_,_,_,ak,_⟩:=gg k bl J dM;exact ak
 ·simp only at J;rw[DP]at J;cases aB:look k st.b with
  |none=>rw[aB]at J;cases J
  |some cn=>
   rw[aB]at J;simp only[mP,dp]at J;subst J;obtain⟨bl,us,el,ai,aE,bb,b9,ft⟩:=h.good.box k cn aB;refine⟨bl,us,el,ai,aE,fun o b1=>?_,by rw[Nd];exact b9,Tw aN rfl rfl eC h.fr.trd ft⟩;rcases b1 with b1|⟨aW,fS,own,_,dM,_⟩
   ·exact bb o b1
   ·obtain⟨_,_,_,_,_,ba,_⟩:=gg aW bl fS dM;exact ba k (by simp[aB]) ai
 ·simp only at aL;have CN:=tI g (by rw[aL];rfl);rw[DQ,bh CN.1]at aL;cases aB:look g st.e with
  |none=>rw[aB]at aL;cases aL
  |some k5=>
   rw[aB]at aL;simp only[mP,dp]at aL;subst aL;obtain⟨v,us,ai,aE,bb,b9⟩:=h.good.own g k5 aB;have gd:∀bl,v.ownBlock=some bl->∀j,μ.A bl j->ν.A bl j:=by
    intro bl af j b1;rcases b1 with b1|⟨aW,fS,own,_,dM,_⟩
    ·exact b1
    ·exact absurd dM (IF g _ v bl CN.1 CN.2 ai af aW fS)
   refine⟨v,us,ai,aE,fun bl af=>⟨(bb bl af).1,fun j b1=>(bb bl af).2 j (gd bl af j b1)⟩,fun xs ad=>?_⟩;simp only[yW]at ad;cases lr:k5.xs with
   |none=>rw[lr]at ad;cases ad
   |some ys=>rw[lr]at ad;simp only[mP,dp]at ad;subst ad;obtain⟨f1,f2,f3⟩:=b9 ys lr;exact⟨by rw[tg];exact f1,P2 _ _ _ f2,fun bl af j b1=>f3 bl af j (gd bl af j b1)⟩
 ·have hold:∀k j,¬ν.tr k j bl:=by refine h.good.otr bl (au.imp (fun⟨k,bt,a2⟩=>⟨k,sf k bt,a2⟩) fun⟨g,n,v,bt,a2,a3⟩=>⟨g,n,v,(tI g bt).2,a2,a3⟩)
  rcases Ra with⟨_,af⟩|⟨_,S,hL,af⟩
  ·exact hold k j af
  ·rcases zP j S bl hL af with⟨aW,fS,hr⟩|⟨aW,i,_,dM⟩
   ·rcases au with⟨cN,bt,a2⟩|⟨g,n,v,bt,a2,a3⟩
    ·obtain⟨_,_,_,_,_,ba,_⟩:=gg aW bl fS hr;exact ba cN (sf cN bt) a2
    ·exact IF g n v bl (tI g bt).1 (tI g bt).2 a2 a3 aW fS hr
   ·exact hold aW i dM
 ·rcases b1 with b1|⟨k,J,own,_,dM,_⟩
  ·exact h.fr.fresh b o b1
  ·obtain⟨_,_,aa,_⟩:=gg k b J dM;exact .inr (.inr aa)
 ·have mixed:∀(k:aq) (j dc:Nat) (S:Nat->Prop),k∉N->ν.tr k j b->(dV ν R st.e p)[dc]? =some S->S b->cv:=by
   intro k j dc S J af hL dM;rcases zP dc S b hL dM with⟨aW,fS,hr⟩|⟨aW,i,hm,lR⟩
   ·obtain⟨_,_,_,_,aJ,_⟩:=gg aW b fS hr;exact aJ k j af
   ·obtain⟨rfl,_⟩:=h.fr.trd k j aW i b af lR;exact J (lE.2 ⟨_,hm,rfl⟩)
  rcases I with⟨e9,bO⟩|⟨rfl,S,s1,bO⟩<;>rcases aa with⟨eA,bU⟩|⟨rfl,iQ,s2,bU⟩
  ·exact h.fr.trd k j aW dc b bO bU
  ·exact(mixed k j dc iQ e9 bO s2 bU).elim
  ·exact(mixed aW dc j S eA bU s1 bO).elim
  ·exact⟨rfl,EV tF p nd rd (fun k J=>J) j dc S iQ s1 s2 b bO bU⟩
 ·rcases af with⟨_,af⟩|⟨_,S,hL,af⟩
  ·exact h.fr.trb k j b af
  ·rcases zP j S b hL af with⟨aW,fS,hr⟩|⟨aW,i,hm,lR⟩
   ·obtain⟨_,_,aa,ak,_⟩:=gg aW b fS hr;exact⟨.inr aa,ak⟩
   ·have:=h.fr.trb aW i b lR;exact⟨.inr (this.1.resolve_left (Ea _ ok _ hm)),this.2⟩
 ·rcases af with⟨_,af⟩|⟨rfl,_⟩
  ·exact h.fr.trn k j b af
  ·exact⟨zV.1,zV.2.1⟩
 ·simp only[nc];split
  ·rename_i e;subst e;exact Qj
  ·rw[HT];exact tD _ _ (h.slot i)
 ·have aH:fresh st.n st.o k:=n3 (Nat.le_succ _) (fun _ h=>h) J;obtain⟨e9,eA,hE⟩:=h.new k aH;refine⟨e9,eA,fun j b af=>?_⟩;rcases af with⟨_,af⟩|⟨rfl,_⟩
  ·exact hE j b af
  ·have:=J.1;simp only at this;omega
 ·obtain⟨ai,aE⟩:=h.ext x ad;refine⟨oo (S:=fun k=>k∉N) (w:=w) (ν:=ν) (w':=w) (ν':=μ) ⟨fun b o h=>⟨.inl h,rfl⟩,fun _ _ _ h=>h,fun g n u _ h=>⟨n,u,h,.inl ⟨rfl,rfl⟩⟩,fun _ _ _=>rfl,fun k j b J af=>.inl ⟨J,af⟩⟩ _ _ (mC (fun k J aU=>IE k aU J) _ aE) ai,aE⟩
end
section
open Go Go.RowKit
def wo(m:Nat)(ops:Array Oper):Bool:=(List.range (ops.size-m)).all fun j=>(List.range (m+j)).all fun i=>((lx [] ops.toList).getD (m+j) 0).testBit i
theorem Lk{m:Nat}{ops:Array Oper}(h:wo m ops=true){k i:Nat}(J:m<=k)(hU:k<ops.size)(aD:i<k):((lx [] ops.toList).getD k 0).testBit i=true:=by unfold wo at h;simp only[kd,List.mem_range]at h;have:=h (k-m) Ω i Ω;rwa[show m+(k-m)=k by omega]at this
theorem AV{ops:Array Oper}{listed:Array Bool}(cE:listed.size=ops.size){i:Nat}(aD:i∈pH .any ops listed):∃h:i<ops.size,listed.getD i false=false/\∀e∈(ops[i]'h).after.toList,pG .any e=true->listed.getD e.on false=true:=by
 unfold pH at aD;simp only[List.mem_filter,List.mem_range,bD,oF]at aD;obtain⟨I,aa,ak⟩:=aD;refine⟨I,?_,fun e he af=>?_⟩
 ·simp only[l8]at aa⊢;rw[l9 Ω]at aa⊢;simpa using aa
 ·rw[l9 I]at ak;simp only[mP,oG]at ak;rw[<-Array.all_toList,kd]at ak;simpa[af]using ak e he
theorem rG.set{ops:Array Oper}{listed:Array Bool}{i:Nat}(aD:i<listed.size)(aG:rG ops listed)(sc:∀o,ops[i]? =some o->∀e∈o.after.toList,pG .any e=true->listed.getD e.on false=true):rG ops (listed.setIfInBounds i true):=by
 intro k o J aB e he af;rw[r0 aD]at aB⊢;split
 ·rfl
 ·by_cases jk:i=k
  ·subst jk;exact sc o J e he af
  ·rw[bh jk]at aB;exact aG k o J aB e he af
theorem T8{P:bm}{ops:Array Oper}{m0:Nat}(vk:wo m0 ops=true)(p0:qA 0 ops.toList=true){Q:Exit->Act->World->Prop}:∀(fuel m:Nat) (listed:Array Bool) (a:Act) (w:World),m0<=m->listed.size=ops.size->rG ops listed->(∀j,j<m->j<ops.size->listed.getD j false=true)->(∀j,m<=j->listed.getD j false=false)->ops.size<=m+fuel->
  wpOps P ops Q (List.range' m (ops.size-m)) a w->wpAny P .any ops Q fuel listed a w:=by
 intro fuel;induction fuel with
 |zero=>
  intro m listed a w hm cE aG aB aU aH hw;have e:ops.size-m=0:=Ω
  rw[e]at hw;refine⟨?_,hw⟩;rw[List.eq_nil_iff_forall_not_mem];intro i aD;obtain⟨I,aa,_⟩:=AV cE aD;rw[aB i Ω I]at aa;cases aa
 |succ fuel a8=>
  intro m listed a w hm cE aG aB aU aH hw;by_cases WW:ops.size<=m
  ·have e:ops.size-m=0:=Ω
   rw[e]at hw;refine⟨fun _=>hw,fun i aD=>?_⟩;obtain⟨I,aa,_⟩:=AV cE aD;rw[aB i Ω I]at aa;cases aa
  ·have hz:m<ops.size:=Ω
   have hM:m∈pH .any ops listed:=by
    unfold pH;simp only[List.mem_filter,List.mem_range,bD,oF];refine⟨hz,?_,?_⟩
    ·have:=aU m (cx _);simp only[l8]at this⊢;rw[l9 Ω]at this⊢;simpa using this
    ·rw[l9 hz];simp only[mP,oG];rw[<-Array.all_toList,kd];intro e he;by_cases af:pG .any e=true
     ·have b4:=y5 p0 m ops[m] (by simp[hz]) e he af;have:=aB e.on Ω Ω;simp[this]
     ·simp[af]
   refine⟨fun h=>(by rw[h]at hM;simp at hM),fun i aD=>?_⟩;obtain⟨I,aa,ak⟩:=AV cE aD;have Iu:ops[i]? =some ops[i]:=l9 I;have Qs:i=m:=by
    rcases Nat.lt_trichotomy i m with h|h|h
    ·rw[aB i h I]at aa;cases aa
    ·exact h
    ·have:=Ai aG i ops[i] Iu ak m (Lk vk Ω I h);rw[aU m (cx _)]at this;cases this
   subst Qs;rw[show ops.size-i=(ops.size-(i+1))+1 by omega,List.range'_succ,wpOps_cons]at hw;refine wpOp_mono (fun bG w' sx=>?_) hw;exact a8 (i+1) _ bG w' Ω (by simpa using cE) (aG.set Ω fun o ag=>(by rw[Iu]at ag;cases ag;exact ak)) (fun j av gr=>(by
     rw[r0 Ω];split
     ·rfl
     ·exact aB j Ω gr)) (fun j av=>(by rw[r0 Ω,bh Ω];exact aU j Ω)) Ω sx
theorem Mi{P:bm}{aQ:List (Nat×cm)}(au:dE P aQ=true){C:db}{q:Bool}{n0:Nat}{ops:Array Oper}{gs ts:List b3}(gb:hc C.N aQ ops.toList (gs++ts) ops.toList=true)(p0:qA 0 ops.toList=true)(xA:sL [] gs (lx [] ops.toList)=true)
  (vk:wo gs.length ops=true) {K:ch->Prop} {Q:Exit->Act->World->Prop}
  (h2:∀A a w,K A->pN C A a w->wpOps P ops Q (List.range' gs.length (ops.size-gs.length)) a w):
  ∀(fuel:Nat) (listed:Array Bool) (A:ch) (a:Act) (w:World),listed.size=ops.size->rG ops listed->(∀j,gs.length<=j->listed.getD j false=false)->(rem listed 0 gs).length+ts.length<=fuel->pQ P q n0 K (rem listed 0 gs) A->pN C A a w->wpAny P .any ops Q fuel listed a w:=by
 have hlen:gs.length+ts.length=ops.size:=by simpa using w9 gb
 have hT:∀(fuel:Nat) (listed:Array Bool) (A:ch) (a:Act) (w:World),listed.size=ops.size->rG ops listed->(∀j,gs.length<=j->listed.getD j false=false)->rem listed 0 gs=[]->ts.length<=fuel->pQ P q n0 K (rem listed 0 gs) A->pN C A a w->wpAny P .any ops Q fuel listed a w:=by
  intro fuel listed A a w cE aG aU o9 aH ji hr;have mr:∀j,j<gs.length->listed.getD j false=true:=fun j av=>by
   cases af:listed.getD j false with
   |true=>rfl
   |false=>obtain⟨kg,kH,g,_,aE,_⟩:=yf Ω af gs 0 Ω Ω;rw[o9]at aE;simp at aE
  rw[o9]at ji;exact T8 vk p0 fuel gs.length listed a w (cx _) cE aG (fun j av _=>mr j av) aU Ω (h2 A a w ji hr)
 intro fuel;induction fuel with
 |zero=>intro listed A a w cE aG aU aH ji hr;exact hT 0 listed A a w cE aG aU (pK Ω) Ω ji hr
 |succ fuel a8=>
  intro listed A a w cE aG aU aH ji hr;by_cases o9:rem listed 0 gs=[]
  ·exact hT _ listed A a w cE aG aU o9 (by rw[o9]at aH;simpa using aH) ji hr
  have ve:∃i g,i<gs.length/\gs[i]? =some g/\listed.getD i false=false/\∀j,j<i->listed.getD j false=true:=by
   rcases Es (l:=listed) gs 0 with h|⟨i,g,I,aa,ak,aJ⟩
   ·exact absurd h o9
   ·exact⟨i,g,I,aa,by simpa using ak,fun j av=>by simpa using aJ j av⟩
  refine⟨fun h=>?_,fun i aD=>?_⟩
  ·exfalso;obtain⟨i,g,I,aa,ak,aJ⟩:=ve;have aD:i<ops.size:=Ω
   have hM:i∈pH .any ops listed:=by
    unfold pH;simp only[List.mem_filter,List.mem_range,bD,oF];refine⟨aD,?_,?_⟩
    ·simp only[l8]at ak⊢;rw[l9 Ω]at ak⊢;simpa using ak
    ·rw[l9 aD];simp only[mP,oG];rw[<-Array.all_toList,kd];intro e he;by_cases af:pG .any e=true
     ·have b4:=y5 p0 i ops[i] (by simp[aD]) e he af;have:=aJ e.on Ω;simp[this]
     ·simp[af]
   rw[h]at hM;simp at hM
  ·obtain⟨I,xv,sc⟩:=AV cE aD;have ag:ops[i]? =some ops[i]:=l9 I;have kV:i<gs.length:=by
    rcases Nat.lt_or_ge i gs.length with h|h
    ·exact h
    ·obtain⟨j,g,kx,js,tS,Xf⟩:=ve;have:=Ai aG i ops[i] ag sc j (Lk vk h I Ω);rw[tS]at this;cases this
   obtain⟨kg,kH,g,ai,aE,bb,b9⟩:=yf Ω xv gs 0 Ω Ω;simp only[Nat.sub_zero]at ai b9;rw[aE]at ji;obtain⟨x,ad,CB⟩:=BE kg kH A (fun y bs=>by
    obtain⟨f1,f2,f3,f4⟩:=b9 y bs;rcases Ei xA i g ai y.1 y.2 (by simpa using f3) (by simpa using f1)with h|h
    ·have:=Ai aG i ops[i] ag sc y.1 h;rw[f4]at this;cases this
    ·exact h) ji
   obtain⟨o',g1,g2⟩:=Cr gb i g (by rw[nI kV];exact ai);have:o'=ops[i]:=by rw[Array.getElem?_toList,ag]at g1;exact(iL g1).symm
   subst this;refine FK au ag g2 ad hr fun bG w' bJ=>?_;refine a8 (listed.setIfInBounds i true) (A.do x) bG w' (by simpa using cE) (aG.set Ω fun o J=>(by rw[ag]at J;cases J;exact sc)) (fun j av=>(by rw[r0 Ω,bh Ω];exact aU j av)) ?_ (by rw[bb];exact CB) bJ;rw[bb];rw[aE]at aH;simp at aH⊢;omega
theorem Oc{P:bm}(hm:P.follows .mixedOrders=true){aQ:List (Nat×cm)}(au:dE P aQ=true){C:db}{q:Bool}{nw:List Nat}{id:Nat}{ops:Array Oper}{gs ts:List b3}(gb:hc C.N aQ ops.toList (gs++ts) ops.toList=true)(p0:qA 0 ops.toList=true)(xA:sL [] gs (lx [] ops.toList)=true)
  (vk:wo gs.length ops=true) (fJ:rS C.N gs=true)
  {K1:aM->Prop} {Q:Exit->Act->World->Prop}
  (h2:∀st' bG w' ν',K1 st'->bK C st' bG w' ν'->wpOps P ops Q (List.range' gs.length (ops.size-gs.length)) bG w')
  {st:aM} {a:Act} {w:World} {ν:aC} (CX:∀j∈nw,.obj j∉st.o) (he:fI P q nw st.n gs st (mf (st.n+C.N) (nw.map aq.obj++st.o) K1)) (hr:bK C st a w ν):(Code.region id ops true).wp P Q a w:=by
 refine wp_region_any hm ?_;have bJ:bK C st a {w with drawn:=w.drawn+1} ν:=hr.drawn _;let A:ch:=⟨fun i=>get i st.t,fun k=>look k st.b,fun k=>look k st.e,fresh st.n st.o⟩
 have lk:nK nw st.n C.N st.o st A:=⟨⟨fun _=>rfl,fun _=>rfl,fun _=>rfl⟩,rfl,fun k J _=>J,fun k J=>.inl J⟩;have ji:=uS gs 0 fJ st A lk (fun j av _ _=>⟨trivial,CX j av⟩) he;have h4:∀j,(nG ops.size false).getD j false=false:=fun j=>by simp[l8,Array.getElem?_replicate];split<;>rfl
 refine Mi au gb p0 xA vk (q:=q) (n0:=st.n) (K:=fun A'=> ∃st',mf (st.n+C.N) (nw.map aq.obj++st.o) K1 st'/\nK nw st.n C.N st.o st' A') ?_ ops.size _ A a _ Ψ ?_ (fun j _=>h4 j) ?_ (by rw[ye gs _ 0 h4];exact ji) ⟨st,ν,lk.like,fun k J=>J,bJ⟩
 ·rintro A' bG w' ⟨st',J,b1⟩ ⟨TY,ν',hd,Cu,jm⟩;refine h2 _ bG w' ν' J ⟨jm.good.like (fun k=>by rw[hd.b,<-b1.like.b]) (fun k=>by rw[hd.e,<-b1.like.e]),jm.fr,jm.defers,jm.size,fun i=>?_,fun k nh=>?_,jm.ext,fun m hm aH=>bJ.obk m hm (n3 (Nat.le_add_right _ _) (fun _ h=>iw _ h) aH)⟩
  ·have:=jm.slot i;rw[hd.t,<-b1.like.t]at this;exact this
  ·refine jm.new k (Cu k (b1.F k ?_ fun j av e=>nh.2 (by subst e;exact kf _ (List.mem_map_of_mem av))));simp only at nh;refine⟨(n3 (Nat.le_add_right st.n C.N) (fun _ h=>h) nh).1,fun hM=>?_⟩;rcases b1.o k hM with h|⟨d,aG,rfl⟩|⟨j,av,rfl⟩;rotate_left 2
   ·exact nh.2 (kf _ (List.mem_map_of_mem av))
   ·exact nh.2 (iw _ h)
   ·have:=nh.1;simp at this;omega
 ·intro k o J aB;rw[h4]at aB;cases aB
 ·rw[ye gs _ 0 h4];have:∀(gs:List b3) k,(rE k gs).length=gs.length:=by
   intro gs;induction gs with
   |nil=>intro k;rfl
   |cons g r a8=>intro k;simp[rE,a8]
  rw[this];have:=w9 gb;simp at this;omega
def jf:List ab->Prop
 |[]=>True
 |p::aX=>(match p with| .slice _ _ xs=>xs.length<=b0| .str s=>s.length<=b0|_=>True)/\jf aX
def jE:ab->Prop
 | .slice _ _ xs=>xs.length<=b0
 | .str s=>s.length<=b0
 | .agg cs=>jf cs
 |_=>True
def je:List ab->Prop
 |[]=>True
 |p::r=>jE p/\je r
theorem Ez{w:World}{ν:aC}:∀{cs:List ab} {us:List Value},bV w ν cs us->jf cs
 |[],_,_=>trivial
 |c::cs,us,h=>by
  simp only[bV]at h;obtain⟨u,a1,_,I,aa⟩:=h;refine⟨?_,Ez aa⟩;cases c<;>simp only<;>have ak:=I.1<;>simp only[aw]at ak
  ·exact ak.2
  ·obtain⟨⟨a,cap,_,_,aJ,_⟩,_⟩:=ak;exact aJ.2
theorem Eu{w:World}{ν:aC}{cs:List ab}{us:List Value}(h:gI w ν cs us):fp cs=true->jf cs:=fun aV=>by rw[k7 aV]at h;exact Ez h
theorem KS{w:World}{ν:aC}{p:ab}{v:Value}(h:aw w ν p v):jE p:=by
 cases p<;>simp only[jE]<;>simp only[aw]at h
 ·exact h.2
 ·obtain⟨⟨a,cap,_,_,aJ,_⟩,_⟩:=h;exact aJ.2
 ·obtain⟨us,_,aa⟩:=h;exact Ez aa
theorem EC{w:World}{ν:aC}:∀{cs:List ab} {us:List Value},bT w ν cs us->je cs
 |[],_,_=>trivial
 |c::cs,us,h=>by simp only[bT]at h;obtain⟨u,a1,_,I,aa⟩:=h;exact⟨KS I,EC aa⟩
inductive C where
 |skip
 |region (gs:List b3)
 |drawn (q:Bool) (N:Nat) (gs:List b3)
 |drawnW (nw:List Nat) (N:Nat) (gs:List b3)
 |drawnL (q:Bool) (N:Nat) (gs ts:List b3)
 |seq (a b:C)
 |cond (x:cl) (t e:C)
 |block (id:Nat) (c:C)
 |loop (c:C)
 |exit (id:Nat)
 |ret
 |pub (s:Nat) (c:C)
 |pubB (s:Nat) (c:C)
 |fg (mA:Bool) (s:Nat) (c:C)
 |fz (agg:Bool) (s:Nat) (c:C)
 |fd (s:Nat) (c:C)
 |no
def x9(st:aM):ab->aR (ab×List (aq×cp))
 | .row sz k n=>match look k st.e with
  |some ⟨n',el,cB,some xs⟩=>if n'=n/\cB=sz then some (.slice sz (.own k) xs,cu k ⟨n,el,sz,none⟩ st.e)else none
  |_=>none
 |_=>none
def vP(st:aM)(s:Nat):aR aM:=
 match x9 st (get s st.t)with
 |some (p,e)=>some {st with t:=put s p st.t,e:=e}
 |none=>none
def vO(st:aM)(s:Nat):aR aM:=
 match get (s%1000) st.t with
 | .ptr k off=>match look k st.b with
  |some cs=>match cs[off+s/1000]? with
   |some p=>match x9 st p with
    |some (l3,e)=>if fp cs then some {st with b:=cu k (cs.set (off+s/1000) l3) st.b,e:=e}else none
    |none=>none
   |none=>none
  |none=>none
 |_=>none
theorem AW{C:db}{st:aM}{a:Act}{w:World}{ν:aC}(h:bK C st a w ν){s:Nat}{p:ab}(ao:aw w ν p (a.tmps.getD s undef)):bK C {st with t:=put s p st.t} a w ν:=by
 refine⟨h.good,h.fr,h.defers,h.size,fun i=>?_,h.new,h.ext,h.obk⟩;have:=h.slot i;simp only[nc];split
 ·rename_i e;subst e;exact ao
 ·exact this
theorem Kl{C:db}{st:aM}{a:Act}{w:World}{ν:aC}(h:bK C st a w ν){p l3:ab}{e:List (aq×cp)}{v:Value}(aV:aw w ν p v)(he:x9 st p=some (l3,e)):
  ∃ν',bK C {st with e:=e} a w ν'/\aw w ν' l3 v/\kh w ν w ν':=by
 unfold x9 at he;split at he
 ·rename_i sz k n;split at he
  ·rename_i n' el cB xs J;split at he
   ·rename_i aA;obtain⟨rfl,rfl⟩:=aA;cases he;simp only[aw]at aV;obtain⟨_,aB,n0,u,I,aa,ak⟩:=aV;obtain⟨v0,dP,bL,ck,dd,du⟩:=h.good.own k _ J;rw[I]at bL;simp only[dp,hQ]at bL;obtain⟨rfl,rfl⟩:=bL;have aY:v=u:=ak rfl;subst aY;obtain⟨cy,_,_⟩:=du xs rfl;simp only at cy;obtain⟨g1,g2⟩:=h.publish J rfl I (by rw[cy];exact aB);refine⟨_,g1,g2,⟨fun b o aN=>⟨.inl aN,rfl⟩,fun j b _ av=>av,fun g n u _ hj=>⟨n,u,?_,.inl ⟨rfl,rfl⟩⟩,fun _ _ _=>rfl,fun _ _ _ _ h=>h⟩⟩;simp only[aC.withRowOf];split
    ·rename_i e;subst e;rw[I]at hj;exact hj
    ·exact hj
   ·cases he
  ·cases he
 ·cases he
def uY(mA:Bool):ab->ab
 | .slice sz tag xs=>.slice sz (if mA then tag else .no) (bF xs)
 |p=>bC p
theorem O9{w:World}{ν:aC}{mA:Bool}{p:ab}{v:Value}(h:aw w ν p v):aw w ν (uY mA p) v:=by
 have I:=sN p v h;cases p with
 |slice sz tag xs=>
  simp only[uY];cases mA with
  |false=>simpa only[ib,if_false,bC]using I
  |true=>
   simp only[if_true];simp only[aw,bC]at h I⊢;refine⟨I.1,fun e=>h.2.1 e,fun g e=>?_,fun k j e=>?_,fun k e=>?_⟩
   ·obtain⟨n,u,ai,aE,bb⟩:=h.2.2.1 g e;exact⟨n,u,ai,by rw[j8];exact aE,by rw[j8];exact bb⟩
   ·exact w6 _ _ (h.2.2.2.1 k j e)
   ·exact w6 _ _ (h.2.2.2.2 k e)
 |_=>exact I
theorem S3{C:db}{st st':aM}{a:Act}{w:World}{ν:aC}(h:bK C st a w ν){s:Nat}(he:vP st s=some st'):∃ν',bK C st' a w ν':=by
 unfold vP at he;split at he
 ·rename_i p e aV;cases he;obtain⟨ν',I,aa,_⟩:=Kl h (h.slot s) aV;exact⟨_,AW I aa⟩
 ·cases he
theorem KO{w:World}{ν:aC}:∀{cs:List ab} {us:List Value} {i:Nat} {p q:ab} {v:Value},bV w ν cs us->cs[i]? =some p->us[i]? =some v->aw w ν q v->bV w ν (cs.set i q) us
 |[],_,_,_,_,_,_,h,_,_=>by simp at h
 |c::cs,us,0,p,q,v,h,_,aY,bj=>by simp only[bV]at h;obtain⟨u,a1,rfl,I,aa⟩:=h;simp only[List.getElem?_cons_zero,dp]at aY;subst aY;simp only[List.set_cons_zero,bV];exact⟨_,_,rfl,⟨bj,I.2⟩,aa⟩
 |c::cs,us,i+1,p,q,v,h,aV,aY,bj=>by simp only[bV]at h;obtain⟨u,a1,rfl,I,aa⟩:=h;simp only[List.set_cons_succ,bV];exact⟨_,_,rfl,I,KO aa (by simpa using aV) (by simpa using aY) bj⟩
theorem S2{C:db}{st st':aM}{a:Act}{w:World}{ν:aC}(h:bK C st a w ν){s:Nat}(he:vO st s=some st'):∃ν',bK C st' a w ν':=by
 unfold vO at he;split at he
 ·rename_i k Sl J;generalize Sl+s/1000=off at he;split at he
  ·rename_i cs cj;split at he
   ·rename_i p aV;split at he
    ·rename_i l3 e C1;split at he
     ·rename_i gE;cases he;obtain⟨bl,us,el,g1,g2,g3,g4,g5⟩:=h.good.box k cs cj;rw[k7 gE]at g5;have b4:off<us.toList.length:=by rw[mI g5];exact(gp.1 aV).1
      obtain⟨v,aY⟩:∃v,us.toList[off]? =some v:=⟨_,eo b4⟩;have C6:aw w ν p v:=by have:=vZ off g5;rw[pJ (gp.1 aV).1,pJ b4]at this;simp only[bV]at this;obtain⟨u,a1,ai,aE,_⟩:=this;rw[(gp.1 aV).2]at aE;rw[(gp.1 aY).2]at ai;cases ai;exact aE.1
      obtain⟨ν',I,aa,ak⟩:=Kl h C6 C1;have vj:bV w ν' (cs.set off l3) us.toList:=KO (KN ak g5) aV aY aa;have IQ:=qc vj;refine⟨ν',⟨I.good.alt,fun j cn av=>?_,fun j dc b av jL=>I.good.inj j dc b ?_ ?_,I.good.own,I.good.oinj,fun g j n v b aL av=>I.good.obx g j n v b aL ?_,I.good.one,fun bl af=>I.good.otr bl (af.imp (fun⟨aW,bt,a2⟩=>⟨aW,by rw[hD]at bt;split at bt;(rename_i e;subst e;simp[cj]);exact bt,a2⟩) id)⟩,I.fr,I.defers,I.size,I.slot,I.new,I.ext,I.obk⟩
      ·simp only at av;rw[hD]at av;split at av
       ·rename_i e;subst e;cases av;obtain⟨fB,a1,dL,f1,f2,f3,f4,f5⟩:=I.good.box k cs cj;have:fB=bl:=by have:=ak.bx k bl trivial g1;rw[this]at f1;cases f1;rfl
        subst this;rw[lA gE]at g4 f4;rw[g4]at f4;injection f4 with f4;injection f4 with f4 f6 f7;refine⟨fB,us,el,f1,f2,f3,by rw[lA IQ];exact g4,by rw[k7 IQ];exact vj⟩
       ·exact I.good.box j cn av
      ·simp only at av;rw[hD]at av;split at av
       ·rename_i e;subst e;simp[cj]
       ·exact av
      ·simp only at jL;rw[hD]at jL;split at jL
       ·rename_i e;subst e;simp[cj]
       ·exact jL
      ·simp only at av;rw[hD]at av;split at av
       ·rename_i e;subst e;simp[cj]
       ·exact av
     ·cases he
    ·cases he
   ·cases he
  ·cases he
 ·cases he
def pS{α:Type}(k:aq)(l:List (aq×α)):List (aq×α):=match l with
 |[]=>[]
 |(i,x)::r=>if i=k then pS k r else(i,x)::pS k r
theorem DR{α:Type}(k j:aq):∀l:List (aq×α),look j (pS k l)=if j=k then none else look j l
 |[]=>by simp[pS,look]
 |(i,x)::r=>by
  simp only[pS];by_cases h:i=k
  ·subst h;rw[if_pos rfl,DR i j r];by_cases aa:j=i
   ·simp[aa]
   ·have:¬i=j:=fun e=>aa e.symm;simp[look,aa,this]
  ·rw[bh h];simp only[look];by_cases aa:i=j
   ·subst aa;simp[h]
   ·simp only[aa,if_false];exact DR k j r
def Cm(agg:Bool):List ab->aR ab
 |[p]=>if agg then some (.agg [p])else some p
 |cs=>if agg then some (.agg cs)else none
def rZ(st:aM)(agg:Bool)(s:Nat):aR aM:=
 match get s st.t with
 | .ptr k 0=>match look k st.b with
  |some cs=>if fp cs then match Cm agg cs with
    |some x=>some {st with t:=put s (.eptr x) st.t,b:=pS k st.b}
    |none=>none
   else none
  |none=>none
 |_=>none
theorem SQ{u:Value}(h:u.oneCell'=true):u.cells.toList=[u]:=by cases u<;>first|rfl|(simp[Value.oneCell']at h)
theorem Jx{w:World}{A:Nat->Nat->Prop}{b:Nat}{us:Array Value}{el:eO}(af:w.heap[b]? =some (.cells us el))(aN:∀o,o<us.size->A b o):∀(vs:List Value) (off:Nat),us.toList.drop off=vs->h7 w A b off vs
 |[],_,_=>trivial
 |v::vs,off,h=>by
  have b4:off<us.toList.length:=by
   rcases Nat.lt_or_ge off us.toList.length with I|I
   ·exact I
   ·rw[List.drop_eq_nil_of_le I]at h;cases h
  have aa:=pJ b4;rw[h]at aa;injection aa with aa ak;refine⟨⟨aN off (by simpa using b4),?_⟩,Jx af aN vs (off+1) ak.symm⟩;have QK:off<us.size:=by simpa using b4
  simp only[World.cell?,af,qo,ib,if_false];rw[aa];simp[QK]
theorem Po{C:db}{st st':aM}{a:Act}{w:World}{ν:aC}(h:bK C st a w ν){agg:Bool}{s:Nat}(he:rZ st agg s=some st'):∃ν',bK C st' a w ν':=by
 unfold rZ at he;split at he
 ·rename_i k J;split at he
  ·rename_i cs cj;split at he
   ·rename_i gE;split at he
    ·rename_i x ad;cases he;obtain⟨bl,us,el,g1,g2,g3,g4,g5⟩:=h.good.box k cs cj;rw[k7 gE]at g5;rw[lA gE]at g4;have b4:bl<w.heap.size:=by
      rcases Nat.lt_or_ge bl w.heap.size with I|I
      ·exact I
      ·rw[Array.getElem?_eq_none I]at g4;cases g4
     let ν':aC:={ν with A:=fun b o=>ν.A b o\/(b=bl/\o<us.size)}
     have ag:kh w ν w ν':=⟨fun b o aN=>⟨.inl aN,rfl⟩,fun j b _ av=>av,fun g n u _ hj=>⟨n,u,hj,.inl ⟨rfl,rfl⟩⟩,fun _ _ _=>rfl,fun _ _ _ _ h=>h⟩;have fT:∀j cn,look j (pS k st.b)=some cn->j≠k/\look j st.b=some cn:=fun j cn av=>by
      rw[DR]at av;split at av
      ·cases av
      ·rename_i e;exact⟨e,av⟩
     have ni:∀j,(look j (pS k st.b)).isSome->(look j st.b).isSome:=fun j av=>by obtain⟨cn,fJ⟩:=eb.1 av;simp[(fT j cn fJ).2]
     have ll:∀(g:aq) (n:Nat) (v:Value),(look g st.e).isSome->ν.ow g=some (n,v)->v.ownBlock=some bl->cv:=fun g n v I aa ak=>h.good.obx g k n v bl I (by simp[cj]) aa ak g1;have kv:aw w ν' (.eptr x) (a.tmps.getD s undef):=by
      have ao:=h.slot s;rw[J]at ao;simp only[aw]at ao⊢;obtain⟨fa,bL,ck⟩:=ao;rw[g1]at bL;cases bL;have aB:h7 w ν'.A bl 0 us.toList:=Jx g4 (fun o ag=>.inr ⟨rfl,ag⟩) _ 0 rfl;have g6:bV w ν' cs us.toList:=KN ag g5;unfold Cm at ad;split at ad
      ·rename_i p;simp only[bV]at g6;obtain⟨u,a1,ai,aE,bb⟩:=g6;subst bb;split at ad
       ·cases ad;exact⟨bl,0,.agg us,ck,by simp only[aw];exact⟨us,rfl,by rw[ai];simp only[bV];exact⟨u,[],rfl,aE,rfl⟩⟩,by simpa[mO]using aB⟩
       ·cases ad;refine⟨bl,0,u,ck,aE.1,?_⟩;rw[SQ aE.2,<-ai];exact aB
      ·split at ad
       ·cases ad;exact⟨bl,0,.agg us,ck,by simp only[aw];exact⟨us,rfl,g6⟩,by simpa[mO]using aB⟩
       ·cases ad
     refine⟨ν',AW (ν:=ν') (st:={st with b:=pS k st.b}) ⟨⟨fun b o aN=>?_,fun j cn av=>?_,fun j dc b I aa=>h.good.inj j dc b (ni j I) (ni dc aa),fun g o aL=>?_,h.good.oinj,fun g j n v b I aa=>h.good.obx g j n v b I (ni j aa),h.good.one,fun b au=>h.good.otr b (au.imp (fun⟨j,bt,a2⟩=>⟨j,ni j bt,a2⟩) id)⟩,⟨h.fr.os,h.fr.tape,h.fr.output,h.fr.size,h.fr.block,fun b o aN=>⟨.inl (h.fr.keep b o aN).1,(h.fr.keep b o aN).2⟩,fun b o aN=>?_,h.fr.obj,h.fr.obn,h.fr.row,h.fr.obr,h.fr.trd,h.fr.trb,h.fr.trn,h.fr.sh,h.fr.nrow⟩,h.defers,h.size,fun i=>rb ag (h.slot i),h.new,fun x ad=>⟨rb ag (h.ext x ad).1,(h.ext x ad).2⟩,h.obk⟩ kv⟩
     ·rcases aN with aN|⟨rfl,_⟩
      ·exact h.good.alt b o aN
      ·exact b4
     ·obtain⟨b5,jL⟩:=fT j cn av;obtain⟨fB,a1,dL,f1,f2,f3,f4,f5⟩:=h.good.box j cn jL;refine⟨fB,a1,dL,f1,f2,fun o aN=>?_,f4,ny ag f5⟩;rcases aN with aN|⟨rfl,_⟩
      ·exact f3 o aN
      ·exact b5 (h.good.inj j k _ (by simp[jL]) (by simp[cj]) f1 g1)
     ·obtain⟨v0,dP,ai,aE,bb,b9⟩:=h.good.own g o aL;have r4:∀b,v0.ownBlock=some b->∀j,ν'.A b j->ν.A b j:=fun b af j aN=>by
       rcases aN with aN|⟨rfl,_⟩
       ·exact aN
       ·exact(ll g _ v0 (by simp[aL]) ai af).elim
      exact⟨v0,dP,ai,aE,fun b af=>⟨(bb b af).1,fun j aN=>(bb b af).2 j (r4 b af j aN)⟩,pA ag r4 b9⟩
     ·rcases aN with aN|⟨rfl,_⟩
      ·exact h.fr.fresh b o aN
      ·exact .inr g2
    ·cases he
   ·cases he
  ·cases he
 ·cases he
def pz(st:aM)(x:cl)(b:Bool):aM:=match x with
 | .t i=>{st with t:=put i (.bool b) st.t}
 | .c _=>st
def nt(nw:List Nat)(o:List aq):List Nat:=nw.filter fun j=>decide (aq.obj j∉o)
theorem Sf{nw:List Nat}{o:List aq}:∀j∈nt nw o,aq.obj j∉o:=fun j av=>by have:=(List.mem_filter.1 av).2;simpa using this
def b6(P:bm)(ob:List aq):C->(Exit->aM->Prop)->aM->Prop
 | .skip,Q,st=>Q .normal st
 | .region gs,Q,st=>fm P ob gs st (Q .normal)
 | .drawn q N gs,Q,st=>fI P q [] st.n gs st (mf (st.n+N) st.o (Q .normal))
 | .drawnW nw N gs,Q,st=>fI P false (nt nw st.o) st.n gs st (mf (st.n+N) ((nt nw st.o).map aq.obj++st.o) (Q .normal))
 | .drawnL q N gs ts,Q,st=>fI P q [] st.n gs st (mf (st.n+N) st.o (fun st'=>fm P ob ts st' (Q .normal)))
 | .seq a b,Q,st=>b6 P ob a (fun e st'=>match e with| .normal=>b6 P ob b Q st'|e=>Q e st') st
 | .cond x t e,Q,st=>match bg st.t x with
  | .bool b=>(b=true->b6 P ob t Q (pz st x true))/\(b=false->b6 P ob e Q (pz st x false))
  |_=>cv
 | .block id c,Q,st=>b6 P ob c (fun e st'=>match e with| .exit j=>if j=id then Q .normal st' else Q (.exit j) st'|e=>Q e st') st
 | .loop c,Q,st=> ∃(ix:Nat->aM->Prop) (m:Nat) (sR:aM),hi ob st sR/\ix m sR/\
   ∀k s,ix k s->(∀i,jE (get i s.t))->(∀j cs,look j s.b=some cs->fp cs=true->jf cs)->b6 P ob c (fun e aj=>match e with| .normal=> ∃aW l5,aW<k/\hi ob aj l5/\ix aW l5|e=>Q e aj) s
 | .exit id,Q,st=>Q (.exit id) st
 | .ret,Q,st=>Q .ret st
 | .pub s c,Q,st=>match vP st s with
  |some st'=>b6 P ob c Q st'
  |none=>cv
 | .pubB s c,Q,st=>match vO st s with
  |some st'=>b6 P ob c Q st'
  |none=>cv
 | .fg mA s c,Q,st=>b6 P ob c Q {st with t:=put s (uY mA (get s st.t)) st.t}
 | .fd s c,Q,st=>tw ob st s/\b6 P ob c Q (rY st s)
 | .fz ep s c,Q,st=>match rZ st ep s with
  |some st'=>b6 P ob c Q st'
  |none=>cv
 | .no,_,_=>cv
def fb(N:Nat)(aQ:List (Nat×cm)):C->Code->Bool
 | .skip,.skip=>true
 | .region gs,.region _ ops false=>hc N aQ ops.toList gs ops.toList
 | .drawn _ N' gs,.region _ ops true=>N'==N&&hc N aQ ops.toList gs ops.toList&&wM gs ops.toList&&rS N gs
 | .drawnW _ N' gs,.region _ ops true=>N'==N&&hc N aQ ops.toList gs ops.toList&&wM gs ops.toList&&rS N gs
 | .drawnL _ N' gs ts,.region _ ops true=>N'==N&&hc N aQ ops.toList (gs++ts) ops.toList&&qA 0 ops.toList&&sL [] gs (lx [] ops.toList)&&rS N gs&&wo gs.length ops
 | .seq a b,.seq x y=>fb N aQ a x&&fb N aQ b y
 | .cond x t e,.cond o t' fC=>cZ x o&&fb N aQ t t'&&fb N aQ e fC
 | .block id c,.block xP fX=>id==xP&&fb N aQ c fX
 | .loop c,.loop fX=>fb N aQ c fX
 | .exit id,.exit xP=>id==xP
 | .ret,.ret=>true
 | .pub _ c,fX=>fb N aQ c fX
 | .pubB _ c,fX=>fb N aQ c fX
 | .fg _ _ c,fX=>fb N aQ c fX
 | .fz _ _ c,fX=>fb N aQ c fX
 | .fd _ c,fX=>fb N aQ c fX
 | .no,_=>true
 |_,_=>false
theorem Cs{N:Nat}{aQ:List (Nat×cm)}{ops:List Oper}:∀{gs:List b3} {os:List Oper},hc N aQ ops gs os=true->gs.length=os.length
 |[],[],_=>rfl
 |[],_::_,h=>by simp[hc]at h
 |_::_,[],h=>by simp[hc]at h
 |g::gs,o::os,h=>by simp only[hc,bD]at h;simp[Cs h.2]
theorem H6{N:Nat}{aQ:List (Nat×cm)}{ops:List Oper}{ts:List b3}:∀(gs:List b3) (os:List Oper),hc N aQ ops (gs++ts) os=true->hc N aQ ops ts (os.drop gs.length)=true
 |[],os,h=>by simpa using h
 |_::_,[],h=>by simp[hc]at h
 |g::gs,o::os,h=>by simp only[eP,hc,bD]at h;simpa using H6 gs os h.2
def Br(P:bm)(C:db)(c:Code)(Q:Exit->aM->Prop)(st:aM):Prop:= ∀a w ν,bK C st a w ν->c.wp P (fun e bG w'=> ∃st' ν',Q e st'/\bK C st' bG w' ν') a w
theorem lj{P:bm}(hm:P.follows .mixedOrders=true){aQ:List (Nat×cm)}(au:dE P aQ=true){X:db}:∀(c:C) (code:Code) (Q:Exit->aM->Prop) (st:aM),fb X.N aQ c code=true->b6 P X.ob c Q st->Br P X code Q st
 | .skip,code,Q,st,ag,he=>by
  cases code<;>simp only[fb]at ag<;>try cases ag
  intro a w ν hr;exact wp_skip ⟨st,ν,he,hr⟩
 | .region gs,code,Q,st,ag,he=>by
  cases code<;>try(simp[fb]at ag;done)
  rename_i id ops draw;cases draw<;>simp only[fb]at ag
  ·intro a w ν hr;refine wp_region ?_;have aB:gs.length=ops.size:=by simpa using Cs ag
   rw[List.range_eq_range',<-aB];exact Cg au (K:=Q .normal) (fun st' bG w' ν' I aa=>⟨st',ν',I,aa⟩) gs ops.toList 0 Ψ ag st a w ν he hr
  ·cases ag
 | .drawn q N gs,code,Q,st,ag,he=>by
  cases code<;>try(simp[fb]at ag;done)
  rename_i id ops draw;cases draw<;>simp only[fb]at ag
  ·cases ag
  ·simp only[bD,da]at ag;obtain⟨⟨⟨rfl,I⟩,aa⟩,ak⟩:=ag;intro a w ν hr;exact Hi hm au I aa ak (nw:=[]) (K:=Q .normal) (fun st' bG w' ν' I aa=>⟨st',ν',I,aa⟩) Ψ he hr
 | .drawnW nw N gs,code,Q,st,ag,he=>by
  cases code<;>try(simp[fb]at ag;done)
  rename_i id ops draw;cases draw<;>simp only[fb]at ag
  ·cases ag
  ·simp only[bD,da]at ag;obtain⟨⟨⟨rfl,I⟩,aa⟩,ak⟩:=ag;intro a w ν hr;exact Hi hm au I aa ak (nw:=nt nw st.o) (K:=Q .normal) (fun st' bG w' ν' I aa=>⟨st',ν',I,aa⟩) Sf he hr
 | .drawnL q N gs ts,code,Q,st,ag,he=>by
  cases code<;>try(simp[fb]at ag;done)
  rename_i id ops draw;cases draw<;>simp only[fb]at ag
  ·cases ag
  ·simp only[bD,da]at ag;obtain⟨⟨⟨⟨⟨rfl,I⟩,aa⟩,ak⟩,aJ⟩,ba⟩:=ag;intro a w ν hr;have aB:gs.length+ts.length=ops.size:=by simpa using Cs I
   refine Oc hm au I aa ak ba aJ (nw:=[]) (K1:=fun st'=>fm P X.ob ts st' (Q .normal)) (fun st' bG w' ν' J bJ=>?_) Ψ he hr;rw[show ops.size-gs.length=ts.length by omega];exact Cg au (K:=Q .normal) (fun st' bG w' ν' I aa=>⟨st',ν',I,aa⟩) ts (ops.toList.drop gs.length) gs.length (fun j=>by rw[List.getElem?_drop];simp) (H6 gs ops.toList I) st' bG w' ν' J bJ
 | .seq x y,code,Q,st,ag,he=>by
  cases code<;>try(simp[fb]at ag;done)
  rename_i nX iT;simp only[fb,bD]at ag;intro a w ν hr;refine wp_seq ?_;have I:=lj hm au x nX _ st ag.1 he a w ν hr;refine wp_mono I fun e bG w' bn=>?_;obtain⟨st',ν',bj,bJ⟩:=bn;cases e with
  |normal=>exact lj hm au y iT Q st' ag.2 bj bG w' ν' bJ
  |_=>exact⟨st',ν',bj,bJ⟩
 | .cond x t e,code,Q,st,ag,he=>by
  cases code<;>try(simp[fb]at ag;done)
  rename_i o Nj ce;simp only[fb,bD]at ag;intro a w ν hr;simp only[b6]at he;have ad:=c1 hr ag.1.1;split at he
  ·rename_i b af;rw[af]at ad;simp only[aw]at ad;have xE:bK X (pz st x b) a w ν:=by
    unfold pz;split
    ·exact Er hr (by simpa[bg]using af)
    ·exact hr
   refine wp_cond ad ?_;cases b
   ·exact lj hm au e ce Q _ ag.2 (he.2 rfl) a w ν xE
   ·exact lj hm au t Nj Q _ ag.1.2 (he.1 rfl) a w ν xE
  ·exact he.elim
 | .block id c,code,Q,st,ag,he=>by
  cases code<;>try(simp[fb]at ag;done)
  rename_i xP fX;simp only[fb,bD,da]at ag;obtain⟨rfl,ag⟩:=ag;intro a w ν hr;refine wp_block ?_;refine wp_mono (lj hm au c fX _ st ag he a w ν hr) fun e bG w' bn=>?_;obtain⟨st',ν',bj,bJ⟩:=bn;cases e with
  |exit j=>
   simp only[Exit.inBlock]at bj⊢;by_cases av:j=id
   ·rw[if_pos av]at bj⊢;exact⟨st',ν',bj,bJ⟩
   ·rw[bh av]at bj⊢;exact⟨st',ν',bj,bJ⟩
  |_=>exact⟨st',ν',bj,bJ⟩
 | .loop c,code,Q,st,ag,he=>by
  cases code<;>try(simp[fb]at ag;done)
  rename_i fX;simp only[fb]at ag;intro a w ν hr;simp only[b6]at he;obtain⟨ix,m,sR,hw,aD,pd⟩:=he;refine wp_loop_ghost (fun k a w=> ∃s ν,ix k s/\bK X s a w ν) m ⟨sR,_,aD,hr.weaker hw⟩ ?_;intro k a w PQ;obtain⟨s,ν,ao,jn⟩:=PQ;have I:=pd k s ao (fun i=>KS (jn.slot i)) (fun j cs av=>by obtain⟨bl,us,el,_,_,_,_,g5⟩:=jn.good.box j cs av;exact Eu g5);refine wp_mono (lj hm au c fX _ s ag I a w ν jn) fun e bG w' bn=>?_;obtain⟨st',ν',bj,bJ⟩:=bn;cases e with
  |normal=>obtain⟨aW,l5,ai,aE,bb⟩:=bj;exact⟨aW,ai,l5,_,bb,bJ.weaker aE⟩
  |_=>exact⟨st',ν',bj,bJ⟩
 | .exit id,code,Q,st,ag,he=>by
  cases code<;>try(simp[fb]at ag;done)
  rename_i xP;simp only[fb,da]at ag;subst ag;intro a w ν hr;exact wp_exit ⟨st,ν,he,hr⟩
 | .ret,code,Q,st,ag,he=>by
  cases code<;>try(simp[fb]at ag;done)
  intro a w ν hr;exact wp_ret ⟨st,ν,he,hr⟩
 | .pub s c,code,Q,st,ag,he=>by
  simp only[fb]at ag;simp only[b6]at he;split at he
  ·rename_i st' ao;intro a w ν hr;obtain⟨ν',I⟩:=S3 hr ao;exact lj hm au c code Q st' ag he a w ν' I
  ·exact he.elim
 | .pubB s c,code,Q,st,ag,he=>by
  simp only[fb]at ag;simp only[b6]at he;split at he
  ·rename_i st' ao;intro a w ν hr;obtain⟨ν',I⟩:=S2 hr ao;exact lj hm au c code Q st' ag he a w ν' I
  ·exact he.elim
 | .fg mA s c,code,Q,st,ag,he=>by simp only[fb]at ag;simp only[b6]at he;intro a w ν hr;exact lj hm au c code Q _ ag he a w ν (AW hr (O9 (hr.slot s)))
 | .fd s c,code,Q,st,ag,he=>by simp only[fb]at ag;simp only[b6]at he;intro a w ν hr;obtain⟨ν',I⟩:=Hs hr he.1;exact lj hm au c code Q _ ag he.2 a w ν' I
 | .fz ep s c,code,Q,st,ag,he=>by
  simp only[fb]at ag;simp only[b6]at he;intro a w ν hr;split at he
  ·rename_i st' fE;obtain⟨ν',I⟩:=Po hr fE;exact lj hm au c code Q st' ag he a w ν' I
  ·exact he.elim
 | .no,code,Q,st,ag,he=>by simp only[b6]at he
inductive cG where
 |tmp (i:Nat)
 |cell (i:Nat) (agg:Bool) (sz:Nat)
def bo(st:aM):cG->aR (Prop×ab)
 | .tmp i=>some (True,get i st.t)
 | .cell i agg sz=>kz st.b st.e agg sz (get i st.t)
def bd(st:aM):List cG->aR (Prop×List ab)
 |[]=>some (True,[])
 |r::cz=>match bo st r,bd st cz with
  |some (c,p),some (fX,aX)=>some (c/\fX,p::aX)
  |_,_=>none
def l4(aQ:List (Nat×cm)):List cG->List ResultVar->Bool
 |[],[]=>true
 | .tmp i::cz,.tmp j::os=>i==j&&l4 aQ cz os
 | .cell i agg sz::cz,.cell j t::os=>i==j&&(match cV aQ t with|some f=>f.size==sz&&f.kind.isAgg==agg|none=>false)&&l4 aQ cz os
 |_,_=>false
def a6:List ab->ab
 |[p]=>p
 |aX=>.tuple aX
def A8(tmps:Array Value):ResultVar->Sem Value
 | .tmp t=>pure (tmps.getD t undef)
 | .cell x t=>do loadVar t (<-asAddr (tmps.getD x undef))
theorem EF(fn:Func)(tmps:Array Value):results fn tmps=(do let vs<-fn.results.mapM (A8 tmps);pure (if h:vs.size=1 then vs[0]else .tuple vs)):=by unfold results;congr 2
theorem yj{P:bm}{aQ:List (Nat×cm)}(au:dE P aQ=true){X:db}{st:aM}{a:Act}{w:World}{ν:aC}(hr:bK X st a w ν):
  ∀(cz:List cG) (os:List ResultVar) (c:Prop) (aX:List ab),l4 aQ cz os=true->bd st cz=some (c,aX)->c->
  ∃vs,(os.mapM (A8 a.tmps)).run P w= .ok vs w/\bT w ν aX vs
 |[],[],c,aX,_,he,_=>by simp only[bd]at he;cases he;exact⟨[],Ψ,by simp[bT]⟩
 |[],_::_,_,_,ag,_,_=>by simp[l4]at ag
 | .tmp _::_,[],_,_,ag,_,_=>by simp[l4]at ag
 | .cell _ _ _::_,[],_,_,ag,_,_=>by simp[l4]at ag
 |r::cz,o::os,c,aX,ag,he,aA=>by
  simp only[bd]at he;split at he
  ·rename_i cJ p c2 Kk I aa;cases he;cases r with
   |tmp i=>
    cases o with
    |cell _ _=>simp[l4]at ag
    |tmp j=>simp only[l4,bD,da]at ag;obtain⟨rfl,ag⟩:=ag;simp only[bo]at I;cases I;obtain⟨vs,g1,g2⟩:=yj au hr cz os c2 Kk ag aa aA.2;refine⟨a.tmps.getD i undef::vs,?_,by simp only[bT];exact⟨_,_,rfl,hr.slot i,g2⟩⟩;simp only[List.mapM_cons,dW,A8,eN,ea,g1]
   |cell i agg sz=>
    cases o with
    |tmp _=>simp[l4]at ag
    |cell j t=>
     simp only[l4,bD,da]at ag;obtain⟨⟨rfl,ak⟩,ag⟩:=ag;split at ak
     ·rename_i f aH;simp only[bD,da]at ak;obtain⟨rfl,rfl⟩:=ak;simp only[bo]at I;obtain⟨vs,g1,g2⟩:=yj au hr cz os c2 Kk ag aa aA.2;obtain⟨v,f1,f2⟩:=Af au hr.good aH (hr.slot i) I aA.1;have xB:∃jV,a.tmps.getD i undef= .pointer (some jV):=by
       have ao:=hr.slot i;unfold kz at I;split at I
       ·rename_i cB k n jo gB J;rw[J]at ao;simp only[aw]at ao;obtain⟨⟨b,o,e⟩,_⟩:=ao;exact⟨_,e⟩
       ·rename_i k off J;rw[J]at ao;simp only[aw]at ao;obtain⟨b,_,e⟩:=ao;exact⟨_,e⟩
       ·rename_i q J;rw[J]at ao;simp only[aw]at ao;obtain⟨b,off,u,e,_⟩:=ao;exact⟨_,e⟩
       ·cases I
      obtain⟨jV,Ih⟩:=xB;rw[Ih]at f1;simp only[Instr.loadAt,Instr.sureAddr,dW,eN,ea]at f1;refine⟨v::vs,?_,by simp only[bT];exact⟨_,_,rfl,f2,g2⟩⟩;have PU:(asAddr (.pointer (some jV)):Sem Addr).run P w= .ok jV w:=rfl;simp only[List.mapM_cons,dW,A8,eN,ea,g1,Ih,PU,f1]
     ·cases ak
  ·cases he
theorem q9{w:World}{ν:aC}:∀{aX:List ab} {vs:List Value},bT w ν aX vs->vs.length=aX.length
 |[],vs,h=>by simp only[bT]at h;subst h;rfl
 |p::aX,vs,h=>by simp only[bT]at h;obtain⟨u,a1,rfl,_,aa⟩:=h;simp[q9 aa]
def hg:Nat->List ab->List (Nat×ab)
 |_,[]=>[]
 |i,p::aX=>(i,p)::hg (i+1) aX
theorem u1:∀(aX:List ab) (i j:Nat),get j (hg i aX)=if i<=j/\j<i+aX.length then aX.getD (j-i) .junk else .junk
 |[],i,j=>by simp[hg,get]
 |p::aX,i,j=>by
  simp only[hg,get];by_cases h:i=j
  ·subst h;simp
  ·rw[bh h,u1 aX (i+1) j];by_cases aa:i<=j/\j<i+(p::aX).length
   ·rw[if_pos aa,if_pos (by simp at aa⊢;omega)];have:j-i=(j-(i+1))+1:=Ω
    rw[this];simp
   ·rw[bh aa,bh (by simp at aa⊢;omega)]
def lu{α:Type}(aj:df):List (aq×α)->Prop
 |[]=>True
 |(k,_)::r=>aI aj k/\lu aj r
theorem tT{α:Type}{aj:df}:∀{l:List (aq×α)},lu aj l->∀k,(look k l).isSome->aI aj k
 |[],_,k,h=>by simp[look]at h
 |(i,x)::r,J,k,h=>by
  simp only[lu]at J;simp only[look]at h;split at h
  ·rename_i e;subst e;exact J.1
  ·exact tT J.2 k h
def eQ(cz:List cG)(s:df)(Q:ab->df->Prop)(e:Exit)(st:aM):Prop:=
 (e= .ret\/e= .normal)/\match bd st cz with
  |some (c,aX)=>c/\∃aj,lu aj s.b/\lu aj s.e/\mK (aI aj) aj.b st.b/\nC (aI aj) aj.e st.e/\gG aj/\kin (aI aj) (bC (a6 aX))/\Q (bC (a6 aX)) aj
  |none=>cv
theorem c8.ofW{P:bm}{aQ:List (Nat×cm)}(au:dE P aQ=true){f:FuncId}{fn:Func}(aH:P.funcs[f]? =some fn){code:Code}(af:fn.body=some code)(fL:(fn.name== "runtime.NumGoroutine")=false){cz:List cG}(jn:l4 aQ cz fn.results.toList=true)
  {args:List ab} (aB:args.length<=fn.ntmps) {s:df} (iW:gG s) {Q:ab->df->Prop} (he:∀X:db,X.N=fn.ntmps->X.ob=ds s->X.ex=[]->(∀b o,X.ν0.A b o->b<X.w0.heap.size)->je args->(∀j cs,look j s.b=some cs->fp cs=true->jf cs)->Br P X code (eQ cz s Q) ⟨hg 0 args,s.b,s.e,0,ds s⟩):c8 P f args s Q:=by
 intro w ν vs gl aL ad hr;refine .inl ⟨⟨fn,aH,by simp[af],fL⟩,?_⟩;have qR:=q9 hr;have fv:vs.size=args.length:=by simpa using qR
 let X:db:=⟨w,ν,eX ν s,fn.ntmps,ds s,gl,[]⟩
 have h4:∀k,fresh 0 (ds s) k->ν.bx k=none/\ν.ow k=none/\∀j b,¬ν.tr k j b:=by
  intro k J;cases k with
  |loc m=>exact⟨(ad _).1 (iW.1 m),(ad _).2.1 (iW.2 m),(ad _).2.2⟩
  |obj m=>
   simp only[fresh,true_and]at J;refine⟨?_,?_,(ad _).2.2⟩
   ·refine(ad _).1 ?_;cases h:look (.obj m) s.b with
    |none=>rfl
    |some x=>exact absurd (q2 (.inl (by simp[h]))) J
   ·refine(ad _).2.1 ?_;cases h:look (.obj m) s.e with
    |none=>rfl
    |some x=>exact absurd (q2 (.inr (by simp[h]))) J
 have jK:∀m,(ν.bx (.obj m)≠none\/ν.ow (.obj m)≠none)-> .obj m∈ds s:=by
  intro m hm;refine Classical.byContradiction fun aA=>?_;obtain⟨I,aa,_⟩:=h4 (.obj m) ⟨trivial,aA⟩;rcases hm with hm|hm
  ·exact hm I
  ·exact hm aa
 have kX:bK X ⟨hg 0 args,s.b,s.e,0,ds s⟩ {tmps:=vs++nG (fn.ntmps-vs.size) undef,defers:=[]} w ν:=by
  refine⟨⟨aL.alt,fun k cs J=>?_,aL.inj,fun g o dS=>?_,aL.oinj,aL.obx,aL.one,aL.otr⟩,⟨rfl,rfl,rfl,cx _,fun _ _ _=>rfl,fun b o h=>⟨h,rfl⟩,fun b o h=>.inl h,fun n b h=>h,fun n b h=>jK n (.inl (by rw[h];simp)),fun m n u h=>⟨n,u,h,.inl ⟨rfl,rfl⟩⟩,fun m n u h=>jK m (.inr (by rw[h];simp)),fun k j _ _ b h=>absurd h ((ad k).2.2 j b),fun k j b h=>absurd h ((ad k).2.2 j b),fun k j b h=>absurd h ((ad k).2.2 j b),fun _ _ _=>rfl,fun j n u b ai _=>(by rw[(ad _).2.1 (iW.2 j)]at ai;cases ai)⟩,rfl,?_,fun i=>?_,h4,fun _ ad=>(by cases ad),fun m hm aH=>aH.2 hm⟩
  ·obtain⟨bl,us,el,g1,g2,g3⟩:=aL.box k cs J;exact⟨bl,us,el,g1,.inl g2,g3⟩
  ·obtain⟨v,us,g1,g2,g3,g4⟩:=aL.own g o dS;exact⟨v,us,g1,g2,fun bl eJ=>⟨.inl (g3 bl eJ).1,(g3 bl eJ).2⟩,g4⟩
  ·show(vs++nG (fn.ntmps-vs.size) undef).size=fn.ntmps;simp;omega
  ·rw[u1];by_cases aD:i<args.length
   ·rw[if_pos Ω];have lX:args[i]? =some args[i]:=eo aD;obtain⟨v,ai,aE⟩:=v8 i hr lX;have aY:(vs++nG (fn.ntmps-vs.size) undef).getD i undef=v:=by
     have kM:vs[i]? =some v:=by simpa using ai
     rw[l8,Array.getElem?_append_left Ω,kM];rfl
    show aw w ν _ ((vs++nG (fn.ntmps-vs.size) undef).getD i undef);rw[aY];simpa[List.getD,lX]using aE
   ·rw[bh Ω];simp[aw]
 have xO:=he X rfl rfl rfl aL.alt (EC hr) (fun j cs av=>by obtain⟨bl,us,el,_,_,_,_,g5⟩:=aL.box j cs av;exact Eu g5) _ w ν kX;refine calls_of_wp aH af (wp_mono xO fun e bG w' bn=>?_);obtain⟨st',ν',⟨iA,bj⟩,bJ⟩:=bn;cases gf:bd st' cz with
 |none=>simp[gf]at bj
 |some x=>
  obtain⟨fX,aX⟩:=x;simp only[gf]at bj;obtain⟨lS,aj,kb,ke,bL,ck,dd,du,cy⟩:=bj;obtain⟨gV,g1,g2⟩:=yj au bJ cz fn.results.toList fX aX jn gf lS;have C4:=q9 g2;have kT:bG.defers=[]/\∃v,(results fn bG.tmps).run P w'= .ok v w'/\(fun(e:Ending) w'=> ∃v r aj ν',e= .returned v/\Q r aj/\aw w' ν' r v/\Good (fun bl=>eX ν s bl\/w.heap.size<=bl) w' ν' aj.b aj.e/\oR ν' aj/\gG aj/\mh ⟨w,ν,eX ν s,0,ds s,gl,[]⟩ w' ν') (.returned v) w':=by
   refine⟨bJ.defers,?_⟩;have fu:(results fn bG.tmps).run P w'= .ok (if h:gV.toArray.size=1 then gV.toArray[0]else .tuple gV.toArray) w':=by rw[EF];simp only[dW,Array.mapM_eq_mapM_toList,Sem.run_map,g1,ea,eN]
   refine⟨_,fu,_,bC (a6 aX),aj,ν'.cut (aI aj),rfl,cy,?_,bJ.good.cut bL ck (fun bl h _=>h),?_,dd,?_⟩
   ·have hV:aw w' ν' (a6 aX) (if h:gV.toArray.size=1 then gV.toArray[0]else .tuple gV.toArray):=by
     match aX,gV,g2,C4 with
     |[p],[v],g2,_=>simp only[bT]at g2;obtain⟨u,a1,ai,aE,_⟩:=g2;cases ai;simpa[a6]using aE
     |[],[],g2,_=>simp[a6,aw,bT]
     |p::gH::aX,v::v2::gV,g2,_=>rw[dif_neg Ψ];simp only[a6,aw];exact⟨_,rfl,by simpa using g2⟩
     |[_],[],_,h=>simp at h
     |[],_::_,_,h=>simp at h
     |[_],_::_::_,_,h=>simp at h
     |_::_::_,[],_,h=>simp at h
     |_::_::_,[_],_,h=>simp at h
    exact oo (kI.cut _ w' ν') _ _ du (sN _ _ hV)
   ·intro k;refine⟨?_,?_,?_⟩;rotate_left 2
    ·rintro j b ⟨ao,af⟩;obtain⟨t1,t2⟩:=bJ.fr.trn k j b af;rcases ao with ao|ao<;>obtain⟨x,nk⟩:=eb.1 ao
     ·obtain⟨bl,a1,el,ai,_⟩:=bJ.good.box k x (bL k x nk).1;rw[t1]at ai;cases ai
     ·obtain⟨v',a1,ai,_⟩:=bJ.good.own k x (ck k x nk).1;rw[t2]at ai;cases ai
    ·intro J;by_cases ao:aI aj k
     ·rw[aC.cut_bx ao];rcases ao with ao|ao
      ·rw[J]at ao;cases ao
      ·obtain⟨x,nk⟩:=eb.1 ao;obtain⟨v',a1,ai,_⟩:=bJ.good.own k x (ck k x nk).1;rcases bJ.good.one k with I|I
       ·exact I
       ·rw[I]at ai;cases ai
     ·exact(aC.cut_no ao).1
    ·intro J;by_cases ao:aI aj k
     ·rw[aC.cut_ow ao];rcases ao with ao|ao
      ·obtain⟨x,nk⟩:=eb.1 ao;obtain⟨bl,a1,el,ai,_⟩:=bJ.good.box k x (bL k x nk).1;rcases bJ.good.one k with I|I
       ·rw[I]at ai;cases ai
       ·exact I
      ·rw[J]at ao;cases ao
     ·exact(aC.cut_no ao).2.1
   ·refine⟨bJ.fr.os,bJ.fr.tape,bJ.fr.output,bJ.fr.size,bJ.fr.block,bJ.fr.keep,bJ.fr.fresh,fun n b h=>?_,fun n b h=>jK n (.inl (by rw[h];simp)),fun m n u h=>?_,fun m n u h=>jK m (.inr (by rw[h];simp)),fun k j aW dc b I aa=>bJ.fr.trd k j aW dc b I.2 aa.2,fun k j b af=>bJ.fr.trb k j b af.2,fun k j b af=>(by rw[aC.cut_bx af.1,aC.cut_ow af.1];exact bJ.fr.trn k j b af.2),bJ.fr.sh,fun j n u b ai aE=>bJ.fr.nrow j n u b (aC.cut_someO ai).2 aE⟩
    ·have ao:aI aj (.obj n):=by
      cases aB:look (.obj n) s.b with
      |none=>rw[(ad _).1 aB]at h;cases h
      |some x=>exact tT kb _ (by simp[aB])
     rw[aC.cut_bx ao];exact bJ.fr.obj n b h
    ·have ao:aI aj (.obj m):=by
      cases aB:look (.obj m) s.e with
      |none=>rw[(ad _).2.1 aB]at h;cases h
      |some x=>exact tT ke _ (by simp[aB])
     rw[aC.cut_ow ao];exact bJ.fr.row m n u h
  rcases iA with rfl|rfl<;>exact kT
theorem c8.of{P:bm}(hm:P.follows .mixedOrders=true){aQ:List (Nat×cm)}(au:dE P aQ=true){f:FuncId}{fn:Func}(aH:P.funcs[f]? =some fn){code:Code}(af:fn.body=some code)(fL:(fn.name== "runtime.NumGoroutine")=false){c:C}(aA:fb fn.ntmps aQ c code=true){cz:List cG}(jn:l4 aQ cz fn.results.toList=true)
  {args:List ab} (aB:args.length<=fn.ntmps) {s:df} (iW:gG s) {Q:ab->df->Prop} (he:je args->(∀j cs,look j s.b=some cs->fp cs=true->jf cs)->b6 P (ds s) c (eQ cz s Q) ⟨hg 0 args,s.b,s.e,0,ds s⟩):c8 P f args s Q:=
 c8.ofW au aH af fL jn aB iW fun X jZ iE _ _ I aa=>lj hm au c code _ _ (by rw[jZ];exact aA) (by rw[iE];exact he I aa)
def dA(aQ:List (Nat×cm))(c:C)(cz:List cG)(D1:Nat)(fn:Func):Bool:=
 match fn.body with
 |some code=>fb fn.ntmps aQ c code&&l4 aQ cz fn.results.toList&& !(fn.name== "runtime.NumGoroutine")&&decide (D1<=fn.ntmps)
 |none=>false
theorem c8.mk{P:bm}(hm:P.follows .mixedOrders=true){aQ:List (Nat×cm)}(au:dE P aQ=true){f:FuncId}{fn:Func}(aH:P.funcs[f]? =some fn){c:C}{cz:List cG}{n:Nat}(dI:dA aQ c cz n fn=true)
  {args:List ab} (aB:args.length<=n) {s:df} (iW:gG s) {Q:ab->df->Prop} (he:je args->(∀j cs,look j s.b=some cs->fp cs=true->jf cs)->b6 P (ds s) c (eQ cz s Q) ⟨hg 0 args,s.b,s.e,0,ds s⟩):c8 P f args s Q:=by
 unfold dA at dI;split at dI
 ·rename_i code af;simp only[bD,oF,fQ]at dI;obtain⟨⟨⟨I,aa⟩,ak⟩,aJ⟩:=dI;exact c8.of hm au aH af ak I aa (Nat.le_trans aB aJ) iW he
 ·cases dI
theorem oi:gG ⟨[],[]⟩:=⟨fun _=>rfl,fun _=>rfl⟩
def cC(cz:List cG)(r:ab)(e:Exit)(st:aM):Prop:=
 (e= .ret\/e= .normal)/\match bd st cz with
  |some (c,aX)=>c/\bC (a6 aX)=r
  |none=>cv
theorem FO{cz:List cG}{r:ab}(hr:kin (fun _=>cv) r):cC cz r=eQ cz ⟨[],[]⟩ (fun cr aj=>cr=r/\aj=⟨[],[]⟩):=by
 funext e st;unfold cC eQ;apply propext;refine and_congr_right fun _=>?_;cases bd st cz with
 |none=>exact Iff.rfl
 |some x=>
  obtain⟨c,aX⟩:=x;refine and_congr_right fun _=>?_;constructor
  ·intro h;refine⟨⟨[],[]⟩,trivial,trivial,fun k cs J=>by simp[look]at J,fun k cs J=>by simp[look]at J,oi,?_,h,rfl⟩;rw[h];exact mC (fun k J=>J.elim) r hr
  ·rintro⟨aj,_,_,_,_,_,_,h,_⟩;exact h
theorem ca.mk{P:bm}(hm:P.follows .mixedOrders=true){aQ:List (Nat×cm)}(au:dE P aQ=true){f:FuncId}{fn:Func}(aH:P.funcs[f]? =some fn){c:C}{cz:List cG}{n:Nat}(dI:dA aQ c cz n fn=true)
  {args:List ab} (aB:args.length<=n) {r:ab} (hr:kin (fun _=>cv) r) (he:je args->b6 P [] c (cC cz r) ⟨hg 0 args,[],[],0,[]⟩):ca P f args r:=by
 refine c8.mk hm au aH dI aB oi fun I _=>?_;rw[<-FO hr];exact he I
theorem wA{α:Type}{β:Type}:∀l:List (aq×α),bA ([]:List (aq×β)) l=l
 |[]=>rfl
 |(k,x)::r=>by simp[bA,look,wA r]
theorem CallDo.val{P:bm}{n:Nat}{args:List ab}{st:aM}{d:aR Nat}{K:aM->Prop}{r:ab}(J:kinL (fun _=>cv) args)(aH:ca P n args r)(h:K {st with t:=eB d r st.t}):CallDo P n args st d K:=by
 refine .inl ⟨⟨[],[]⟩,_,fun k cs J=>by simp[look]at J,fun k cs J=>by simp[look]at J,oi,lv (fun _ h=>h.elim) _ J,aH,?_⟩;rintro cr aj ⟨rfl,rfl⟩;refine⟨⟨fun m h=>by simp[look]at h,fun m h=>by simp[look]at h⟩,?_⟩;have:after st ⟨[],[]⟩ ⟨[],[]⟩ d cr={st with t:=eB d cr st.t}:=by simp[after,wA,ds]
 rw[this];exact h
@[reducible,simp] def cO(n:Int):cl:= .c (.int .i64 n)
@[reducible,simp] def ae(a b:Nat):b3:=⟨none,.s (.v a (.mov (.t b)))⟩
@[reducible,simp] def a7(a:Nat)(i:eW):b3:=⟨none,.s (.v a i)⟩
@[reducible,simp] def fk(i:cW):b3:=⟨none,.s i⟩
@[reducible,simp] def l7(a f:Nat)(l:List cl):b3:=⟨none,.call (some a) (.c (.func f [])) l⟩
@[reducible,simp] def b7(j:Nat)(w:Bool)(a b:Nat):b3:=⟨some (j,w),.s (.v a (.mov (.t b)))⟩
@[reducible,simp] def lD(j:Nat)(w:Bool)(a:Nat)(i:eW):b3:=⟨some (j,w),.s (.v a i)⟩
@[reducible,simp] def ys(j:Nat)(w:Bool)(i:cW):b3:=⟨some (j,w),.s i⟩
@[reducible,simp] def eS(d s a b:Nat):b3:=a7 d (.iaddr s (.t a) (.t b))
@[reducible,simp] def bB(d s a:Nat):b3:=a7 d (.load false s (.t a))
@[reducible,simp] def dv(d s a:Nat):b3:=a7 d (.load true s (.t a))
@[reducible,simp] def bE(d o s a:Nat):b3:=a7 d (.faddr o false s (.t a))
@[reducible,simp] def c6(d:Nat)(o:BinOp)(a b:Nat):b3:=a7 d (.bin o false (.t a) (.t b))
@[reducible,simp] def bc(d:Nat)(o:BinOp)(a:Nat)(n:Int):b3:=a7 d (.bin o false (.t a) (cO n))
@[reducible,simp] def ee(d a:Nat):b3:=a7 d (.len (.t a))
@[reducible,simp] def eK(d a:Nat):b3:=a7 d (.notB (.t a))
@[reducible,simp] def eI(d i a:Nat):b3:=a7 d (.ext i (.t a))
@[reducible,simp] def dD(d a b:Nat):b3:=a7 d (.pick (.t a) (.c (.bool true)) (.t b))
@[reducible,simp] def ff(d a b:Nat):b3:=a7 d (.pick (.t a) (.t b) (.c (.bool false)))
@[reducible,simp] def bQ(d:Nat)(b:Bool):b3:=a7 d (.mov (.c (.bool b)))
@[reducible,simp] def cF(d:Nat)(n:Int):b3:=a7 d (.mov (cO n))
@[reducible,simp] def bY(s a b:Nat):b3:=fk (.store s (.t a) (.t b))
@[reducible,simp] def aO(j:Nat)(w:Bool)(x:b3):b3:=⟨some (j,w),x.i⟩
@[reducible,simp] def al(l:List b3)(c:C):C:= .seq (.region l) c
@[reducible,simp] def be(n:Nat)(a b:C):C:= .cond (.t n) a b
@[reducible,simp] def ef(d f a:Nat):b3:=l7 d f [.t a]
@[reducible,simp] def gK(d f a b:Nat):b3:=l7 d f [.t a,.t b]
@[reducible,simp] def dO:List ab:=[.int .i64 0,.int .i64 0,.str [],.slice 4 .nil []]
@[reducible,simp] def jA(a b:Nat):b3:=fk (.box a none (.t b))
@[reducible,simp] def hZ(a:Nat)(l:List ab):b3:=fk (.alloc a none (.agg l))
@[reducible,simp] def rD(a n:Nat):b3:=a7 a (.mov (.c (.slice n .nil [])))
@[reducible,simp] def qn(a b c d e:Nat):b3:=fk (.app a b c (.t d) (.t e))
@[reducible,simp] def jd(a b c:Nat)(l:List cl):b3:=fk (.bsl a b c l)
@[reducible,simp] def kF(a b:Nat):b3:=a7 a (.nck (.t b))
@[reducible,simp] def s0(d s a:Nat)(n:Int):b3:=a7 d (.iaddr s (.t a) (cO n))
@[reducible,simp] def kE(d:Nat)(l:List ab)(m:List (Nat×Nat×cl)):b3:=a7 d (.build l m)
@[reducible,simp] def uy(a b c:Nat)(x:C):C:= .block 0 (.loop (al [c6 a .lss b c] (.seq (be a .skip (.exit 0)) x)))
end
section
open Go Go.RowKit
theorem h0{α:Type}{l:List α}{i:Nat}(h:i<l.length):∃b,l[i]? =some b/\∀h,(l[i]'h)=b:=⟨l[i],eo h,fun _=>rfl⟩
def EN(st:aM)(i:cW):Prop:=match jQ st i with|some (c,_)=>c|none=>cv
def EO(st:aM)(i:cW):aM:=match jQ st i with|some (_,s)=>s|none=>st
def rJ(P:bm)(ob:List aq)(r:List b3)(K:aM->Prop)(st:aM):Prop:=fm P ob r st K
def s6(P:bm)(ob:List aq)(c:C)(Q:Exit->aM->Prop)(st:aM):Prop:=b6 P ob c Q st
def mY(P:bm)(ob:List aq)(v:ab)(s:Nat)(w:Bool)(i:cX)(r:List b3)(st:aM)(K:aM->Prop):Prop:=
 match v with
 | .bool b=>(b=w->fm P ob (⟨none,i⟩::r) {st with t:=put s (.bool w) st.t} K)/\(b= !w->fm P ob r {st with t:=eB i.dst (.tuple []) (put s (.bool !w) st.t)} K)
 | .tuple []=>fm P ob r {st with t:=eB i.dst (.tuple []) st.t} K
 |_=>cv
def qB(P:bm)(ob:List aq)(v:ab)(x:cl)(t e:C)(Q:Exit->aM->Prop)(st:aM):Prop:=
 match v with
 | .bool b=>(b=true->b6 P ob t Q (pz st x true))/\(b=false->b6 P ob e Q (pz st x false))
 |_=>cv
def Cc(P:bm)(ob:List aq)(v:ab)(d:aR Nat)(xs:List ab)(r:List b3)(st:aM)(K:aM->Prop):Prop:=
 match v with
 | .func n cP=>CallDo P n (bF (xs++cP)) st d (rJ P ob r K)
 |_=>cv
section
variable {P:bm} {ob:List aq} {st:aM} {K:aM->Prop} {r:List b3} {Q:Exit->aM->Prop} {a b c t e:C}
theorem Ow:fm P ob [] st K=K st:=rfl
theorem Oy{i:cW}:fm P ob (⟨none,.s i⟩::r) st K=(EN st i/\fm P ob r (EO st i) K):=by
 simp only[fm,mW,EN,EO];cases jQ st i with
 |none=>simp
 |some x=>rfl
theorem Oq{d:aR Nat}{f:cl}{xs:List cl}:fm P ob (⟨none,.call d f xs⟩::r) st K=Cc P ob (bg st.t f) d (xs.map (bg st.t)) r st K:=by simp only[fm,mW,Cc];rfl
def Cf(P:bm)(ob:List aq)(v:ab)(d:aR Nat)(xs:List ab)(r:List b3)(st:aM)(K:aM->Prop):Prop:=
 match v with
 | .func n cP=>iP P ob n (xs++cP) st d (rJ P ob r K)
 |_=>cv
theorem Ox{d:aR Nat}{f:cl}{xs:List cl}:fm P ob (⟨none,.opn d f xs⟩::r) st K=Cf P ob (bg st.t f) d (xs.map (bg st.t)) r st K:=by simp only[fm,mW,Cf];rfl
theorem On{n:Nat}{cP xs:List ab}{d:aR Nat}:Cf P ob (.func n cP) d xs r st K=iP P ob n (xs++cP) st d (rJ P ob r K):=rfl
def Ce(P:bm)(ob:List aq)(v:ab)(d:aR Nat)(r:List b3)(st:aM)(K:aM->Prop):Prop:=
 match v with
 | .func n cP=> ¬n<1000000/\CallDo P (ru n) (bF cP) st d (rJ P ob r K)
 |_=>cv
theorem Ot{d:aR Nat}{f:cl}:fm P ob (⟨none,.callb d f⟩::r) st K=Ce P ob (bg st.t f) d r st K:=by simp only[fm,mW,Ce];rfl
theorem Om{n:Nat}{cP:List ab}{d:aR Nat}:Ce P ob (.func n cP) d r st K=(¬n<1000000/\CallDo P (ru n) (bF cP) st d (rJ P ob r K)):=rfl
theorem Uh(n:Nat):ru n=n-1000000:=rfl
theorem Ov{d:Nat}{x:cl}:fm P ob (⟨none,.next d x⟩::r) st K=za st d (bg st.t x) (rJ P ob r K):=by simp only[fm,mW];rfl
def wH(P:bm)(ob:List aq)(c:C)(Q:Exit->aM->Prop):aR aM->Prop
 |some st=>b6 P ob c Q st
 |none=>cv
theorem Ma:wH P ob c Q (some st)=b6 P ob c Q st:=rfl
theorem NW{s:Nat}:b6 P ob (.pub s c) Q st=wH P ob c Q (vP st s):=by simp only[b6];cases vP st s<;>rfl
theorem NS{mA:Bool}{s:Nat}:b6 P ob (.fg mA s c) Q st=b6 P ob c Q {st with t:=put s (uY mA (get s st.t)) st.t}:=rfl
theorem NT{mA:Bool}{s:Nat}{d:C}:b6 P ob (.seq (.fg mA s c) d) Q st=b6 P ob (.seq c d) Q {st with t:=put s (uY mA (get s st.t)) st.t}:=rfl
theorem NU{ep:Bool}{s:Nat}:b6 P ob (.fz ep s c) Q st=wH P ob c Q (rZ st ep s):=by simp only[b6];cases rZ st ep s<;>rfl
theorem NV{ep:Bool}{s:Nat}{d:C}:b6 P ob (.seq (.fz ep s c) d) Q st=wH P ob (.seq c d) Q (rZ st ep s):=by simp only[b6];cases rZ st ep s<;>rfl
theorem NQ{s:Nat}:b6 P ob (.fd s c) Q st=(tw ob st s/\b6 P ob c Q (rY st s)):=rfl
theorem NR{s:Nat}{d:C}:b6 P ob (.seq (.fd s c) d) Q st=(tw ob st s/\b6 P ob (.seq c d) Q (rY st s)):=rfl
theorem NX{s:Nat}:b6 P ob (.pubB s c) Q st=wH P ob c Q (vO st s):=by simp only[b6];cases vO st s<;>rfl
theorem Oo{n:Nat}{cP:List ab}{d:aR Nat}{xs:List ab}:Cc P ob (.func n cP) d xs r st K=CallDo P n (bF (xs++cP)) st d (rJ P ob r K):=rfl
theorem Ou{s:Nat}{w:Bool}{i:cX}:fm P ob (⟨some (s,w),i⟩::r) st K=mY P ob (get s st.t) s w i r st K:=by simp only[fm,mY];try rfl
theorem OD{s:Nat}{i:cX}:mY P ob (.bool true) s true i r st K=fm P ob (⟨none,i⟩::r) {st with t:=put s (.bool true) st.t} K:=by simp[mY]
theorem Oz{s:Nat}{i:cX}:mY P ob (.bool false) s false i r st K=fm P ob (⟨none,i⟩::r) {st with t:=put s (.bool false) st.t} K:=by simp[mY]
theorem OC{s:Nat}{i:cX}:mY P ob (.bool true) s false i r st K=fm P ob r {st with t:=eB i.dst (.tuple []) (put s (.bool true) st.t)} K:=by simp[mY]
theorem OA{s:Nat}{i:cX}:mY P ob (.bool false) s true i r st K=fm P ob r {st with t:=eB i.dst (.tuple []) (put s (.bool false) st.t)} K:=by simp[mY]
theorem OB{s:Nat}{w:Bool}{i:cX}:mY P ob (.tuple []) s w i r st K=fm P ob r {st with t:=eB i.dst (.tuple []) st.t} K:=by simp[mY]
theorem ed{x:Bool}{s:Nat}{w:Bool}{i:cX}(I:x=w->fm P ob (⟨none,i⟩::r) {st with t:=put s (.bool w) st.t} K)(aa:x= !w->fm P ob r {st with t:=eB i.dst (.tuple []) (put s (.bool !w) st.t)} K):mY P ob (.bool x) s w i r st K:=⟨I,aa⟩
theorem NC:b6 P ob (.seq (.seq a b) c) Q st=b6 P ob (.seq a (.seq b c)) Q st:=by simp only[b6];congr 1;funext e st';cases e<;>rfl
theorem N2:b6 P ob (.seq .skip c) Q st=b6 P ob c Q st:=rfl
theorem N0:b6 P ob (.seq .ret c) Q st=Q .ret st:=rfl
theorem NO{n:Nat}:b6 P ob (.seq (.exit n) c) Q st=Q (.exit n) st:=rfl
theorem N3:b6 P ob .skip Q st=Q .normal st:=rfl
theorem N1:b6 P ob .ret Q st=Q .ret st:=rfl
theorem NP{n:Nat}:b6 P ob (.exit n) Q st=Q (.exit n) st:=rfl
theorem NY{gs:List b3}:b6 P ob (.seq (.region gs) c) Q st=fm P ob gs st (s6 P ob c Q):=rfl
theorem NZ{gs:List b3}:b6 P ob (.region gs) Q st=fm P ob gs st (Q .normal):=rfl
theorem NG{x:cl}:b6 P ob (.seq (.cond x t e) c) Q st=qB P ob (bg st.t x) x (.seq t c) (.seq e c) Q st:=by simp only[b6,qB];try rfl
theorem NH{x:cl}:b6 P ob (.cond x t e) Q st=qB P ob (bg st.t x) x t e Q st:=by simp only[b6,qB];try rfl
theorem N6{x:cl}:qB P ob (.bool true) x t e Q st=b6 P ob t Q (pz st x true):=by simp[qB]
theorem N5{x:cl}:qB P ob (.bool false) x t e Q st=b6 P ob e Q (pz st x false):=by simp[qB]
theorem dY{v:Bool}{x:cl}(I:v=true->b6 P ob t Q (pz st x true))(aa:v=false->b6 P ob e Q (pz st x false)):qB P ob (.bool v) x t e Q st:=⟨I,aa⟩
def uz(P:bm)(ob:List aq)(id:Nat)(c:C)(Q:Exit->aM->Prop)(e:Exit)(st:aM):Prop:=
 match e with
 | .normal=>b6 P ob c Q st
 | .exit j=>if j=id then b6 P ob c Q st else Q (.exit j) st
 |e=>Q e st
theorem ND{id:Nat}:b6 P ob (.seq (.block id a) c) Q st=b6 P ob a (uz P ob id c Q) st:=by
 simp only[b6];congr 1;funext e st';cases e with
 |exit j=>rfl
 |_=>rfl
theorem NF{id:Nat}:b6 P ob (.block id a) Q st=b6 P ob a (uz P ob id .skip Q) st:=by
 simp only[b6];congr 1;funext e st';cases e with
 |exit j=>simp only[uz];by_cases av:j=id<;>simp[av,b6]
 |_=>rfl
theorem L3{id:Nat}:uz P ob id c Q .normal st=s6 P ob c Q st:=rfl
theorem L2{id j:Nat}:uz P ob id c Q (.exit j) st=if j=id then s6 P ob c Q st else Q (.exit j) st:=rfl
theorem L4{id:Nat}:uz P ob id c Q .ret st=Q .ret st:=rfl
def cQ(ob:List aq)(ix:Nat->aM->Prop)(k:Nat)(Q:Exit->aM->Prop)(e:Exit)(st:aM):Prop:=
 match e with
 | .normal=> ∃aW l5,aW<k/\hi ob st l5/\ix aW l5
 |e=>Q e st
theorem L8{ix:Nat->aM->Prop}{k:Nat}:cQ ob ix k Q .normal st= ∃aW l5,aW<k/\hi ob st l5/\ix aW l5:=rfl
theorem L7{ix:Nat->aM->Prop}{k n:Nat}:cQ ob ix k Q (.exit n) st=Q (.exit n) st:=rfl
theorem L9{ix:Nat->aM->Prop}{k:Nat}:cQ ob ix k Q .ret st=Q .ret st:=rfl
theorem B9(ix:Nat->aM->Prop)(m:Nat)(sR:aM)(hw:hi ob st sR)(bR:ix m sR)(h:∀k s,ix k s->(∀i,jE (get i s.t))->(∀j cs,look j s.b=some cs->fp cs=true->jf cs)->b6 P ob a (cQ ob ix k Q) s):b6 P ob (.loop a) Q st:=by
 simp only[b6];refine⟨ix,m,sR,hw,bR,fun k s I aa ak=>?_⟩;have:=h k s I aa ak;have bj:(cQ ob ix k Q)=(fun e aj=>match e with| .normal=> ∃aW l5,aW<k/\hi ob aj l5/\ix aW l5|e=>Q e aj):=by funext e aj;cases e<;>rfl
 rw[bj]at this;exact this
end
/-Regions bM draw hh order. -/
def EL(n0:Nat)(st:aM)(i:cW):Prop:=match de (lh n0 i) st.n (lh n0 i::st.o) st i with|some (c,_)=>c|none=>cv
def EM(n0:Nat)(st:aM)(i:cW):aM:=match de (lh n0 i) st.n (lh n0 i::st.o) st i with|some (_,s)=>s|none=>st
def Bv(P:bm)(q:Bool)(nw:List Nat)(n0:Nat)(r:List b3)(K:aM->Prop)(st:aM):Prop:=fI P q nw n0 r st K
def mX(P:bm)(q:Bool)(nw:List Nat)(n0:Nat)(v:ab)(s:Nat)(w:Bool)(i:cX)(r:List b3)(st:aM)(K:aM->Prop):Prop:=
 match v with
 | .bool b=>(b=w->fI P q nw n0 (⟨none,i⟩::r) {st with t:=put s (.bool w) st.t} K)/\(b= !w->fI P q nw n0 r {st with t:=eB i.dst (.tuple []) (put s (.bool !w) st.t)} K)
 | .tuple []=>fI P q nw n0 r {st with t:=eB i.dst (.tuple []) st.t} K
 |_=>cv
def Cb(P:bm)(q:Bool)(nw:List Nat)(n0:Nat)(v:ab)(d:aR Nat)(xs:List ab)(r:List b3)(st:aM)(K:aM->Prop):Prop:=
 match v with
 | .func n cP=>mQ P q nw n (bF (xs++cP)) st d (Bv P q nw n0 r K)
 |_=>cv
section
variable {P:bm} {ob:List aq} {st:aM} {K:aM->Prop} {r:List b3} {Q:Exit->aM->Prop} {c:C} {q:Bool} {nw:List Nat} {n0 N:Nat}
theorem Oa:fI P q nw n0 [] st K=K st:=rfl
theorem Ob{i:cW}:fI P q nw n0 (⟨none,.s i⟩::r) st K=(iU q nw n0 st i/\EL n0 st i/\fI P q nw n0 r (EM n0 st i) K):=by
 simp only[fI,hq,EL,EM];cases de (lh n0 i) st.n (lh n0 i::st.o) st i with
 |none=>simp
 |some x=>rfl
theorem N8{d:aR Nat}{f:cl}{xs:List cl}:fI P q nw n0 (⟨none,.call d f xs⟩::r) st K=Cb P q nw n0 (bg st.t f) d (xs.map (bg st.t)) r st K:=by simp only[fI,hq,Cb];rfl
theorem N7{n:Nat}{cP:List ab}{d:aR Nat}{xs:List ab}:Cb P q nw n0 (.func n cP) d xs r st K=mQ P q nw n (bF (xs++cP)) st d (Bv P q nw n0 r K):=rfl
theorem N9{s:Nat}{w:Bool}{i:cX}:fI P q nw n0 (⟨some (s,w),i⟩::r) st K=mX P q nw n0 (get s st.t) s w i r st K:=by simp only[fI,mX];try rfl
theorem Oi{s:Nat}{i:cX}:mX P q nw n0 (.bool true) s true i r st K=fI P q nw n0 (⟨none,i⟩::r) {st with t:=put s (.bool true) st.t} K:=by simp[mX]
theorem Od{s:Nat}{i:cX}:mX P q nw n0 (.bool false) s false i r st K=fI P q nw n0 (⟨none,i⟩::r) {st with t:=put s (.bool false) st.t} K:=by simp[mX]
theorem Oh{s:Nat}{i:cX}:mX P q nw n0 (.bool true) s false i r st K=fI P q nw n0 r {st with t:=eB i.dst (.tuple []) (put s (.bool true) st.t)} K:=by simp[mX]
theorem Oe{s:Nat}{i:cX}:mX P q nw n0 (.bool false) s true i r st K=fI P q nw n0 r {st with t:=eB i.dst (.tuple []) (put s (.bool false) st.t)} K:=by simp[mX]
theorem Og{s:Nat}{w:Bool}{i:cX}:mX P q nw n0 (.tuple []) s w i r st K=fI P q nw n0 r {st with t:=eB i.dst (.tuple []) st.t} K:=by simp[mX]
theorem ec{x:Bool}{s:Nat}{w:Bool}{i:cX}(I:x=w->fI P q nw n0 (⟨none,i⟩::r) {st with t:=put s (.bool w) st.t} K)(aa:x= !w->fI P q nw n0 r {st with t:=eB i.dst (.tuple []) (put s (.bool !w) st.t)} K):mX P q nw n0 (.bool x) s w i r st K:=⟨I,aa⟩
theorem NI{gs:List b3}:b6 P ob (.seq (.drawn q N gs) c) Q st=fI P q [] st.n gs st (mf (st.n+N) st.o (s6 P ob c Q)):=rfl
theorem NJ{gs:List b3}:b6 P ob (.drawn q N gs) Q st=fI P q [] st.n gs st (mf (st.n+N) st.o (Q .normal)):=rfl
theorem NM{gs:List b3}:b6 P ob (.seq (.drawnW nw N gs) c) Q st=fI P false (nt nw st.o) st.n gs st (mf (st.n+N) ((nt nw st.o).map aq.obj++st.o) (s6 P ob c Q)):=rfl
theorem NN{gs:List b3}:b6 P ob (.drawnW nw N gs) Q st=fI P false (nt nw st.o) st.n gs st (mf (st.n+N) ((nt nw st.o).map aq.obj++st.o) (Q .normal)):=rfl
theorem NK{gs ts:List b3}:b6 P ob (.seq (.drawnL q N gs ts) c) Q st=fI P q [] st.n gs st (mf (st.n+N) st.o (fun st'=>fm P ob ts st' (s6 P ob c Q))):=rfl
theorem NL{gs ts:List b3}:b6 P ob (.drawnL q N gs ts) Q st=fI P q [] st.n gs st (mf (st.n+N) st.o (fun st'=>fm P ob ts st' (Q .normal))):=rfl
theorem Sg{o:List aq}:nt [] o=[]:=rfl
theorem Se{j:Nat}{nw:List Nat}{o:List aq}:nt (j::nw) o=if aq.obj j∈o then nt nw o else j::nt nw o:=by simp only[nt,List.filter_cons,fQ,ite_not]
theorem mQ.val{n:Nat}{args:List ab}{d:aR Nat}{r:ab}(J:kinL (fun _=>cv) args)(aH:ca P n args r)(h:K {st with t:=eB d r st.t}):mQ P q nw n args st d K:=by
 refine .inr ⟨⟨[],[]⟩,⟨[],[]⟩,r,none,fun k cs J=>by simp[look]at J,fun k cs J=>by simp[look]at J,oi,oi,⟨fun k h=>.inl h,fun k h=>.inl h,fun k h=>h,fun k h=>h,fun k h=>by cases h⟩,lv (fun _ h=>h.elim) _ J,aH,fun _=>⟨rfl,rfl⟩,?_⟩;have:({after st ⟨[],[]⟩ ⟨[],[]⟩ d r with o:=st.o}:aM)={st with t:=eB d r st.t}:=by simp[after,wA]
 rw[this];exact h
theorem br{n:Nat}{args:List ab}{d:aR Nat}{r:ab}(aH:ca P n args r)(h:K {st with t:=eB d r st.t})(J:kinL (fun _=>cv) args:=by simp):mQ P q nw n args st d K:=mQ.val J aH h
end
section
variable {k:IntKind} {n:Int} {b:Bool} {s:List az} {sz:Nat} {tag:iR} {xs:List ab} {key:aq} {off f:Nat} {x:ab}
@[simp]theorem Yr:dK (.int k n)=true:=rfl
@[simp]theorem Yd:dK (.bool b)=true:=rfl
@[simp]theorem Yy:dK (.str s)=true:=rfl
@[simp]theorem Yx:dK (.slice sz tag xs)=true:=rfl
@[simp]theorem Yb:dK (.agg xs)=true:=rfl
@[simp]theorem Yv:dK (.ptr key off)=true:=rfl
@[simp]theorem Yk:dK (.eptr x)=true:=rfl
@[simp]theorem Yq{t:Nat}:dK (.iface t x)=true:=rfl
@[simp]theorem VZ{t:Nat}:cells (.iface t x)=[.iface t x]:=rfl
@[simp]theorem Yg{a:aR Addr}{n c:Nat}:dK (.cst (.slice a n c))=true:=rfl
@[simp]theorem Yh{s}:dK (.cst (.string s))=true:=rfl
@[simp]theorem Yu:dK .nilp=true:=rfl
@[simp]theorem Ym:dK (.func f xs)=true:=rfl
@[simp]theorem Yp:dK (.gmap key)=true:=rfl
@[simp]theorem Yw{n:Nat}:dK (.row sz key n)=true:=rfl
@[simp]theorem V6{n:Nat}:cells (.row sz key n)=[.row sz key n]:=rfl
@[simp]theorem V0:cells (.int k n)=[.int k n]:=rfl
@[simp]theorem VO:cells (.bool b)=[.bool b]:=rfl
@[simp]theorem V8:cells (.str s)=[.str s]:=rfl
@[simp]theorem V7:cells (.slice sz tag xs)=[.slice sz tag xs]:=rfl
@[simp]theorem VM:cells (.agg xs)=xs:=rfl
@[simp]theorem V5:cells (.ptr key off)=[.ptr key off]:=rfl
@[simp]theorem VT:cells (.eptr x)=[.eptr x]:=rfl
@[simp]theorem V4:cells .nilp=[.nilp]:=rfl
@[simp]theorem VV:cells (.func f xs)=[.func f xs]:=rfl
@[simp]theorem VY:cells (.gmap key)=[.gmap key]:=rfl
end
section
variable {b:List (aq×List ab)} {e:List (aq×cp)} {agg:Bool} {sz off:Nat} {k:aq} {p:ab} {cs xs vs:List ab} {jq:IntKind} {n i:Int} {m j:Nat} {tag:iR} {s:List az} {F2:Bool} {lo aD:aR ab}
@[simp]theorem XA{cB:Nat}{f:Nat}:kz b e agg sz (.rptr cB k m j f)=ui agg sz cB m j f (look k e):=rfl
@[simp]theorem Xz:kz b e agg sz (.ptr k off)=(match look k b with
  |some cs=>if agg then some (fp cs=true/\off+sz<=cs.length,.agg ((cs.drop off).take sz))else(cs[off]?).map fun p=>(fp cs=true,p)
  |none=>none):=rfl
@[simp]theorem Xy:kz b e agg sz (.eptr p)=if agg then some (isAgg sz p,p)else some (dK p=true/\cells p=[p],p):=rfl
@[simp]theorem WB:w5 agg sz (.eptr p)=if agg then some (isAgg sz p,p)else some (dK p=true/\cells p=[p],p):=rfl
@[simp]theorem Ws{o:Nat}:mn off agg sz (.ptr k o)=some (True,.ptr k (o+off)):=rfl
@[simp]theorem Wt{cB f:Nat}:mn off agg sz (.rptr cB k m j f)=some (True,.rptr cB k m j (f+off)):=rfl
@[simp]theorem Wk:mn off agg sz (.eptr (.agg cs))=if agg then some (off+sz<=cs.length,.eptr (.agg ((cs.drop off).take sz)))else(cs[off]?).map fun p=>(dK p=true/\cells p=[p],.eptr p):=rfl
@[simp]theorem Wv:pV off agg sz (.agg cs)=if agg then some (off+sz<=cs.length,.agg ((cs.drop off).take sz))else(cs[off]?).map fun p=>(True,p):=rfl
@[simp]theorem W2{cB:Nat}:vp sz (.slice cB tag xs) (.int jq i)=if cB=sz then some (0<=i/\i<xs.length,.eptr (xs.getD i.toNat .junk))else none:=rfl
@[simp]theorem W1{cB:Nat}:vp sz (.row cB k m) (.int jq i)=if cB=sz then some (0<=i/\i<m,.rptr cB k m i.toNat 0)else none:=rfl
@[simp]theorem Xx{cB:Nat}:vy (.slice cB tag xs)=some (True,.int .i64 xs.length):=rfl
@[simp]theorem Xw{cB:Nat}:vy (.row cB k m)=some (True,.int .i64 m):=rfl
@[simp]theorem Xv{a:aR Addr}{n c:Nat}:vy (.cst (.slice a n c))=some (True,.int .i64 n):=rfl
@[simp]theorem X9{s}:yu (.cst (.string s))=some (True,.int .i64 s.size):=rfl
@[simp]theorem Ya:yu (.str s)=some (True,.int .i64 s.length):=rfl
@[simp]theorem Wj:zd j (.tuple vs)=(vs[j]?).map fun p=>(True,p):=rfl
@[simp]theorem XR:vG (.ptr k off)=some (True,.ptr k off):=rfl
@[simp]theorem XP:vG (.eptr p)=some (True,.eptr p):=rfl
@[simp]theorem XQ:vG (.func j cs)=some (True,.func j cs):=rfl
@[simp]theorem XU:Aw (.bool F2)=some (True,.bool (!F2)):=rfl
@[simp]theorem X8:Be (.str s) (.int jq i)=some (0<=i/\i<s.length,.int .u8 (s.getD i.toNat 0).toNat):=rfl
@[simp]theorem Yz:Bg (.str s) lo aD=(match oj 0 lo,oj s.length aD with
  |some l,some h=>some (0<=l/\l<=h/\h<=s.length,.str ((s.take h.toNat).drop l.toNat))
  |_,_=>none):=rfl
@[simp]theorem XD{cB:Nat}:Ah sz (.slice cB tag xs) lo aD=(if cB=sz then match oj 0 lo,oj xs.length aD with
  |some l,some h=>some (0<=l/\l<=h/\h<=xs.length,.slice sz .no ((xs.take h.toNat).drop l.toNat))
  |_,_=>none else none):=rfl
theorem JO{f:aq->aR (List ab)}{bH:ih}{z q:ab}{ok:Bool}:nr f bH z ok (.gmap k) q=(match f k with
  |some (.hdm _ _::kvs)=>if tU bH q=false then none else match p8 bH q kvs with
   |some (some v)=>some (True,if ok then .tuple [v,.bool true]else v)
   |some none=>some (True,if ok then .tuple [z,.bool false]else z)
   |none=>none
  |_=>none):=rfl
@[simp]theorem X6{cB f n' el gJ:Nat}:ui agg sz cB m j f (some ⟨n',el,gJ,some xs⟩)=(if n'=m/\gJ=cB then
   (match xs[j]? with
    |some p=>if agg then some (dK p=true/\f+sz<=(cells p).length,.agg (((cells p).drop f).take sz))else((cells p)[f]?).map fun q=>(dK p=true,q)
    |none=>none)else none):=rfl
end
attribute [simp] NC NY ND NG N2 N0 NO N3 N1 NP NZ NF NH s6 L3 L2 L4 L7 L9 Ow Oy Oq Oo Ot Om Uh Ou
 OD Oz OC OA OB N6 N5 EN EO jQ fs hg bg get put hk nn k3 k4 cu oj jD vq Bh l6 qx AI Ar yY Al
 look eB cW.dst cX.dst pz rJ nT bF bC kin kinL
 NI NJ NM NN NK NL Sg Se Oa Ob N8 N7 N9 Oi Od Oh Oe Og EL EM de lh iU tz eW.loadO mf Bv tR fp kk Ov NW NX NS NT NU NV rZ Cm pS uY Ma vP x9 vO ov oq yP Aj yM nU
theorem bq{P:bm}{n:Nat}{args:List ab}{st:aM}{d:aR Nat}{K:aM->Prop}{r:ab}(aH:ca P n args r)(h:K {st with t:=eB d r st.t})(J:kinL (fun _=>cv) args:=by simp):CallDo P n args st d K:=CallDo.val J aH h
theorem aK{a b:Prop}(af:b)(b1:a:=by first|omega|(unfold bk;omega)|(unfold b0;omega)):a/\b:=⟨b1,af⟩
theorem eM{p:Prop}(h:cv:=by first|contradiction|omega):p:=h.elim
theorem cH{p:Prop}(h:p:=by(try simp[*]);(repeat' first|with_reducible refine aK ?_|with_reducible refine bq (by assumption) ?_|with_reducible refine br (by assumption) ?_|simp[*]);(all_goals first|done|(simp[cC,bd,bo,a6, *];done))):p:=h
attribute [simp] Ox On NQ NR wN zY e3 eu wW wU yW uL rY uX tw
end
section
open Go Go.RowKit
structure jU (s:df):Prop where
 obj:gG s
 kb:∀k cs,look k s.b=some cs->kinL (aI s) cs
 ke:∀k o,look k s.e=some o->eD (aI s) o
structure Same (s aj:df):Prop where
 b:∀k,(look k s.b).isSome=(look k aj.b).isSome
 e:∀k,(look k s.e).isSome=(look k aj.e).isSome
theorem Same.refl(s:df):Same s s:=⟨fun _=>rfl,fun _=>rfl⟩
theorem sD{α:Type}{k:aq}{x:α}:∀{l:List (aq×α)},(k,x)∈l->(look k l).isSome
 |(i,y)::r,h=>by
  simp only[look];split
  ·rfl
  ·rename_i b5;rcases gZ.1 h with h|h
   ·cases h;exact absurd rfl b5
   ·exact sD h
theorem Rq{s:df}{k:aq}(h:k∈ds s):aI s k:=by
 unfold ds at h;rcases hp.1 h with h|h
 ·obtain⟨⟨aW,x⟩,I,rfl⟩:=lE.1 h;exact .inl (sD I)
 ·obtain⟨⟨aW,x⟩,I,rfl⟩:=lE.1 h;exact .inr (sD I)
theorem LS{α β:Type}(s:List (aq×β)):∀(l:List (aq×α)),(∀k x,(k,x)∈l->(look k s).isSome)->bA s l=[]
 |[],_=>rfl
 |(k,x)::r,h=>by
  have I:=h k x Ψ;simp only[bA];cases aB:look k s with
  |none=>rw[aB]at I;cases I
  |some _=>exact LS s r fun k x ad=>h k x (by simp[ad])
theorem Fs{α:Type}(s:List (aq×α)):bA s s=[]:=LS s s fun k x h=>sD h
theorem DO{α:Type}(k:aq):∀(a b:List (aq×α)),look k (a++b)=match look k a with|some x=>some x|none=>look k b
 |[],b=>rfl
 |(i,y)::r,b=>by
  simp only[eP,look];split
  ·rfl
  ·exact DO k r b
theorem CallDo.ob{P:bm}{n:Nat}{args:List ab}{st:aM}{d:aR Nat}{K:aM->Prop}{s:df}{Q:ab->df->Prop}(aH:c8 P n args s Q)(ao:jU s)(af:∀k cs,look k s.b=some cs->look k st.b=some cs)(he:∀k o,look k s.e=some o->look k st.e=some o)
  (J:kinL (aI s) args) (h:∀r aj,Q r aj->Same s aj/\K ⟨eB d r st.t,bA s.b st.b++aj.b,bA s.e st.e++aj.e,st.n,st.o++ds aj⟩):CallDo P n args st d K:=by
 refine .inl ⟨s,Q,fun k cs aA=>⟨af k cs aA,.inl (by simp[aA]),ao.kb k cs aA⟩,fun k o ag=>⟨he k o ag,.inr (by simp[ag]),ao.ke k o ag⟩,ao.obj,J,aH,fun r aj bj=>?_⟩;obtain⟨I,aa⟩:=h r aj bj;exact⟨⟨fun m hm=>.inl (by rw[I.b];exact hm),fun m hm=>.inl (by rw[I.e];exact hm)⟩,aa⟩
theorem eQ.ob{cz:List cG}{s aj:df}{Q:ab->df->Prop}{e:Exit}{st:aM}{c:Prop}{aX:List ab}(iA:e= .ret\/e= .normal)(gf:bd st cz=some (c,aX))(aA:c)(ao:jU aj)(dT:Same s aj)(af:∀k cs,look k aj.b=some cs->look k st.b=some cs)(cS:∀k o,look k aj.e=some o->look k st.e=some o)
  (J:kin (aI aj) (bC (a6 aX))) (bj:Q (bC (a6 aX)) aj):eQ cz s Q e st:=by
 refine⟨iA,?_⟩;rw[gf];have zE:∀{α:Type} (l:List (aq×α)),(∀k x,(k,x)∈l->aI aj k)->lu aj l:=by
  intro α l;induction l with
  |nil=>intro _;trivial
  |cons x r a8=>obtain⟨k,x⟩:=x;intro h;exact⟨h k x Ψ,a8 fun k x ad=>h k x (by simp[ad])⟩
 exact⟨aA,aj,zE _ fun k x ad=>.inl (by rw[<-dT.b];exact sD ad),zE _ fun k x ad=>.inr (by rw[<-dT.e];exact sD ad),fun k cs cj=>⟨af k cs cj,.inl (by simp[cj]),ao.kb k cs cj⟩,fun k o ag=>⟨cS k o ag,.inr (by simp[ag]),ao.ke k o ag⟩,ao.obj,J,bj⟩
def fG(st:aM)(cz:List cG)(R:ab->Prop):Prop:=match bd st cz with
 |some (c,aX)=>c/\R (bC (a6 aX))
 |none=>cv
theorem eQ.at{cz:List cG}{s:df}{Q:ab->df->Prop}{e:Exit}{st:aM}(aj:df)(iA:e= .ret\/e= .normal)(ao:jU aj)(dT:Same s aj)(af:∀k cs,look k aj.b=some cs->look k st.b=some cs)(cS:∀k o,look k aj.e=some o->look k st.e=some o)
  (h:fG st cz fun r=>kin (aI aj) r/\Q r aj):eQ cz s Q e st:=by
 unfold fG at h;split at h
 ·rename_i c aX hr;exact eQ.ob iA hr h.1 ao dT af cS h.2.1 h.2.2
 ·exact h.elim
theorem mQ.ob{P:bm}{nw:List Nat}{n:Nat}{args:List ab}{st:aM}{d:aR Nat}{K:aM->Prop}{s aj:df}{r:ab}(aH:c8 P n args s fun cr t'=>cr=r/\t'=aj)(ao:jU s)(Q2:jU aj)(dT:Same s aj)(af:∀k cs,look k s.b=some cs->look k st.b=some cs)(he:∀k o,look k s.e=some o->look k st.e=some o)
  (J:kinL (aI s) args) (h:K ⟨eB d r st.t,bA s.b st.b++aj.b,bA s.e st.e++aj.e,st.n,st.o⟩):mQ P false nw n args st d K:=
 .inr ⟨s,aj,r,none,fun k cs aA=>⟨af k cs aA,.inl (by simp[aA]),ao.kb k cs aA⟩,fun k o ag=>⟨he k o ag,.inr (by simp[ag]),ao.ke k o ag⟩,ao.obj,Q2.obj,⟨fun k J=>.inl (by rw[dT.b];exact J),fun k J=>.inl (by rw[dT.e];exact J),fun k J=>by rw[<-dT.b];exact J,fun k J=>by rw[<-dT.e];exact J,fun k J=>by cases J⟩,J,aH,(fun e=>by cases e),h⟩
theorem jU.of{s:df}(ag:gG s)(af:∀x∈s.b,kinL (aI s) x.2)(he:∀x∈s.e,∀xs,x.2.xs=some xs->kinL (aI s) xs):jU s:=⟨ag,fun k cs J=>af (k,cs) (tW J),fun k o J xs ad=>he (k,o) (tW J) xs ad⟩
@[simp]theorem XX(b:List (aq×List ab))(e:List (aq×cp)):ds ⟨b,e⟩=b.map (·.1)++e.map (·.1):=rfl
theorem RN{α:Type}{s b:List (aq×α)}(h:∀p∈s,look p.1 b=some p.2):∀k x,look k s=some x->look k b=some x:=fun k x ad=>h (k,x) (tW ad)
theorem fh{S:aq->Prop}{fa b:List (aq×List ab)}(h:∀p∈fa,look p.1 b=some p.2/\S p.1/\kinL S p.2):mK S fa b:=fun k x ad=>h (k,x) (tW ad)
theorem fi{S:aq->Prop}{fa b:List (aq×cp)}(h:∀p∈fa,look p.1 b=some p.2/\S p.1/\eD S p.2):nC S fa b:=fun k x ad=>h (k,x) (tW ad)
theorem aS{α:Type}{s b:List (aq×α)}(h:∀k x,look k s=some x->look k b=some x:=by first|(refine RN ?_;simp;done)|(intro k x ad;first|exact ad|(simp[ad,Fs];done)|(simp[DO,Fs,ad];done)|(cases k<;>simp_all[DO];done))):∀k x,look k s=some x->look k b=some x:=h
theorem dQ{ob:List aq}{st st':aM}(I:∀x∈st'.t,get x.1 st.t=x.2/\kin (fun k=> ¬fresh st'.n st'.o k) x.2:=by simp[fresh,kinL,kin,cA,aI,Pv.look])(aa:∀p∈st'.b,look p.1 st.b=some p.2/\(¬fresh st'.n st'.o p.1)/\kinL (fun k=> ¬fresh st'.n st'.o k) p.2:=by simp[fresh,kinL,kin,cA,aI,Pv.look])(ak:∀p∈st'.e,look p.1 st.e=some p.2/\(¬fresh st'.n st'.o p.1)/\eD (fun k=> ¬fresh st'.n st'.o k) p.2:=by simp[fresh,kinL,kin,eD,aI,Pv.look])(aJ:∀m∈ob,m∈st'.o:=by simp):hi ob st st':=⟨I,fh aa,fi ak,aJ⟩
def flat:List (Int×ab)->List ab
 |[]=>[]
 |(k,v)::r=>.int .i64 k::v::flat r
def mF(l:List (Int×ab)):List ab:= .hdm l.length (List.range l.length)::flat l
def s7(k:Int):List (Int×ab)->aR ab
 |[]=>none
 |(i,v)::r=>if k=i then some v else s7 k r
def qv(k:Int)(v:ab):List (Int×ab)->aR (List (Int×ab))
 |[]=>none
 |(i,w)::r=>if k=i then some ((k,v)::r)else match qv k v r with|some cr=>some ((i,w)::cr)|none=>none
def s8(k:Int)(v:ab)(l:List (Int×ab)):List (Int×ab):=match qv k v l with|some fU=>fU|none=>l++[(k,v)]
@[simp]theorem XF:[ab.hdm 0 []]=mF []:=rfl
theorem Hw:∀a b,flat (a++b)=flat a++flat b
 |[],_=>rfl
 |(k,v)::r,b=>by simp[flat,Hw r b]
theorem JL(k:Int):∀l,p8 .i (.int .i64 k) (flat l)=some (s7 k l)
 |[]=>rfl
 |(i,v)::r=>by
  simp only[flat,p8,qW,s7];by_cases h:k=i
  ·simp[h]
  ·have:(k==i)=false:=by simp[h]
   simp[h,JL k r,this]
theorem FY{k:Int}{v:ab}:∀{l fU},qv k v l=some fU->fU.length=l.length
 |[],_,h=>by simp[qv]at h
 |(i,w)::r,fU,h=>by
  simp only[qv]at h;split at h
  ·cases h;rfl
  ·split at h
   ·rename_i cr hr;cases h;simp[FY hr]
   ·cases h
theorem JY(k:Int)(v:ab):∀l,q1 .i (.int .i64 k) v (flat l)=some ((qv k v l).map flat)
 |[]=>rfl
 |(i,w)::r=>by
  simp only[flat,q1,qW,qv];by_cases h:k=i
  ·subst h;simp[flat]
  ·simp only[and_self,if_true,h,if_false,da,JY k v r];have:(k==i)=false:=by simp[h]
   rw[this];cases qv k v r<;>simp[flat]
@[simp]theorem XI(k:Int)(v:ab)(l:List (Int×ab)):po .i (.int .i64 k) v (mF l)=some (mF (s8 k v l)):=by
 simp only[mF,po,Jq,Bool.true_eq_false,reduceCtorEq,if_false,JY,s8];cases h:qv k v l with
 |some fU=>simp[FY h]
 |none=>simp[Hw,flat,List.range_succ]
@[simp]theorem oh(f:aq->aR (List ab))(m:aq)(l:List (Int×ab))(z:ab)(ok:Bool)(k:Int)(hm:f m=some (mF l)):nr f .i z ok (.gmap m) (.int .i64 k)=(match s7 k l with
  |some v=>some (True,if ok then .tuple [v,.bool true]else v)
  |none=>some (True,if ok then .tuple [z,.bool false]else z)):=by
 simp only[JO,hm,mF,Jq,Bool.true_eq_false,reduceCtorEq,if_false,JL];cases s7 k l<;>rfl
def cA(n:Nat)(seen:List Nat)(m:aq):List ab:=[.hdi n seen n,.gmap m]
@[simp]theorem X5(m:aq)(l:List (Int×ab)):AS m (mF l)=some (cA l.length [] m):=rfl
@[simp]theorem X3(l:List (Int×ab)):fp (mF l)=false:=rfl
theorem bK.start{w:World}{ν:aC}(gl:lG w ν){s:df}{args:List ab}{vs:Array Value}(iW:gG s)(aL:Good (eX ν s) w ν s.b s.e)(ad:oR ν s)(hr:bT w ν args vs.toList):
  bK ⟨w,ν,eX ν s,vs.size,ds s,gl,[]⟩ ⟨hg 0 args,s.b,s.e,0,ds s⟩ {tmps:=vs,defers:=[]} w ν:=by
 have qR:=q9 hr;have fv:vs.size=args.length:=by simpa using qR
 have h4:∀k,fresh 0 (ds s) k->ν.bx k=none/\ν.ow k=none/\∀j b,¬ν.tr k j b:=by
  intro k J;cases k with
  |loc m=>exact⟨(ad _).1 (iW.1 m),(ad _).2.1 (iW.2 m),(ad _).2.2⟩
  |obj m=>
   simp only[fresh,true_and]at J;refine⟨?_,?_,(ad _).2.2⟩
   ·refine(ad _).1 ?_;cases h:look (.obj m) s.b with
    |none=>rfl
    |some x=>exact absurd (q2 (.inl (by simp[h]))) J
   ·refine(ad _).2.1 ?_;cases h:look (.obj m) s.e with
    |none=>rfl
    |some x=>exact absurd (q2 (.inr (by simp[h]))) J
 have jK:∀m,(ν.bx (.obj m)≠none\/ν.ow (.obj m)≠none)-> .obj m∈ds s:=by
  intro m hm;refine Classical.byContradiction fun aA=>?_;obtain⟨I,aa,_⟩:=h4 (.obj m) ⟨trivial,aA⟩;rcases hm with hm|hm
  ·exact hm I
  ·exact hm aa
 refine⟨⟨aL.alt,fun k cs J=>?_,aL.inj,fun g o dS=>?_,aL.oinj,aL.obx,aL.one,aL.otr⟩,⟨rfl,rfl,rfl,cx _,fun _ _ _=>rfl,fun b o h=>⟨h,rfl⟩,fun b o h=>.inl h,fun n b h=>h,fun n b h=>jK n (.inl (by rw[h];simp)),fun m n u h=>⟨n,u,h,.inl ⟨rfl,rfl⟩⟩,fun m n u h=>jK m (.inr (by rw[h];simp)),fun k j _ _ b h=>absurd h ((ad k).2.2 j b),fun k j b h=>absurd h ((ad k).2.2 j b),fun k j b h=>absurd h ((ad k).2.2 j b),fun _ _ _=>rfl,fun j n u b ai _=>(by rw[(ad _).2.1 (iW.2 j)]at ai;cases ai)⟩,rfl,rfl,fun i=>?_,h4,fun _ ad=>(by cases ad),fun m hm aH=>aH.2 hm⟩
 ·obtain⟨bl,us,el,g1,g2,g3⟩:=aL.box k cs J;exact⟨bl,us,el,g1,.inl g2,g3⟩
 ·obtain⟨v,us,g1,g2,g3,g4⟩:=aL.own g o dS;exact⟨v,us,g1,g2,fun bl eJ=>⟨.inl (g3 bl eJ).1,(g3 bl eJ).2⟩,g4⟩
 ·rw[u1];by_cases aD:i<args.length
  ·rw[if_pos Ω];have lX:args[i]? =some args[i]:=eo aD;obtain⟨v,ai,aE⟩:=v8 i hr lX;have kM:vs[i]? =some v:=by simpa using ai
   show aw w ν _ (vs.getD i undef);rw[l8,kM];simpa[List.getD,lX]using aE
  ·rw[bh Ω];simp[aw]
theorem c8.sem{P:bm}{f:FuncId}{args:List ab}{s:df}{Q:ab->df->Prop}(iW:gG s)
  (h:∀(w:World) (ν:aC) (vs:Array Value) (gl:lG w ν),vs.size=args.length->bK ⟨w,ν,eX ν s,vs.size,ds s,gl,[]⟩ ⟨hg 0 args,s.b,s.e,0,ds s⟩ {tmps:=vs,defers:=[]} w ν->
   rH P f vs w fun e w'=> ∃v st' bG ν' r aj,e= .returned v/\bK ⟨w,ν,eX ν s,vs.size,ds s,gl,[]⟩ st' bG w' ν'/\aw w' ν' r v/\lu aj s.b/\lu aj s.e/\mK (aI aj) aj.b st'.b/\nC (aI aj) aj.e st'.e/\gG aj/\kin (aI aj) r/\Q r aj):c8 P f args s Q:=by
 intro w ν vs gl aL ad hr;have fv:vs.size=args.length:=by simpa using q9 hr
 have kX:=bK.start gl iW aL ad hr;have hm:∀(e:Ending) (w':World),(∃v st' bG ν' r aj,e= .returned v/\bK ⟨w,ν,eX ν s,vs.size,ds s,gl,[]⟩ st' bG w' ν'/\aw w' ν' r v/\lu aj s.b/\lu aj s.e/\mK (aI aj) aj.b st'.b/\nC (aI aj) aj.e st'.e/\gG aj/\kin (aI aj) r/\Q r aj)->
   ∃v r aj ν',e= .returned v/\Q r aj/\aw w' ν' r v/\Good (fun bl=>eX ν s bl\/w.heap.size<=bl) w' ν' aj.b aj.e/\oR ν' aj/\gG aj/\mh ⟨w,ν,eX ν s,0,ds s,gl,[]⟩ w' ν':=by
  rintro e w' ⟨v,st',bG,ν',r,aj,rfl,bJ,Ko,kb,ke,bL,ck,dd,du,cy⟩;refine⟨v,r,aj,ν'.cut (aI aj),rfl,cy,oo (kI.cut _ w' ν') _ _ du Ko,bJ.good.cut bL ck (fun bl h _=>h),?_,dd,?_⟩
  ·intro k;refine⟨?_,?_,?_⟩;rotate_left 2
   ·rintro j b ⟨ao,af⟩;obtain⟨t1,t2⟩:=bJ.fr.trn k j b af;rcases ao with ao|ao<;>obtain⟨x,nk⟩:=eb.1 ao
    ·obtain⟨bl,a1,el,ai,_⟩:=bJ.good.box k x (bL k x nk).1;rw[t1]at ai;cases ai
    ·obtain⟨v',a1,ai,_⟩:=bJ.good.own k x (ck k x nk).1;rw[t2]at ai;cases ai
   ·intro J;by_cases ao:aI aj k
    ·rw[aC.cut_bx ao];rcases ao with ao|ao
     ·rw[J]at ao;cases ao
     ·obtain⟨x,nk⟩:=eb.1 ao;obtain⟨v',a1,ai,_⟩:=bJ.good.own k x (ck k x nk).1;rcases bJ.good.one k with I|I
      ·exact I
      ·rw[I]at ai;cases ai
    ·exact(aC.cut_no ao).1
   ·intro J;by_cases ao:aI aj k
    ·rw[aC.cut_ow ao];rcases ao with ao|ao
     ·obtain⟨x,nk⟩:=eb.1 ao;obtain⟨bl,a1,el,ai,_⟩:=bJ.good.box k x (bL k x nk).1;rcases bJ.good.one k with I|I
      ·rw[I]at ai;cases ai
      ·exact I
     ·rw[J]at ao;cases ao
    ·exact(aC.cut_no ao).2.1
  ·refine⟨bJ.fr.os,bJ.fr.tape,bJ.fr.output,bJ.fr.size,bJ.fr.block,bJ.fr.keep,bJ.fr.fresh,fun n b h=>?_,bJ.fr.obn,fun m n u h=>?_,bJ.fr.obr,fun k j aW dc b I aa=>bJ.fr.trd k j aW dc b I.2 aa.2,fun k j b af=>bJ.fr.trb k j b af.2,fun k j b af=>(by rw[aC.cut_bx af.1,aC.cut_ow af.1];exact bJ.fr.trn k j b af.2),bJ.fr.sh,fun j n u b ai aE=>bJ.fr.nrow j n u b (aC.cut_someO ai).2 aE⟩
   ·have ao:aI aj (.obj n):=by
     cases aB:look (.obj n) s.b with
     |none=>rw[(ad _).1 aB]at h;cases h
     |some x=>exact tT kb _ (by simp[aB])
    rw[aC.cut_bx ao];exact bJ.fr.obj n b h
   ·have ao:aI aj (.obj m):=by
     cases aB:look (.obj m) s.e with
     |none=>rw[(ad _).2.1 aB]at h;cases h
     |some x=>exact tT ke _ (by simp[aB])
    rw[aC.cut_ow ao];exact bJ.fr.row m n u h
 rcases h w ν vs gl fv kX with⟨vd,aA⟩|⟨v,w',aA,gf⟩
 ·exact .inl ⟨vd,aA.mono hm⟩
 ·exact .inr ⟨v,w',aA,hm _ _ gf⟩
theorem bK.grown{C:db}{st:aM}{a:Act}{w w':World}{ν:aC}(h:bK C st a w ν)(aL:w.grownBy w' none):bK C st a w' ν:=by
 have j3:kh w ν w' ν:=⟨fun b o aN=>⟨aN,GN aL (h.good.alt b o aN)⟩,fun _ _ _ h=>h,fun _ n u _ h=>⟨n,u,h,.inl ⟨rfl,rfl⟩⟩,fun b o aN=>wg (aL.block b (h.good.alt b o aN) Ψ),fun _ _ _ _ h=>h⟩;refine h.over j3 rfl ⟨fun b o aN=>Nat.lt_of_lt_of_le (h.good.alt b o aN) aL.size,fun k cs J=>?_,h.good.inj,fun g o dS=>?_,h.good.oinj,h.good.obx,h.good.one,h.good.otr⟩
  ⟨aL.os.trans h.fr.os,aL.tape.trans h.fr.tape,aL.output.trans h.fr.output,Nat.le_trans h.fr.size aL.size,fun k J hm=>?_,fun b o aN=>?_,h.fr.fresh,h.fr.obj,h.fr.obn,h.fr.row,h.fr.obr,h.fr.trd,fun k j b af=>⟨(h.fr.trb k j b af).1,Nat.lt_of_lt_of_le (h.fr.trb k j b af).2 aL.size⟩,h.fr.trn,fun b o aN=>(j3.sh b o (h.fr.keep b o aN).1).trans (h.fr.sh b o aN),h.fr.nrow⟩ h.new
 ·obtain⟨bl,us,el,g1,g2,g3,g4,g5⟩:=h.good.box k cs J;exact⟨bl,us,el,g1,g2,g3,by rw[aL.block bl (Array.getElem?_eq_some_iff.1 g4).1 Ψ];exact g4,ny j3 g5⟩
 ·obtain⟨v,us,g1,g2,g3,g4⟩:=h.good.own g o dS;exact⟨v,us,g1,g2.kept aL (by cases v.ownBlock<;>simp),g3,pA j3 (fun _ _ _ h=>h) g4⟩
 ·rw[aL.block k (Nat.lt_of_lt_of_le J h.fr.size) Ψ];exact h.fr.block k J hm
 ·obtain⟨ct,cN⟩:=h.fr.keep b o aN;exact⟨ct,(j3.A b o ct).2.trans cN⟩
end
section
open Go Go.RowKit
def xT(t:List (Nat×ab))(bH:List Nat):List (Nat×ab):=bH.map fun k=>(k,get k t)
@[simp]theorem Xi(t:List (Nat×ab)):xT t []=[]:=rfl
@[simp]theorem Xh(t:List (Nat×ab))(k:Nat)(bH:List Nat):xT t (k::bH)=(k,get k t)::xT t bH:=rfl
def mG(st:aM)(bH:List Nat)(cs:List (Nat×ab)):aM:=⟨xT st.t bH++cs,st.b,st.e,st.n,st.o⟩
theorem R1(t:List (Nat×ab))(b:List (aq×List ab))(e:List (aq×cp))(n:Nat)(o:List aq)(bH:List Nat)(cs:List (Nat×ab)):mG ⟨t,b,e,n,o⟩ bH cs=⟨xT t bH++cs,b,e,n,o⟩:=rfl
def uB{α:Type}(S:Nat->α->aM)(n:Nat)(gx:Nat->α->Prop)(k:Nat)(st:aM):Prop:= ∃i a,i<=n/\k=n-i/\gx i a/\st=S i a
section
variable {P:bm} {ob:List aq} {st:aM} {Q:Exit->aM->Prop} {c:C} {α:Type}
theorem iy(S:Nat->α->aM)(n:Nat)(gx:Nat->α->Prop)(a0:α)(hw:hi ob st (S 0 a0))(bR:gx 0 a0)(hT:∀a,gx n a->(∀i,jE (get i (S n a).t))->b6 P ob c (cQ ob (uB S n gx) 0 Q) (S n a))
  (pd:∀i a,i<n->gx i a->(∀j,jE (get j (S i a).t))->b6 P ob c (cQ ob (uB S n gx) (n-i) Q) (S i a)):b6 P ob (.loop c) Q st:=by
 refine B9 (uB S n gx) n _ hw ⟨0,a0,Ω,Ω,bR,rfl⟩ ?_;rintro k s ⟨i,a,aD,rfl,av,rfl⟩ af _;rcases Nat.lt_or_ge i n with h|h
 ·exact pd i a h av af
 ·obtain rfl:i=n:=Ω
  rw[Nat.sub_self];exact hT a av af
theorem cQ.rng{S:Nat->α->aM}{n:Nat}{gx:Nat->α->Prop}{i:Nat}(bG:α)(aD:i<n)(av:gx (i+1) bG)(hw:hi ob st (S (i+1) bG)):cQ ob (uB S n gx) (n-i) Q .normal st:=⟨n-(i+1),_,Ω,hw,i+1,bG,Ω,rfl,av,rfl⟩
def yI{α:Type}(S:α->aM)(μ:α->Nat)(gx:α->Prop)(k:Nat)(st:aM):Prop:= ∃a,k=μ a/\gx a/\st=S a
theorem jI(S:α->aM)(μ:α->Nat)(gx:α->Prop)(a0:α)(hw:hi ob st (S a0))(bR:gx a0)
  (pd:∀a,gx a->(∀j,jE (get j (S a).t))->b6 P ob c (cQ ob (yI S μ gx) (μ a) Q) (S a)):b6 P ob (.loop c) Q st:=by
 refine B9 (yI S μ gx) (μ a0) _ hw ⟨a0,rfl,bR,rfl⟩ ?_;rintro k s ⟨a,rfl,av,rfl⟩ af _;exact pd a av af
theorem cQ.whl{S:α->aM}{μ:α->Nat}{gx:α->Prop}{k:Nat}(bG:α)(hm:μ bG<k)(av:gx bG)(hw:hi ob st (S bG)):cQ ob (yI S μ gx) k Q .normal st:=⟨μ bG,_,hm,hw,bG,rfl,av,rfl⟩
end
theorem vR{p:Prop}(h:p:=by(try simp[*]);(repeat' first|with_reducible refine aK ?_|with_reducible refine bq (by assumption) ?_|with_reducible refine br (by assumption) ?_|simp[*]);(all_goals first|exact cQ.rng () (by assumption) (by first|assumption|trivial) dQ|exact cQ.rng _ (by assumption) (by assumption) dQ)):p:=h
end
section
open Go Go.RowKit
section
variable {α:Type}
end
end
section
open Go Go.RowKit
section
variable {P:bm} {ob:List aq} {st:aM} {Q:Exit->aM->Prop} {c:C} {α:Type}
theorem Ca(bH:List Nat)(cs:Nat->α->List (Nat×ab))(n:Nat)(gx:Nat->α->Prop)(a0:α)(hw:hi ob st (mG st bH (cs 0 a0)))(bR:gx 0 a0)(hT:∀a,gx n a->(∀i,jE (get i (mG st bH (cs n a)).t))->b6 P ob c (cQ ob (uB (fun i a=>mG st bH (cs i a)) n gx) 0 Q) (mG st bH (cs n a)))
  (pd:∀i a,i<n->gx i a->(∀j,jE (get j (mG st bH (cs i a)).t))->b6 P ob c (cQ ob (uB (fun i a=>mG st bH (cs i a)) n gx) (n-i) Q) (mG st bH (cs i a))):b6 P ob (.loop c) Q st:=
 iy (fun i a=>mG st bH (cs i a)) n gx a0 hw bR hT pd
theorem N4(bH:List Nat)(cs:α->List (Nat×ab))(μ:α->Nat)(gx:α->Prop)(a0:α)(hw:hi ob st (mG st bH (cs a0)))(bR:gx a0)
  (pd:∀a,gx a->(∀j,jE (get j (mG st bH (cs a)).t))->b6 P ob c (cQ ob (yI (fun a=>mG st bH (cs a)) μ gx) (μ a) Q) (mG st bH (cs a))):b6 P ob (.loop c) Q st:=
 jI (fun a=>mG st bH (cs a)) μ gx a0 hw bR pd
end
attribute [simp] R1
end
section
open Go Go.RowKit
def dX(cz:List cG)(s:df)(κ:Nat)(Q:ab->df->Prop)(e:Exit)(st:aM):Prop:=
 (e= .ret\/e= .normal)/\match bd st cz with
  |some (c,aX)=>c/\∃aj,aj.e=[]/\lu aj s.b/\mK (aI aj) aj.b st.b/\gG aj/\(cI st.e (a6 aX)/\(cc st.e (a6 aX)).Nodup/\(bW (a6 aX)).Nodup)/\Q (fold κ st.e 0 (a6 aX)) aj
  |none=>cv
noncomputable def aC.fold(ν:aC)(aj:df)(κ:Nat)(e:List (aq×cp))(p:ab):aC:=
 {A:=fun b o=>ν.A b o\/ ∃k,k∈bW p/\∃own,look k e=some own/\iH ν k b/\o<own.n*own.sz,
  bx:=(ν.cut (aI aj)).bx,ow:=fun _=>none,
  tr:=fun k j b=>k= .loc κ/\∃S,(dV ν (fun b=> ∃k,k∈bW p/\iH ν k b) e p)[j]? =some S/\S b}
theorem FnK.of{P:bm}(hm:P.follows .mixedOrders=true){aQ:List (Nat×cm)}(au:dE P aQ=true){f:FuncId}{fn:Func}(aH:P.funcs[f]? =some fn){code:Code}(af:fn.body=some code)(fL:(fn.name== "runtime.NumGoroutine")=false){c:C}(aA:fb fn.ntmps aQ c code=true){cz:List cG}(jn:l4 aQ cz fn.results.toList=true)
  {args:List ab} (aB:args.length<=fn.ntmps) {s:df} (iW:gG s) (gi:s.e=[]) {κ:Nat} {Q:ab->df->Prop} (he:je args->(∀j cs,look j s.b=some cs->fp cs=true->jf cs)->b6 P (ds s) c (dX cz s κ Q) ⟨hg 0 args,s.b,s.e,0,ds s⟩):FnK P f κ args s Q:=by
 intro w ν vs gl aL ad hr;refine .inl ⟨⟨fn,aH,by simp[af],fL⟩,?_⟩;have qR:=q9 hr;have fv:vs.size=args.length:=by simpa using qR
 let X:db:=⟨w,ν,eX ν s,fn.ntmps,ds s,gl,[]⟩
 have h4:∀k,fresh 0 (ds s) k->ν.bx k=none/\ν.ow k=none/\∀j b,¬ν.tr k j b:=by
  intro k J;cases k with
  |loc m=>exact⟨(ad _).1 (iW.1 m),(ad _).2.1 (iW.2 m),(ad _).2.2⟩
  |obj m=>
   simp only[fresh,true_and]at J;refine⟨?_,?_,(ad _).2.2⟩
   ·refine(ad _).1 ?_;cases h:look (.obj m) s.b with
    |none=>rfl
    |some x=>exact absurd (q2 (.inl (by simp[h]))) J
   ·refine(ad _).2.1 ?_;cases h:look (.obj m) s.e with
    |none=>rfl
    |some x=>exact absurd (q2 (.inr (by simp[h]))) J
 have jK:∀m,(ν.bx (.obj m)≠none\/ν.ow (.obj m)≠none)-> .obj m∈ds s:=by
  intro m hm;refine Classical.byContradiction fun aA=>?_;obtain⟨I,aa,_⟩:=h4 (.obj m) ⟨trivial,aA⟩;rcases hm with hm|hm
  ·exact hm I
  ·exact hm aa
 have kX:bK X ⟨hg 0 args,s.b,s.e,0,ds s⟩ {tmps:=vs++nG (fn.ntmps-vs.size) undef,defers:=[]} w ν:=by
  refine⟨⟨aL.alt,fun k cs J=>?_,aL.inj,fun g o dS=>?_,aL.oinj,aL.obx,aL.one,aL.otr⟩,⟨rfl,rfl,rfl,cx _,fun _ _ _=>rfl,fun b o h=>⟨h,rfl⟩,fun b o h=>.inl h,fun n b h=>h,fun n b h=>jK n (.inl (by rw[h];simp)),fun m n u h=>⟨n,u,h,.inl ⟨rfl,rfl⟩⟩,fun m n u h=>jK m (.inr (by rw[h];simp)),fun k j _ _ b h=>absurd h ((ad k).2.2 j b),fun k j b h=>absurd h ((ad k).2.2 j b),fun k j b h=>absurd h ((ad k).2.2 j b),fun _ _ _=>rfl,fun j n u b ai _=>(by rw[(ad _).2.1 (iW.2 j)]at ai;cases ai)⟩,rfl,?_,fun i=>?_,h4,fun _ ad=>(by cases ad),fun m hm aH=>aH.2 hm⟩
  ·obtain⟨bl,us,el,g1,g2,g3⟩:=aL.box k cs J;exact⟨bl,us,el,g1,.inl g2,g3⟩
  ·obtain⟨v,us,g1,g2,g3,g4⟩:=aL.own g o dS;exact⟨v,us,g1,g2,fun bl eJ=>⟨.inl (g3 bl eJ).1,(g3 bl eJ).2⟩,g4⟩
  ·show(vs++nG (fn.ntmps-vs.size) undef).size=fn.ntmps;simp;omega
  ·rw[u1];by_cases aD:i<args.length
   ·rw[if_pos Ω];have lX:args[i]? =some args[i]:=eo aD;obtain⟨v,ai,aE⟩:=v8 i hr lX;have aY:(vs++nG (fn.ntmps-vs.size) undef).getD i undef=v:=by
     have kM:vs[i]? =some v:=by simpa using ai
     rw[l8,Array.getElem?_append_left Ω,kM];rfl
    show aw w ν _ ((vs++nG (fn.ntmps-vs.size) undef).getD i undef);rw[aY];simpa[List.getD,lX]using aE
   ·rw[bh Ω];simp[aw]
 have qK:=he (EC hr) (fun j cs av=>by obtain⟨bl,us,el,_,_,_,_,g5⟩:=aL.box j cs av;exact Eu g5);have xO:=lj hm au (X:=X) c code (dX cz s κ Q) _ aA qK _ w ν kX;refine calls_of_wp aH af (wp_mono xO fun e bG w' bn=>?_);obtain⟨st',ν',⟨iA,bj⟩,bJ⟩:=bn;cases gf:bd st' cz with
 |none=>simp[gf]at bj
 |some x=>
  obtain⟨fX,aX⟩:=x;simp only[gf]at bj;obtain⟨lS,aj,hs'e,kb,bL,dd,⟨ok,nd,rd⟩,cy⟩:=bj;obtain⟨gV,g1,g2⟩:=yj au bJ cz fn.results.toList fX aX jn gf lS;have C4:=q9 g2;have kT:bG.defers=[]/\∃v,(results fn bG.tmps).run P w'= .ok v w'/\(fun(e:Ending) w'=> ∃v r aj ν',e= .returned v/\Q r aj/\aw w' ν' r v/\Good (fun bl=>eX ν s bl\/w.heap.size<=bl) w' ν' aj.b aj.e/\uT (some κ) ν' aj/\gG aj/\mh ⟨w,ν,eX ν s,0,ds s,gl,[]⟩ w' ν') (.returned v) w':=by
   refine⟨bJ.defers,?_⟩;have fu:(results fn bG.tmps).run P w'= .ok (if h:gV.toArray.size=1 then gV.toArray[0]else .tuple gV.toArray) w':=by rw[EF];simp only[dW,Array.mapM_eq_mapM_toList,Sem.run_map,g1,ea,eN]
   have sd:∀k,aI aj k->(look k aj.b).isSome/\(look k st'.b).isSome:=fun k J=>by
    have I:(look k aj.b).isSome:=by
     rcases J with J|J
     ·exact J
     ·rw[hs'e]at J;simp[look]at J
    obtain⟨cs,cj⟩:=eb.1 I;exact⟨I,by simp[(bL k cs cj).1]⟩
   have gg:∀k b,k∈bW (a6 aX)->iH ν' k b->∃own,look k st'.e=some own/\(X.pr b)/\b<w'.heap.size/\(∀k j,¬ν'.tr k j b)/\(∀aW,(look aW st'.b).isSome->ν'.bx aW≠some b):=by rintro k b J ⟨n,v,I,aa⟩;obtain⟨own,kt⟩:=x1 _ ok k J;obtain⟨v0,us,j7,iG,l1,XW⟩:=bJ.good.own k _ kt;rw[I]at j7;simp only[dp,hQ]at j7;obtain⟨rfl,rfl⟩:=j7;exact⟨_,kt,(l1 b aa).1,bJ.good.ownLt kt I aa,bJ.good.otr b (.inr ⟨k,_,_,by simp[kt],I,aa⟩),fun aW fS hv=>bJ.good.obx k aW _ _ b (by simp[kt]) fS I aa hv⟩
   have QN:∀k b,k∈bW (a6 aX)->iH ν' k b->w.heap.size<=b:=by
    intro k b J dM;obtain⟨own,_,I,_,_,ba⟩:=gg k b J dM;rcases I with I|I
    ·exfalso;rcases I with⟨aW,bt,a2⟩|⟨g,n,v,bt,_⟩
     ·cases aW with
      |loc m=>rw[iW.1 m]at bt;cases bt
      |obj m=>exact ba _ (sd _ (tT kb _ bt)).2 (bJ.fr.obj m b a2)
     ·rw[gi]at bt;simp[look]at bt
    ·exact I
   have tF:uA ν' (fun b=> ∃k,k∈bW (a6 aX)/\iH ν' k b) (bW (a6 aX)):=by refine⟨bJ.fr.trd,fun k aW b J fS I aa=>?_,fun k b J h=>⟨k,J,h⟩⟩;obtain⟨n,v,bt,a2⟩:=I;obtain⟨n',v',bO,bU⟩:=aa;obtain⟨_,cJ⟩:=x1 _ ok k J;obtain⟨_,c2⟩:=x1 _ ok aW fS;exact bJ.good.oinj k aW n n' v v' b (by simp[cJ]) (by simp[c2]) bt bO a2 bU
   refine⟨_,fu,_,Pv.fold κ st'.e 0 (a6 aX),aj,ν'.fold aj κ st'.e (a6 aX),rfl,cy,?_,?_,?_,dd,?_⟩
   ·show aw w' (ν'.fold aj κ st'.e (a6 aX)) _ _;have hV:aw w' ν' (a6 aX) (if h:gV.toArray.size=1 then gV.toArray[0]else .tuple gV.toArray):=by
     match aX,gV,g2,C4 with
     |[p],[v],g2,_=>simp only[bT]at g2;obtain⟨u,a1,ai,aE,_⟩:=g2;cases ai;simpa[a6]using aE
     |[],[],g2,_=>simp[a6,aw,bT]
     |p::gH::aX,v::v2::gV,g2,_=>rw[dif_neg Ψ];simp only[a6,aw];exact⟨_,rfl,by simpa using g2⟩
     |[_],[],_,h=>simp at h
     |[],_::_,_,h=>simp at h
     |[_],_::_::_,_,h=>simp at h
     |_::_::_,[],_,h=>simp at h
     |_::_::_,[_],_,h=>simp at h
    refine zi (μ:=ν'.fold aj κ st'.e (a6 aX)) bJ.good tF (fun b bI=>?_) (fun b o h=>.inl h) (fun k J own kt b dM o ag=>.inr ⟨k,J,own,kt,dM,ag⟩) (a6 aX) _ 0 hV ok nd (fun k J=>J) (fun i S aD b hL=>⟨rfl,S,by simpa using aD,hL⟩);obtain⟨k,J,dM⟩:=bI;obtain⟨_,_,_,_,aJ,_⟩:=gg k b J dM;exact aJ
   ·have j3:kI (aI aj) w' ν' w' (ν'.fold aj κ st'.e (a6 aX)):=by
     refine⟨fun b o h=>⟨.inl h,rfl⟩,fun k b J h=>by simp only[aC.fold];rw[aC.cut_bx J];exact h,fun g n u zB h=>?_,fun _ _ _=>rfl,fun k j b J h=>?_⟩
     ·obtain⟨cs,cj⟩:=eb.1 (sd g zB).2;obtain⟨bl,us,el,ai,_⟩:=bJ.good.box g cs cj;rcases bJ.good.one g with I|I
      ·rw[I]at ai;cases ai
      ·rw[I]at h;cases h
     ·obtain⟨cs,cj⟩:=eb.1 (sd k J).2;obtain⟨bl,us,el,ai,_⟩:=bJ.good.box k cs cj;rw[(bJ.fr.trn k j b h).1]at ai;cases ai
    have hv:∀k bl,(ν'.fold aj κ st'.e (a6 aX)).bx k=some bl->aI aj k/\ν'.bx k=some bl:=fun k bl h=>aC.cut_some h;refine⟨fun bl o aN=>?_,fun k cs J=>?_,fun k aW bl I aa ak aJ=>?_,fun g o zB=>?_,fun g dF n n' v v' bl I=>?_,fun g k n v bl I=>?_,fun k=>.inr rfl,fun bl au k j eC=>?_⟩
    ·rcases aN with aN|⟨k,J,own,_,dM,_⟩
     ·exact bJ.good.alt bl o aN
     ·obtain⟨_,_,_,ak,_⟩:=gg k bl J dM;exact ak
    ·obtain⟨f1,f2,f3⟩:=bL k cs J;obtain⟨bl,us,el,ai,aE,bb,b9,ft⟩:=bJ.good.box k cs f1;refine⟨bl,us,el,j3.bx k bl f2 ai,aE,fun o aN=>?_,b9,Ev j3 f3 ft⟩;rcases aN with aN|⟨aW,fS,own,_,dM,_⟩
     ·exact bb o aN
     ·obtain⟨_,_,_,_,_,ba⟩:=gg aW bl fS dM;exact ba k (by simp[f1]) ai
    ·exact bJ.good.inj k aW bl (sd k (.inl I)).2 (sd aW (.inl aa)).2 (hv k bl ak).2 (hv aW bl aJ).2
    ·rw[hs'e]at zB;simp[look]at zB
    ·rw[hs'e]at I;simp[look]at I
    ·rw[hs'e]at I;simp[look]at I
    ·rcases au with⟨aW,bt,a2⟩|⟨g,n,v,bt,_⟩
     ·obtain⟨_,S,hL,dM⟩:=eC;obtain⟨bO,bU⟩:=hv aW bl a2;rcases wk _ j S hL bl dM with⟨cN,hU,I⟩|⟨⟨cN,i,_,I⟩,_⟩
      ·obtain⟨_,_,_,_,_,ba⟩:=gg cN bl hU I;exact ba aW (sd aW bO).2 bU
      ·exact bJ.good.otr bl (.inl ⟨aW,(sd aW bO).2,bU⟩) cN i I
     ·rw[hs'e]at bt;simp[look]at bt
   ·intro k;refine⟨fun J=>?_,fun _=>rfl,fun j b h=>⟨κ,rfl,h.1⟩⟩;refine(aC.cut_no fun bn=>?_).1;have:=(sd k bn).1;rw[J]at this;cases this
   ·have IU:∀j b,(ν'.fold aj κ st'.e (a6 aX)).tr (.loc κ) j b->w.heap.size<=b/\b<w'.heap.size:=by
     rintro j b ⟨_,S,hL,dM⟩;rcases wk _ j S hL b dM with⟨k,J,I⟩|⟨⟨k,i,fK,I⟩,_⟩
     ·obtain⟨_,_,_,ak,_⟩:=gg k b J I;exact⟨QN k b J I,ak⟩
     ·have:=bJ.fr.trb k i b I;exact⟨this.1.resolve_left (Ea _ ok _ fK),this.2⟩
    refine⟨bJ.fr.os,bJ.fr.tape,bJ.fr.output,bJ.fr.size,bJ.fr.block,fun b o h=>⟨.inl (bJ.fr.keep b o h).1,(bJ.fr.keep b o h).2⟩,fun b o aN=>?_,fun n b h=>?_,fun n b h=>jK n (.inl (by rw[h];simp)),fun m n u h=>?_,fun m n u h=>jK m (.inr (by rw[h];simp)),fun k j aW dc b I aa=>?_,fun k j b h=>?_,fun k j b h=>?_,bJ.fr.sh,fun j n u b ai aE=>(by cases ai)⟩
    ·rcases aN with aN|⟨k,J,own,_,dM,_⟩
     ·exact bJ.fr.fresh b o aN
     ·obtain⟨_,_,aa,_⟩:=gg k b J dM;exact .inr aa
    ·have ao:aI aj (.obj n):=by
      cases kt:look (.obj n) s.b with
      |none=>rw[(ad _).1 kt]at h;cases h
      |some x=>exact tT kb _ (by simp[kt])
     simp only[aC.fold];rw[aC.cut_bx ao];exact bJ.fr.obj n b h
    ·rw[(ad _).2.1 (by rw[gi];rfl)]at h;cases h
    ·obtain⟨rfl,S,bt,a2⟩:=I;obtain⟨rfl,iQ,bO,bU⟩:=aa;exact⟨rfl,EV tF _ nd rd (fun k J=>J) j dc S iQ bt bO b a2 bU⟩
    ·obtain⟨rfl,_⟩:=id h;exact⟨.inr (IU j b h).1,(IU j b h).2⟩
    ·obtain⟨rfl,_⟩:=h;refine⟨(aC.cut_no fun bn=>?_).1,rfl⟩;rcases bn with bn|bn
     ·rw[dd.1 κ]at bn;cases bn
     ·rw[dd.2 κ]at bn;cases bn
  rcases iA with rfl|rfl<;>exact kT
theorem FnK.mk{P:bm}(hm:P.follows .mixedOrders=true){aQ:List (Nat×cm)}(au:dE P aQ=true){f:FuncId}{fn:Func}(aH:P.funcs[f]? =some fn){c:C}{cz:List cG}{n:Nat}(dI:dA aQ c cz n fn=true)
  {args:List ab} (aB:args.length<=n) {s:df} (iW:gG s) (gi:s.e=[]) {κ:Nat} {Q:ab->df->Prop} (he:je args->(∀j cs,look j s.b=some cs->fp cs=true->jf cs)->b6 P (ds s) c (dX cz s κ Q) ⟨hg 0 args,s.b,s.e,0,ds s⟩):FnK P f κ args s Q:=by
 unfold dA at dI;split at dI
 ·rename_i code af;simp only[bD,oF,fQ]at dI;obtain⟨⟨⟨I,aa⟩,ak⟩,aJ⟩:=dI;exact FnK.of hm au aH af ak I aa (Nat.le_trans aB aJ) iW gi he
 ·cases dI
def nM(P:bm)(f:FuncId)(args:List ab)(r:Nat->ab):Prop:= ∀κ,FnK P f κ args ⟨[],[]⟩ fun cr aj=>cr=r κ/\aj=⟨[],[]⟩
theorem nM.mk{P:bm}(hm:P.follows .mixedOrders=true){aQ:List (Nat×cm)}(au:dE P aQ=true){f:FuncId}{fn:Func}(aH:P.funcs[f]? =some fn){c:C}{cz:List cG}{n:Nat}(dI:dA aQ c cz n fn=true)
  {args:List ab} (aB:args.length<=n) {r:Nat->ab} (he:je args->∀κ,b6 P [] c (dX cz ⟨[],[]⟩ κ fun cr aj=>cr=r κ/\aj=⟨[],[]⟩) ⟨hg 0 args,[],[],0,[]⟩):nM P f args r:=
 fun κ=>FnK.mk hm au aH dI aB oi rfl fun h _=>he h κ
theorem dX.val{cz:List cG}{κ:Nat}{r:ab}{e:Exit}{st:aM}(iA:e= .ret\/e= .normal)(h:match bd st cz with
  |some (c,aX)=>c/\(cI st.e (a6 aX)/\(cc st.e (a6 aX)).Nodup/\(bW (a6 aX)).Nodup)/\fold κ st.e 0 (a6 aX)=r
  |none=>cv):dX cz ⟨[],[]⟩ κ (fun cr aj=>cr=r/\aj=⟨[],[]⟩) e st:=by
 refine⟨iA,?_⟩;cases gf:bd st cz with
 |none=>simp[gf]at h
 |some x=>obtain⟨c,aX⟩:=x;simp only[gf]at h⊢;exact⟨h.1,⟨[],[]⟩,rfl,trivial,fun k cs J=>by simp[look]at J,oi,h.2.1,h.2.2,rfl⟩
theorem CallDo.own{P:bm}{n:Nat}{args:List ab}{st:aM}{d:aR Nat}{K:aM->Prop}{r:Nat->ab}(J:kinL (fun _=>cv) args)(aH:nM P n args r)(o3: .loc st.n∉st.o)(h:K {st with t:=eB d (r st.n) st.t,n:=st.n+1}):CallDo P n args st d K:=by
 refine .inr ⟨⟨[],[]⟩,_,fun k cs J=>by simp[look]at J,fun k cs J=>by simp[look]at J,oi,lv (fun _ h=>h.elim) _ J,o3,aH st.n,?_⟩;rintro cr aj ⟨rfl,rfl⟩;refine⟨⟨fun m h=>by simp[look]at h,fun m h=>by simp[look]at h⟩,?_⟩;have:({after st ⟨[],[]⟩ ⟨[],[]⟩ d (r st.n)with n:=st.n+1}:aM)={st with t:=eB d (r st.n) st.t,n:=st.n+1}:=by simp[after,wA,ds]
 rw[this];exact h
mutual
def bu:ab->Nat
 | .slice _ _ []=>0
 | .slice _ _ (x::xs)=>1+(bu x+bX xs)
 | .agg cs=>bX cs
 |_=>0
def bX:List ab->Nat
 |[]=>0
 |x::xs=>bu x+bX xs
end
mutual
def dr:Nat->ab->ab
 |_,.slice sz _ []=>.slice sz .no []
 |b,.slice sz _ (_::xs)=>.row sz (.obj b) (xs.length+1)
 |b,.agg cs=>.agg (fH b cs)
 |_,p=>p
def fH:Nat->List ab->List ab
 |_,[]=>[]
 |b,x::xs=>dr b x::fH (b+bu x) xs
end
mutual
def cL(ε:Nat->Nat):Nat->ab->List (aq×cp)
 |b,.slice sz _ (x::xs)=>(.obj b,⟨xs.length+1,ε b,sz,some (dr (b+1) x::fH (b+1+bu x) xs)⟩)::(cL ε (b+1) x++e6 ε (b+1+bu x) xs)
 |b,.agg cs=>e6 ε b cs
 |_,_=>[]
def e6(ε:Nat->Nat):Nat->List ab->List (aq×cp)
 |_,[]=>[]
 |b,x::xs=>cL ε b x++e6 ε (b+bu x) xs
end
theorem pT:∀(b:Nat) (xs:List ab),(fH b xs).length=xs.length
 |_,[]=>rfl
 |b,x::xs=>by simp[fH,pT _ xs]
mutual
theorem p7(ε:Nat->Nat):∀(p:ab) (b:Nat) (k:aq) (o:cp),look k (cL ε b p)=some o->∃m,k= .obj m/\b<=m/\m<b+bu p
 | .slice sz t (x::xs),b,k,o,h=>by
  simp only[cL,look]at h;split at h
  ·rename_i e;exact⟨b,e.symm,cx _,by simp only[bu];omega⟩
  ·rw[kA]at h;simp only[bu];cases I:look k (cL ε (b+1) x)with
   |some y=>obtain⟨m,e,fx,fV⟩:=p7 ε x _ k y I;exact⟨m,e,Ω,Ω⟩
   |none=>rw[I]at h;obtain⟨m,e,fx,fV⟩:=qY ε xs _ k o h;exact⟨m,e,Ω,Ω⟩
 | .agg cs,b,k,o,h=>by simp only[cL,bu]at h⊢;exact qY ε cs b k o h
 | .slice _ _ [],_,_,_,h=>by simp[cL,look]at h
 | .int _ _,_,_,_,h=>by simp[cL,look]at h
 | .bool _,_,_,_,h=>by simp[cL,look]at h
 | .str _,_,_,_,h=>by simp[cL,look]at h
 | .junk,_,_,_,h=>by simp[cL,look]at h
 | .ptr _ _,_,_,_,h=>by simp[cL,look]at h
 | .eptr _,_,_,_,h=>by simp[cL,look]at h
 | .iface _ _,_,_,_,h=>by simp[cL,look]at h
 | .nilp,_,_,_,h=>by simp[cL,look]at h
 | .tuple _,_,_,_,h=>by simp[cL,look]at h
 | .func _ _,_,_,_,h=>by simp[cL,look]at h
 | .gmap _,_,_,_,h=>by simp[cL,look]at h
 | .row _ _ _,_,_,_,h=>by simp[cL,look]at h
 | .rptr _ _ _ _ _,_,_,_,h=>by simp[cL,look]at h
 | .hdm _ _,_,_,_,h=>by simp[cL,look]at h
 | .hdi _ _ _,_,_,_,h=>by simp[cL,look]at h
 | .cst _,_,_,_,h=>by simp[cL,look]at h
theorem qY(ε:Nat->Nat):∀(aX:List ab) (b:Nat) (k:aq) (o:cp),look k (e6 ε b aX)=some o->∃m,k= .obj m/\b<=m/\m<b+bX aX
 |[],_,_,_,h=>by simp[e6,look]at h
 |x::xs,b,k,o,h=>by
  simp only[e6]at h;rw[kA]at h;simp only[bX];cases I:look k (cL ε b x)with
  |some y=>obtain⟨m,e,fx,fV⟩:=p7 ε x _ k y I;exact⟨m,e,Ω,Ω⟩
  |none=>rw[I]at h;obtain⟨m,e,fx,fV⟩:=qY ε xs _ k o h;exact⟨m,e,Ω,Ω⟩
end
structure pP (F:Nat->Prop) (ω:Nat->aR (Nat×Value)) (b c:Nat):Prop where
 dom:∀m,(ω m).isSome=true↔b<=m/\m<c
 blk:∀m n u,ω m=some (n,u)->∃bl,u.ownBlock=some bl/\F bl
 inj:∀m k1 n n' u dn bl,ω m=some (n,u)->ω k1=some (n',dn)->u.ownBlock=some bl->dn.ownBlock=some bl->m=k1
def qs(w:World)(ω:Nat->aR (Nat×Value))(e:List (aq×cp)):Prop:= ∀μ:aC,(∀m x,ω m=some x->μ.ow (.obj m)=some x)->
 ∀k o,look k e=some o->∃u us,μ.ow k=some (o.n,u)/\w.ownsRow 0 o.el o.sz u o.n us/\∃xs,o.xs=some xs/\xs.length=o.n/\cd w μ o.sz xs us
theorem pP.nil(F:Nat->Prop)(b:Nat):pP F (fun _=>none) b b:=⟨fun m=>by simp,fun _ _ _ h=>(by cases h),fun _ _ _ _ _ _ _ h=>by cases h⟩
def qT(c:Nat)(oD oE:Nat->aR (Nat×Value))(m:Nat):aR (Nat×Value):=if m<c then oD m else oE m
theorem Jd{c:Nat}{oD oE:Nat->aR (Nat×Value)}{F:Nat->Prop}{b:Nat}(h:pP F oD b c){m:Nat}{x:Nat×Value}(ad:oD m=some x):qT c oD oE m=some x:=by unfold qT;rw[if_pos ((h.dom m).1 (by rw[ad];rfl)).2];exact ad
theorem Je{c d:Nat}{oD oE:Nat->aR (Nat×Value)}{F:Nat->Prop}(h:pP F oE c d){m:Nat}{x:Nat×Value}(ad:oE m=some x):qT c oD oE m=some x:=by unfold qT;rw[bh (by have:=((h.dom m).1 (by rw[ad];rfl)).1;omega)];exact ad
theorem pP.join{F e1 e2:Nat->Prop}{oD oE:Nat->aR (Nat×Value)}{b c d:Nat}(I:pP e1 oD b c)(aa:pP e2 oE c d)(WI:b<=c)(CA:c<=d)(f1:∀x,e1 x->F x)(f2:∀x,e2 x->F x)(aG:∀x,e1 x->¬e2 x):pP F (qT c oD oE) b d:=by
 refine⟨fun m=>?_,fun m n u hm=>?_,fun m k1 n n' u dn bl hm e8 af dM=>?_⟩
 ·unfold qT;split
  ·rw[I.dom];omega
  ·rw[aa.dom];omega
 ·unfold qT at hm;split at hm
  ·obtain⟨bl,ai,aE⟩:=I.blk m n u hm;exact⟨bl,ai,f1 _ aE⟩
  ·obtain⟨bl,ai,aE⟩:=aa.blk m n u hm;exact⟨bl,ai,f2 _ aE⟩
 ·unfold qT at hm e8;split at hm<;>split at e8
  ·exact I.inj m k1 n n' u dn bl hm e8 af dM
  ·obtain⟨_,ai,aE⟩:=I.blk m n u hm;obtain⟨_,bb,b9⟩:=aa.blk k1 n' dn e8;rw[af]at ai;rw[dM]at bb;cases ai;cases bb;exact absurd b9 (aG _ aE)
  ·obtain⟨_,ai,aE⟩:=aa.blk m n u hm;obtain⟨_,bb,b9⟩:=I.blk k1 n' dn e8;rw[af]at ai;rw[dM]at bb;cases ai;cases bb;exact absurd aE (aG _ b9)
  ·exact aa.inj m k1 n n' u dn bl hm e8 af dM
theorem qs.app{w:World}{ω:Nat->aR (Nat×Value)}{e fC:List (aq×cp)}(h:qs w ω e)(cD:qs w ω fC):qs w ω (e++fC):=fun μ mz k o J=>by
 rw[kA]at J;cases I:look k e with
 |some y=>rw[I]at J;cases J;exact h μ mz k _ I
 |none=>rw[I]at J;exact cD μ mz k o J
theorem qs.sub{w:World}{ω L1:Nat->aR (Nat×Value)}{e:List (aq×cp)}(h:qs w ω e)(ao:∀m x,ω m=some x->L1 m=some x):qs w L1 e:=fun μ mz=>h μ fun m x ad=>mz m x (ao m x ad)
theorem HB{t:Bool}{w:World}{A:Nat->Nat->Prop}{sz:Nat}:∀{xs:List ab} {F:Nat->Prop} {us:List Value},hs t w A F sz xs us->us.length=xs.length*sz
 |[],_,us,h=>by simp only[hs]at h;subst h;simp
 |x::xs,F,us,h=>by
  simp only[hs]at h;obtain⟨u,a1,e1,e2,rfl,_,⟨_,aa,_⟩,ba⟩:=h;have:u.cells.toList.length=sz:=by simpa using aa
  rw[jT,this,HB ba,mc,Nat.succ_mul];omega
def lI(w:World)(F:Nat->Prop)(b c:Nat)(e:(Nat->Nat)->List (aq×cp))(R:aC->Prop):Prop:=∃(ε:Nat->Nat) (ω:Nat->aR (Nat×Value)),pP F ω b c/\qs w ω (e ε)/\∀μ:aC,(∀m x,ω m=some x->μ.ow (.obj m)=some x)->R μ
theorem lI.flat{w:World}{F:Nat->Prop}{b:Nat}{R:aC->Prop}(h:∀μ,R μ):lI w F b b (fun _=>[]) R:=⟨fun _=>0,fun _=>none,pP.nil F b,fun _ _ k o J=>by simp[look]at J,fun μ _=>h μ⟩
mutual
theorem A6{ε ε':Nat->Nat}:∀(p:ab) (b:Nat),(∀m,b<=m->m<b+bu p->ε m=ε' m)->cL ε b p=cL ε' b p
 | .slice sz t (x::xs),b,h=>by simp only[bu]at h;simp only[cL];rw[h b Ω Ω,A6 x (b+1) fun m I aa=>h m Ω Ω,yo xs (b+1+bu x) fun m I aa=>h m Ω Ω]
 | .agg cs,b,h=>by simp only[cL,bu]at h⊢;exact yo cs b h
 | .slice _ _ [],_,_=>rfl
 | .int _ _,_,_=>rfl
 | .bool _,_,_=>rfl
 | .str _,_,_=>rfl
 | .junk,_,_=>rfl
 | .ptr _ _,_,_=>rfl
 | .eptr _,_,_=>rfl
 | .iface _ _,_,_=>rfl
 | .nilp,_,_=>rfl
 | .tuple _,_,_=>rfl
 | .func _ _,_,_=>rfl
 | .gmap _,_,_=>rfl
 | .row _ _ _,_,_=>rfl
 | .rptr _ _ _ _ _,_,_=>rfl
 | .hdm _ _,_,_=>rfl
 | .hdi _ _ _,_,_=>rfl
 | .cst _,_,_=>rfl
theorem yo{ε ε':Nat->Nat}:∀(aX:List ab) (b:Nat),(∀m,b<=m->m<b+bX aX->ε m=ε' m)->e6 ε b aX=e6 ε' b aX
 |[],_,_=>rfl
 |x::xs,b,h=>by simp only[bX]at h;simp only[e6];rw[A6 x b fun m I aa=>h m Ω Ω,yo xs (b+bu x) fun m I aa=>h m Ω Ω]
end
theorem lI.two{w:World}{F e1 e2:Nat->Prop}{x:ab}{xs:List ab}{b:Nat}{FN Bu R:aC->Prop}(I:lI w e1 b (b+bu x) (fun ε=>cL ε b x) FN)(aa:lI w e2 (b+bu x) (b+bu x+bX xs) (fun ε=>e6 ε (b+bu x) xs) Bu)
  (f1:∀b,e1 b->F b) (f2:∀b,e2 b->F b) (aG:∀b,e1 b->¬e2 b) (bI:∀μ,FN μ->Bu μ->R μ):lI w F b (b+(bu x+bX xs)) (fun ε=>cL ε b x++e6 ε (b+bu x) xs) R:=by
 obtain⟨ε1,oD,bt,a2,a3⟩:=I;obtain⟨ε2,oE,cJ,c2,c3⟩:=aa;refine⟨fun m=>if m<b+bu x then ε1 m else ε2 m,qT (b+bu x) oD oE,by rw[<-Nat.add_assoc];exact bt.join cJ Ω Ω f1 f2 aG,?_,fun μ mz=>bI μ (a3 μ fun m y bs=>mz m y (Jd bt bs)) (c3 μ fun m y bs=>mz m y (Je cJ bs))⟩;refine qs.app ?_ ?_
 ·rw[A6 (ε':=ε1) x b fun m I aa=>by rw[if_pos aa]];exact a2.sub fun m y bs=>Jd bt bs
 ·rw[yo (ε':=ε2) xs (b+bu x) fun m I aa=>by rw[bh Ω]];exact c2.sub fun m y bs=>Je cJ bs
mutual
theorem E5{w:World}{A:Nat->Nat->Prop}:∀(p:ab) (F:Nat->Prop) (v:Value) (b:Nat),bS true w A F p v->lI w F b (b+bu p) (fun ε=>cL ε b p) fun μ=>aw w μ (dr b p) v
 | .int k n,F,v,b,h=>lI.flat fun μ=>by simpa only[bS,dr,aw]using h
 | .bool _,F,v,b,h=>lI.flat fun μ=>by simpa only[bS,dr,aw]using h
 | .str s,F,v,b,h=>lI.flat fun μ=>by simpa only[bS,dr,aw]using h
 | .slice sz tag [],F,v,b,h=>lI.flat fun μ=>by simp only[bS]at h;obtain⟨a,cap,I,aa,ak,_⟩:=h;simp only[dr,aw];exact⟨⟨a,cap,I,aa,ak,.inl trivial⟩,fun e=>(by cases e),fun _ e=>(by cases e),fun _ _ e=>(by cases e),fun _ e=>(by cases e)⟩
 | .agg cs,F,v,b,h=>by simp only[bS]at h;obtain⟨us,rfl,aa⟩:=h;obtain⟨ε,ω,bt,a2,a3⟩:=Ls cs F us.toList b aa;exact⟨ε,ω,bt,a2,fun μ mz=>by simp only[dr,aw];exact⟨us,rfl,a3 μ mz⟩⟩
 | .slice sz tag (x::xs),F,v,b,h=>by
  simp only[bS]at h;obtain⟨a,cap,I,aa,ak,aJ⟩:=h;rcases aJ with aJ|⟨g,off,us,G,rfl,aE,bb,b9,ft,dz⟩
  ·cases aJ
  obtain⟨rfl,hC,el,gN⟩:=ft trivial;obtain⟨ε,ω,bt,a2,a3⟩:=Lr sz (x::xs) G us (b+1) dz;have hlen:=HB dz;have Iq:¬G g:=fun aL=>(bb g aL).2 trivial rfl;have qI:∃cur,w.heap[g]? =some (.cells cur el (0,0))/\cur.size=cap*sz:=by
   unfold shape at gN;split at gN
   ·rename_i cur dL fz aA;simp only[dp,hQ]at gN;obtain⟨bL,rfl,rfl⟩:=gN;exact⟨cur,aA,bL⟩
   ·cases gN
  obtain⟨cur,aA,cj⟩:=qI;have hle:(x::xs).length*sz<=cur.size:=by rw[cj];exact Nat.mul_le_mul_right _ aa
  have xH:cur.toList.take ((x::xs).length*sz)=us:=by
   apply List.ext_getElem?;intro i;rw[List.getElem?_take];by_cases aD:i<(x::xs).length*sz
   ·rw[if_pos aD];obtain⟨u,hu⟩:∃u,us[i]? =some u:=⟨_,eo (by rw[hlen];exact aD)⟩;have lU:=(p5 b9 hu).2;simp only[World.cell?,Nat.zero_add,aA,qo,ib,if_false]at lU;rw[hu];simpa using lU
   ·rw[bh aD,List.getElem?_eq_none (by rw[hlen];omega)]
  have Qc:∀m y,ω m=some y->m≠b:=fun m y hm e=>by have:=(bt.dom m).1 (by rw[hm];rfl);omega
  refine⟨fun m=>if m=b then el else ε m,fun m=>if m=b then some ((x::xs).length,v)else ω m,?_,?_,?_⟩
  ·refine⟨fun m=>?_,fun m n u hm=>?_,fun m k1 n n' u dn bl hm e8 af dM=>?_⟩
   ·simp only[bu];by_cases e:m=b
    ·subst e;simp;omega
    ·rw[bh e,bt.dom];simp only[bX];omega
   ·split at hm
    ·cases hm;exact⟨g,by rw[I];rfl,aE⟩
    ·obtain⟨bl,bL,ck⟩:=bt.blk m n u hm;exact⟨bl,bL,(bb bl ck).1⟩
   ·split at hm<;>split at e8
    ·rename_i bL ck;rw[bL,ck]
    ·cases hm;obtain⟨_,bL,ck⟩:=bt.blk k1 n' dn e8;rw[dM]at bL;cases bL;rw[I]at af;cases af;exact absurd ck Iq
    ·cases e8;obtain⟨_,bL,ck⟩:=bt.blk m n u hm;rw[af]at bL;cases bL;rw[I]at dM;cases dM;exact absurd ck Iq
    ·exact bt.inj m k1 n n' u dn bl hm e8 af dM
  ·intro μ mz k o J;have I0:∀m y,ω m=some y->μ.ow (.obj m)=some y:=fun m y hm=>mz m y ((bh (Qc m y hm)).trans hm);simp only[cL,look]at J;split at J
   ·rename_i Ns;subst Ns;cases J;refine⟨v,us,?_,⟨by rw[hlen];rfl,.inr ⟨g,cap,cur,I,Nat.zero_le _,by simpa using aA,aa,ak.1,cj,xH⟩⟩,_,rfl,by simp[pT],?_⟩
    ·exact mz b _ Ψ
    ·exact(a3 μ I0)
   ·have C7:(cL (fun m=>if m=b then el else ε m) (b+1) x++e6 (fun m=>if m=b then el else ε m) (b+1+bu x) xs)=e6 ε (b+1) (x::xs):=by simp only[e6];rw[A6 (ε':=ε) x (b+1) fun m I _=>by rw[bh Ω],yo (ε':=ε) xs (b+1+bu x) fun m I _=>by rw[bh Ω]]
    rw[C7]at J;exact a2 μ I0 k o J
  ·intro μ mz;simp only[dr,aw];exact⟨⟨g,cap,I⟩,ak.2,(x::xs).length,v,mz b _ Ψ,cx _,fun _=>rfl⟩
 | .junk,_,_,_,h=>by simp[bS]at h
 | .ptr _ _,_,_,_,h=>by simp[bS]at h
 | .eptr _,_,_,_,h=>by simp[bS]at h
 | .iface _ _,_,_,_,h=>by simp[bS]at h
 | .nilp,_,_,_,h=>by simp[bS]at h
 | .tuple _,_,_,_,h=>by simp[bS]at h
 | .func _ _,_,_,_,h=>by simp[bS]at h
 | .gmap _,_,_,_,h=>by simp[bS]at h
 | .row _ _ _,_,_,_,h=>by simp[bS]at h
 | .rptr _ _ _ _ _,_,_,_,h=>by simp[bS]at h
 | .hdm _ _,_,_,_,h=>by simp[bS]at h
 | .hdi _ _ _,_,_,_,h=>by simp[bS]at h
 | .cst _,_,_,_,h=>by simp[bS]at h
theorem Ls{w:World}{A:Nat->Nat->Prop}:∀(cs:List ab) (F:Nat->Prop) (us:List Value) (b:Nat),h1 true w A F cs us->lI w F b (b+bX cs) (fun ε=>e6 ε b cs) fun μ=>bV w μ (fH b cs) us
 |[],F,us,b,h=>lI.flat fun μ=>by simpa only[h1,fH,bV]using h
 |c::cs,F,us,b,h=>by simp only[h1]at h;obtain⟨u,a1,e1,e2,rfl,⟨f1,f2,f3⟩,⟨g1,g2⟩,g3⟩:=h;simp only[bX,e6,fH];exact(E5 c e1 u b g1).two (Ls cs e2 a1 (b+bu c) g3) f1 f2 (f3 trivial) fun μ eF fy=>by simp only[bV];exact⟨u,a1,rfl,⟨eF,g2⟩,fy⟩
theorem Lr{w:World}{A:Nat->Nat->Prop}(sz:Nat):∀(cs:List ab) (F:Nat->Prop) (us:List Value) (b:Nat),hs true w A F sz cs us->lI w F b (b+bX cs) (fun ε=>e6 ε b cs) fun μ=>cd w μ sz (fH b cs) us
 |[],F,us,b,h=>lI.flat fun μ=>by simpa only[hs,fH,cd]using h
 |c::cs,F,us,b,h=>by simp only[hs]at h;obtain⟨u,a1,e1,e2,rfl,⟨f1,f2,f3⟩,⟨g1,g2,g4⟩,g3⟩:=h;simp only[bX,e6,fH];exact(E5 c e1 u b g1).two (Lr sz cs e2 a1 (b+bu c) g3) f1 f2 (f3 trivial) fun μ eF fy=>by simp only[cd];exact⟨u,a1,rfl,⟨eF,g2,g4⟩,fy⟩
end
mutual
def bN:ab->Prop
 | .int _ _=>True
 | .bool _=>True
 | .str _=>True
 | .slice sz _ xs=>0<sz/\dtL xs
 | .agg cs=>dtL cs
 |_=>cv
def dtL:List ab->Prop
 |[]=>True
 |x::xs=>bN x/\dtL xs
end
mutual
theorem B2{w:World}{ν:aC}{F:Nat->Prop}(ev:∀b o,ν.A b o->F b):∀(p:ab) (v:Value),aw w ν p v->bN p->bS false w ν.A F (bC p) v
 | .int k n,v,h,_=>by simpa only[aw,bC,bS]using h
 | .bool b,v,h,_=>by simpa only[aw,bC,bS]using h
 | .str s,v,h,_=>by simpa only[aw,bC,bS]using h
 | .slice sz tag xs,v,h,aG=>by
  simp only[aw]at h;simp only[bN]at aG;obtain⟨⟨a,cap,I,aa,ak,aJ⟩,_⟩:=h;simp only[bC,bS,j8];refine⟨a,cap,I,aa,ak,?_⟩;rcases aJ with rfl|⟨b,off,us,ai,aE,bb⟩
  ·exact .inl rfl
  ·cases xs with
   |nil=>exact .inl rfl
   |cons x xs=>
    have aB:=nz bb;have af:F b:=by
     cases us with
     |nil=>have ba:0<(x::xs).length*sz:=Nat.mul_pos Ψ aG.1;rw[<-aB]at ba;simp at ba
     |cons u us=>exact ev b _ aE.1.1
    exact .inr ⟨b,off,us,F,ai,af,fun c aA=>⟨aA,fun e=>(by cases e)⟩,aE,fun e=>(by cases e),G8 ev sz _ us bb aG.2⟩
 | .agg cs,v,h,aG=>by simp only[aw,bN,bC,bS]at h aG⊢;obtain⟨us,I,aa⟩:=h;exact⟨us,I,G9 ev cs _ aa aG⟩
 | .junk,_,_,aG=>by simp[bN]at aG
 | .ptr _ _,_,_,aG=>by simp[bN]at aG
 | .eptr _,_,_,aG=>by simp[bN]at aG
 | .iface _ _,_,_,aG=>by simp[bN]at aG
 | .nilp,_,_,aG=>by simp[bN]at aG
 | .tuple _,_,_,aG=>by simp[bN]at aG
 | .func _ _,_,_,aG=>by simp[bN]at aG
 | .gmap _,_,_,aG=>by simp[bN]at aG
 | .row _ _ _,_,_,aG=>by simp[bN]at aG
 | .rptr _ _ _ _ _,_,_,aG=>by simp[bN]at aG
 | .hdm _ _,_,_,aG=>by simp[bN]at aG
 | .hdi _ _ _,_,_,aG=>by simp[bN]at aG
 | .cst _,_,_,aG=>by simp[bN]at aG
theorem G9{w:World}{ν:aC}{F:Nat->Prop}(ev:∀b o,ν.A b o->F b):∀(cs:List ab) (us:List Value),bV w ν cs us->dtL cs->h1 false w ν.A F (bF cs) us
 |[],us,h,_=>by simpa only[bV,bF,h1]using h
 |c::cs,us,h,aG=>by simp only[bV,dtL,bF,h1]at h aG⊢;obtain⟨u,a1,I,⟨aa,ak⟩,aJ⟩:=h;exact⟨u,a1,F,F,I,⟨fun _ h=>h,fun _ h=>h,fun e=>(by cases e)⟩,⟨B2 ev c u aa aG.1,ak⟩,G9 ev cs a1 aJ aG.2⟩
theorem G8{w:World}{ν:aC}{F:Nat->Prop}(ev:∀b o,ν.A b o->F b)(sz:Nat):∀(cs:List ab) (us:List Value),cd w ν sz cs us->dtL cs->hs false w ν.A F sz (bF cs) us
 |[],us,h,_=>by simpa only[cd,bF,hs]using h
 |c::cs,us,h,aG=>by simp only[cd,dtL,bF,hs]at h aG⊢;obtain⟨u,a1,I,⟨aa,ak⟩,aJ⟩:=h;exact⟨u,a1,F,F,I,⟨fun _ h=>h,fun _ h=>h,fun e=>(by cases e)⟩,⟨B2 ev c u aa aG.1,ak⟩,G8 ev sz cs a1 aJ aG.2⟩
end
theorem JC{w:World}{μ:aC}{k:aq}{sz:Nat}{tag:iR}{ys:List ab}{v:Value}(h:bS false w μ.A (μ.tr k 0) (.slice sz tag ys) v)(bs:bF ys=ys):aw w μ (.slice sz (.lo k) ys) v:=by have I:=zm (ν:=μ) (fun _ _ h=>h) _ _ _ h;simp only[bC,bs]at I;simp only[aw]at I⊢;refine⟨I.1,fun e=>(by cases e),fun _ e=>(by cases e),fun _ _ e=>(by cases e),fun aW e=>?_⟩;cases e;simp only[bS]at h⊢;exact h
mutual
def iI:ab->ab
 | .int k n=>.int k n
 | .bool b=>.bool b
 | .str s=>.str s
 | .slice sz _ xs=>.slice sz (.lo dj) (bF xs)
 | .agg cs=>.agg (sO cs)
 | .ptr k o=>.ptr k o
 | .nilp=>.nilp
 |_=>.junk
def sO:List ab->List ab
 |[]=>[]
 |x::xs=>iI x::sO xs
end
mutual
def sP:ab->Prop
 | .slice sz _ xs=>0<sz/\dtL xs
 | .agg cs=>um cs
 |_=>True
def um:List ab->Prop
 |[]=>True
 |x::xs=>sP x/\um xs
end
def we(ν:aC):aC:={ν with tr:=fun k j b=>k=dj/\j=0/\∃o,ν.A b o}
mutual
theorem K5{w:World}{ν:aC}:∀(p:ab) (v:Value),aw w ν p v->sP p->aw w (we ν) (iI p) v
 | .int k n,v,h,_=>by simpa only[aw,iI]using h
 | .bool b,v,h,_=>by simpa only[aw,iI]using h
 | .str s,v,h,_=>by simpa only[aw,iI]using h
 | .slice sz tag xs,v,h,aG=>by have I:=B2 (F:=fun b=> ∃o,ν.A b o) (fun b o h=>⟨o,h⟩) _ v h (by simpa only[bN,sP]using aG);simp only[iI];refine JC (μ:=we ν) (tag:= .no) ?_ (pC xs);simp only[bC]at I;exact pY (fun _ _ h=>⟨h,rfl⟩) (fun _ _ _=>rfl) _ _ _ v (fun b af=>⟨rfl,rfl,af⟩) I
 | .agg cs,v,h,aG=>by simp only[aw,iI,sP]at h aG⊢;obtain⟨us,I,aa⟩:=h;exact⟨us,I,EP cs _ aa aG⟩
 | .ptr k o,v,h,_=>by simp only[aw,iI]at h⊢;exact h
 | .nilp,v,h,_=>by simp only[aw,iI]at h⊢;exact h
 | .junk,_,_,_=>by simp[iI,aw]
 | .eptr _,_,_,_=>by simp[iI,aw]
 | .iface _ _,_,_,_=>by simp[iI,aw]
 | .tuple _,_,_,_=>by simp[iI,aw]
 | .func _ _,_,_,_=>by simp[iI,aw]
 | .gmap _,_,_,_=>by simp[iI,aw]
 | .row _ _ _,_,_,_=>by simp[iI,aw]
 | .rptr _ _ _ _ _,_,_,_=>by simp[iI,aw]
 | .hdm _ _,_,_,_=>by simp[iI,aw]
 | .hdi _ _ _,_,_,_=>by simp[iI,aw]
 | .cst _,_,_,_=>by simp[iI,aw]
theorem EP{w:World}{ν:aC}:∀(cs:List ab) (us:List Value),bV w ν cs us->um cs->bV w (we ν) (sO cs) us
 |[],us,h,_=>by simpa only[bV,sO]using h
 |c::cs,us,h,aG=>by simp only[bV,sO,um]at h aG⊢;obtain⟨u,a1,I,⟨aa,ak⟩,aJ⟩:=h;exact⟨u,a1,I,⟨K5 c u aa aG.1,ak⟩,EP cs a1 aJ aG.2⟩
end
def Bd(l:List (Nat×ab)):List (Nat×ab):=l.map fun x=>(x.1,iI x.2)
def yr(l:List (aq×List ab)):List (aq×List ab):=l.map fun x=>(x.1,sO x.2)
def qe(st:aM):aM:=⟨Bd st.t,yr st.b,[],st.n,dj::st.o⟩
def Bc:List (Nat×ab)->Prop
 |[]=>True
 |(_,p)::r=>sP p/\Bc r
def Bb:List (aq×List ab)->Prop
 |[]=>True
 |(_,cs)::r=>(fp cs=true/\um cs)/\Bb r
def Ba(st:aM):Prop:=dj∉st.o/\Bc st.t/\Bb st.b
theorem Co{f:ab->ab}(av:f .junk= .junk)(i:Nat):∀l:List (Nat×ab),get i (l.map fun x=>(x.1,f x.2))=f (get i l)
 |[]=>by simp[get,av]
 |(j,p)::r=>by
  simp only[ig,get];split
  ·rfl
  ·exact Co av i r
theorem Ag{f:List ab->List ab}(k:aq):∀l:List (aq×List ab),look k (l.map fun x=>(x.1,f x.2))=(look k l).map f
 |[]=>rfl
 |(j,p)::r=>by
  simp only[ig,look];split
  ·rfl
  ·exact Ag k r
theorem K4:∀{l:List (Nat×ab)} (i:Nat),Bc l->sP (get i l)
 |[],_,_=>by simp[get,sP]
 |(j,p)::r,i,h=>by
  simp only[get];split
  ·exact h.1
  ·exact K4 i h.2
theorem K3:∀{l:List (aq×List ab)} {k:aq} {cs:List ab},Bb l->look k l=some cs->fp cs=true/\um cs
 |[],_,_,_,h=>by simp[look]at h
 |(j,p)::r,k,cs,h,J=>by
  simp only[look]at J;split at J
  ·cases J;exact h.1
  ·exact K3 h.2 J
theorem TM{C:db}{st:aM}{a:Act}{w:World}{ν:aC}(h:bK C st a w ν)(hex:C.ex=[])(aA:Ba st):bK C (qe st) a w (we ν):=by
 obtain⟨cJ,c2,c3⟩:=aA;obtain⟨e9,eA,_⟩:=h.new dj ⟨trivial,cJ⟩;have fT:∀k cs,look k (yr st.b)=some cs->∃cn,look k st.b=some cn/\cs=sO cn:=fun k cs J=>by
  rw[yr,Ag]at J;cases aB:look k st.b with
  |none=>rw[aB]at J;cases J
  |some cn=>rw[aB]at J;cases J;exact⟨cn,rfl,rfl⟩
 have ni:∀k,(look k (yr st.b)).isSome->(look k st.b).isSome:=fun k J=>by obtain⟨cs,cj⟩:=eb.1 J;obtain⟨cn,e,_⟩:=fT k cs cj;simp[e]
 refine⟨⟨h.good.alt,fun k cs J=>?_,fun k aW bl I aa=>h.good.inj k aW bl (ni k I) (ni aW aa),fun g o aL=>by simp[qe,look]at aL,fun g dF n n' v v' bl aL=>by simp[qe,look]at aL,fun g k n v bl aL=>by simp[qe,look]at aL,h.good.one,fun bl au k j af=>?_⟩,
  ⟨h.fr.os,h.fr.tape,h.fr.output,h.fr.size,h.fr.block,h.fr.keep,h.fr.fresh,h.fr.obj,h.fr.obn,h.fr.row,h.fr.obr,fun k j aW dc b I aa=>⟨I.1.trans aa.1.symm,I.2.1.trans aa.2.1.symm⟩,fun k j b af=>⟨.inl af.1,?_⟩,fun k j b af=>by rw[af.1];exact⟨e9,eA⟩,h.fr.sh,h.fr.nrow⟩,h.defers,h.size,fun i=>?_,fun k J=>?_,fun x ad=>(by rw[hex]at ad;cases ad),fun m hm aH=>h.obk m hm (n3 (cx _) (fun _ h=>by simp[qe,h]) aH)⟩
 ·obtain⟨cn,ai,rfl⟩:=fT k cs J;obtain⟨bl,us,el,g1,g2,g3,g4,g5⟩:=h.good.box k cn ai;obtain⟨gP,gH⟩:=K3 c3 ai;rw[k7 gP]at g5;rw[lA gP]at g4;have g6:=EP cn _ g5 gH;have om:=qc g6;exact⟨bl,us,el,g1,g2,g3,by rw[lA om];exact g4,by rw[k7 om];exact g6⟩
 ·obtain⟨_,_,o,ag⟩:=af;rcases au with⟨aW,ai,aE⟩|⟨g,n,v,ai,_⟩
  ·obtain⟨cn,fJ⟩:=eb.1 (ni aW ai);obtain⟨fB,us,el,g1,g2,g3,_⟩:=h.good.box aW cn fJ;rw[show(we ν).bx aW=ν.bx aW from rfl,g1]at aE;cases aE;exact g3 o ag
  ·simp[qe,look]at ai
 ·obtain⟨_,_,o,ag⟩:=af;exact h.good.alt b o ag
 ·show aw w (we ν) (get i (Bd st.t)) _;rw[Bd,Co (by simp[iI])];exact K5 _ _ (h.slot i) (K4 i c2)
 ·obtain⟨bL,ck⟩:=J;have dd:k≠dj/\k∉st.o:=by simpa[qe]using ck
  obtain⟨m1,m2,_⟩:=h.new k ⟨bL,dd.2⟩;exact⟨m1,m2,fun j b af=>dd.1 af.1⟩
end
section
open Go Go.RowKit
theorem Jz{w:World}{A A':Nat->Nat->Prop}{b:Nat}(aN:∀o,A b o->A' b o):∀(us:List Value) (off:Nat),h7 w A b off us->h7 w A' b off us
 |[],_,_=>trivial
 |_::us,off,h=>⟨⟨aN _ h.1.1,h.1.2⟩,Jz aN us (off+1) h.2⟩
mutual
theorem zl{t:Bool}{w:World}{A A':Nat->Nat->Prop}:∀(p:ab) (F:Nat->Prop) (v:Value),(∀b o,F b->A b o->A' b o)->bS t w A F p v->bS t w A' F p v
 | .int k n,_,_,_,h=>by simp only[bS]at h⊢;exact h
 | .bool b,_,_,_,h=>by simp only[bS]at h⊢;exact h
 | .str s,_,_,_,h=>by simp only[bS]at h⊢;exact h
 | .slice sz tag xs,F,v,aN,h=>by
  simp only[bS]at h⊢;obtain⟨a,cap,I,aa,ak,aJ⟩:=h;refine⟨a,cap,I,aa,ak,?_⟩;rcases aJ with aJ|⟨b,off,us,G,ai,aE,bb,b9,ft,dz⟩
  ·exact .inl aJ
  ·exact .inr ⟨b,off,us,G,ai,aE,bb,Jz (fun o=>aN b o aE) _ _ b9,ft,HF sz xs G us (fun c o aA=>aN c o (bb c aA).1) dz⟩
 | .agg cs,F,v,aN,h=>by simp only[bS]at h⊢;obtain⟨us,I,aa⟩:=h;exact⟨us,I,HG cs F _ aN aa⟩
 | .junk,_,_,_,h=>by simp[bS]at h
 | .ptr _ _,_,_,_,h=>by simp[bS]at h
 | .eptr _,_,_,_,h=>by simp[bS]at h
 | .iface _ _,_,_,_,h=>by simp[bS]at h
 | .nilp,_,_,_,h=>by simp[bS]at h
 | .tuple _,_,_,_,h=>by simp[bS]at h
 | .func _ _,_,_,_,h=>by simp[bS]at h
 | .gmap _,_,_,_,h=>by simp[bS]at h
 | .row _ _ _,_,_,_,h=>by simp[bS]at h
 | .rptr _ _ _ _ _,_,_,_,h=>by simp[bS]at h
 | .hdm _ _,_,_,_,h=>by simp[bS]at h
 | .hdi _ _ _,_,_,_,h=>by simp[bS]at h
 | .cst _,_,_,_,h=>by simp[bS]at h
theorem HG{t:Bool}{w:World}{A A':Nat->Nat->Prop}:∀(cs:List ab) (F:Nat->Prop) (us:List Value),(∀b o,F b->A b o->A' b o)->h1 t w A F cs us->h1 t w A' F cs us
 |[],_,_,_,h=>by simp only[h1]at h⊢;exact h
 |c::cs,F,us,aN,h=>by simp only[h1]at h⊢;obtain⟨u,a1,e1,e2,I,⟨aa,ak,aJ⟩,⟨ba,cq⟩,dR⟩:=h;exact⟨u,a1,e1,e2,I,⟨aa,ak,aJ⟩,⟨zl c e1 u (fun b o af=>aN b o (aa b af)) ba,cq⟩,HG cs e2 a1 (fun b o af=>aN b o (ak b af)) dR⟩
theorem HF{t:Bool}{w:World}{A A':Nat->Nat->Prop}(sz:Nat):∀(cs:List ab) (F:Nat->Prop) (us:List Value),(∀b o,F b->A b o->A' b o)->hs t w A F sz cs us->hs t w A' F sz cs us
 |[],_,_,_,h=>by simp only[hs]at h⊢;exact h
 |c::cs,F,us,aN,h=>by simp only[hs]at h⊢;obtain⟨u,a1,e1,e2,I,⟨aa,ak,aJ⟩,⟨ba,cq⟩,dR⟩:=h;exact⟨u,a1,e1,e2,I,⟨aa,ak,aJ⟩,⟨zl c e1 u (fun b o af=>aN b o (aa b af)) ba,cq⟩,HF sz cs e2 a1 (fun b o af=>aN b o (ak b af)) dR⟩
end
mutual
def hJ(N:List (aq×Nat)):ab->ab
 | .int k n=>.int k n
 | .bool b=>.bool b
 | .str s=>.str s
 | .slice sz tag xs=>match tag with
  | .tr k j=>if(k,j)∈N then .junk else .slice sz (.tr k j) (bF xs)
  | .lo k=>if(k,0)∈N then .junk else .slice sz (.lo k) (bF xs)
  | .nil=>.slice sz .nil []
  |_=>match xs with
   |[]=>.slice sz .no []
   |_=>.junk
 | .agg cs=>.agg (lL N cs)
 | .tuple cs=>.tuple (lL N cs)
 | .ptr k o=>.ptr k o
 | .nilp=>.nilp
 |_=>.junk
def lL(N:List (aq×Nat)):List ab->List ab
 |[]=>[]
 |x::xs=>hJ N x::lL N xs
end
def iJ(ν:aC)(N:List (aq×Nat))(ω:Nat->aR (Nat×Value)):aC:={A:=fun b o=>ν.A b o/\¬iF ν N b,bx:=ν.bx,ow:=fun k=>match k with| .obj m=>(match ω m with|some x=>some x|none=>ν.ow k)|k=>ν.ow k,tr:=fun k j b=>ν.tr k j b/\(k,j)∉N}
section
variable {w:World} {ν:aC} {N:List (aq×Nat)} {ω:Nat->aR (Nat×Value)} (eC:∀k j aW dc b,ν.tr k j b->ν.tr aW dc b->k=aW/\j=dc)
include eC
theorem Lq{k:aq}{j:Nat}(aU:(k,j)∉N){b o:Nat}(af:ν.tr k j b)(aN:ν.A b o):(iJ ν N ω).A b o:=by refine⟨aN,?_⟩;rintro⟨aW,dc,I,aa⟩;obtain⟨rfl,rfl⟩:=eC k j aW dc b af aa;exact aU I
mutual
theorem BB:∀(p:ab) (v:Value),aw w ν p v->aw w (iJ ν N ω) (hJ N p) v
 | .int k n,v,h=>by simpa only[aw,hJ]using h
 | .bool b,v,h=>by simpa only[aw,hJ]using h
 | .str s,v,h=>by simpa only[aw,hJ]using h
 | .slice sz tag xs,v,h=>by
  simp only[aw]at h;obtain⟨⟨a,cap,I,aa,ak,aJ⟩,ba,_,dR,hK⟩:=h;have o9:xs=[]->aw w (iJ ν N ω) (.slice sz .no []) v:=fun e=>by subst e;simp only[aw];exact⟨⟨a,cap,I,aa,ak,.inl trivial⟩,fun e=>(by cases e),fun _ e=>(by cases e),fun _ _ e=>(by cases e),fun _ e=>(by cases e)⟩
  simp only[hJ];cases tag with
  |tr k j=>
   simp only;split
   ·simp[aw]
   ·rename_i aU;refine Bl (tag:= .no) ?_ (pC xs);refine pY (A:=(iJ ν N ω).A) (fun _ _ h=>⟨h,rfl⟩) (fun _ _ _=>rfl) _ (ν.tr k j) _ v (fun b af=>⟨af,aU⟩) ?_;exact zl _ _ v (fun b o af aN=>Lq eC aU af aN) (w6 .no v (dR k j rfl))
  |lo k=>
   simp only;split
   ·simp[aw]
   ·rename_i aU;refine JC (tag:= .no) ?_ (pC xs);refine pY (A:=(iJ ν N ω).A) (fun _ _ h=>⟨h,rfl⟩) (fun _ _ _=>rfl) _ (ν.tr k 0) _ v (fun b af=>⟨af,aU⟩) ?_;exact zl _ _ v (fun b o af aN=>Lq eC aU af aN) (w6 .no v (hK k rfl))
  |nil=>have e:=ba rfl;subst e;simp only[aw];exact⟨⟨none,0,rfl,Ψ,Ψ,Ψ⟩,Ψ,fun _ e=>(by cases e),fun _ _ e=>(by cases e),fun _ e=>(by cases e)⟩
  |no=>
   simp only;split
   ·exact o9 rfl
   ·simp[aw]
  |own g=>
   simp only;split
   ·exact o9 rfl
   ·simp[aw]
 | .agg cs,v,h=>by simp only[aw,hJ]at h⊢;obtain⟨us,I,aa⟩:=h;exact⟨us,I,BC cs _ aa⟩
 | .tuple cs,v,h=>by simp only[aw,hJ]at h⊢;obtain⟨us,I,aa⟩:=h;exact⟨us,I,FZ cs _ aa⟩
 | .ptr k o,v,h=>by simp only[aw,hJ]at h⊢;exact h
 | .nilp,v,h=>by simp only[aw,hJ]at h⊢;exact h
 | .junk,_,_=>by simp[hJ,aw]
 | .eptr _,_,_=>by simp[hJ,aw]
 | .iface _ _,_,_=>by simp[hJ,aw]
 | .func _ _,_,_=>by simp[hJ,aw]
 | .gmap _,_,_=>by simp[hJ,aw]
 | .row _ _ _,_,_=>by simp[hJ,aw]
 | .rptr _ _ _ _ _,_,_=>by simp[hJ,aw]
 | .hdm _ _,_,_=>by simp[hJ,aw]
 | .hdi _ _ _,_,_=>by simp[hJ,aw]
 | .cst _,_,_=>by simp[hJ,aw]
theorem BC:∀(cs:List ab) (us:List Value),bV w ν cs us->bV w (iJ ν N ω) (lL N cs) us
 |[],us,h=>by simpa only[bV,lL]using h
 |c::cs,us,h=>by simp only[bV,lL]at h⊢;obtain⟨u,a1,I,⟨aa,ak⟩,aJ⟩:=h;exact⟨u,a1,I,⟨BB c u aa,ak⟩,BC cs a1 aJ⟩
theorem FZ:∀(cs:List ab) (us:List Value),bT w ν cs us->bT w (iJ ν N ω) (lL N cs) us
 |[],us,h=>by simpa only[bT,lL]using h
 |c::cs,us,h=>by simp only[bT,lL]at h⊢;obtain⟨u,a1,I,aa,aJ⟩:=h;exact⟨u,a1,I,BB c u aa,FZ cs a1 aJ⟩
end
end
end
end Go.Pv
