/- A tree of blocks under a name taken back: its blocks are rows of the frame's own from here on. -/
import Derived.Deep.LoopGhost
import Derived.Test.YtlnndmgfngfeiaaGreatDoorZf3
set_option linter.all false
set_option maxHeartbeats 4000000
set_option maxRecDepth 4000
open Array renaming getD_eq_getD_getElem?->mg,getElem?_eq_getElem->mh,replicate->nQ
open Bool renaming and_eq_true->bA,false_eq_true->ia,not_eq_true'->oO
open Go renaming Program->bp,TypeId->eU
open Go.Region renaming binds->pP,ready->pQ
open Go.Result renaming andThen_ok->eg
open Go.Sem renaming run_bind->ee,run_pure->eT
open Go.Value renaming cells->mj
open List renaming all_eq_true->kj,cons_append->eI,drop_eq_getElem_cons->pR,eq_nil_of_length_eq_zero->pS,getElem?_append_left->nS,getElem?_eq_getElem->eh,getElem?_eq_some_iff->fG,length_append->jA,length_cons->lN,map_cons->gZ,mem_append->ha,mem_append_left->kk,mem_append_right->iz,mem_cons->gp,mem_map->lO,nil_append->fx,nodup_append->nU
open List.Nodup renaming length_le_of_subset->WD
open List.cons renaming injEq->MR
open Nat renaming le_refl->cE
open Option renaming getD_some->oP,isSome_iff_exists->ei,isSome_none->qF,map_eq_some_iff->lr,map_some->mZ
open Option.some renaming inj->iN,injEq->dv
open Prod.mk renaming injEq->hx
open _root_ renaming False->cw,Option->aV,UInt8->aC,beq_iff_eq->df,decide_eq_true_eq->fH,if_neg->be
namespace Go.Pv
section
open Go Go.RowKit
mutual
def e4(N:List aq):ab->ab
 | .slice sz (.tr k j) xs=>if k∈N\/k=cV then .slice sz .no (ey N xs)else .slice sz (.tr k j) (bz xs)
 | .slice sz (.own k) xs=>.slice sz (.own k) (ey N xs)
 | .slice sz .nil xs=>.slice sz .nil (ey N xs)
 | .slice sz .no xs=>.slice sz .no (ey N xs)
 | .slice sz (.lo _) xs=>.slice sz .no (ey N xs)
 | .agg cs=>.agg (ey N cs)
 | .eptr x=>.eptr (e4 N x)
 | .iface t x=>.iface t (e4 N x)
 | .tuple vs=>.tuple (ey N vs)
 | .func f cG=>.func f (ey N cG)
 |p=>p
def ey(N:List aq):List ab->List ab
 |[]=>[]
 |x::xs=>e4 N x::ey N xs
end
theorem tI(N:List aq):∀xs,(ey N xs).length=xs.length
 |[]=>rfl
 |x::xs=>by simp[ey,tI N xs]
section
variable {w:World} {ν μ:aD} {N:List aq} (aT:∀b o,ν.A b o->μ.A b o) (af:μ.bx=ν.bx) (ag:μ.ow=ν.ow) (au:∀k,k∉N->∀j b,ν.tr k j b->μ.tr k j b)
 (eF:∀k j aX dj b,ν.tr k j b->ν.tr aX dj b->k=aX/\j=dj)
include aT af ag au eF
mutual
theorem wL:∀(p:ab) (v:Value),aw w ν p v->aw w μ (e4 N p) v
 | .junk,_,_=>by simp[e4,aw]
 | .int _ _,_,h=>by simpa only[e4,aw]using h
 | .bool _,_,h=>by simpa only[e4,aw]using h
 | .str _,_,h=>by simpa only[e4,aw]using h
 | .slice sz tag xs,v,h=>by
  have hw:=h;simp only[aw]at h;obtain⟨I,aa,ak,aK,bb⟩:=h;obtain⟨a0,Hw,bJ,cj,de,du⟩:=I;have fc:∃a cap,v= .slice a (ey N xs).length cap/\(ey N xs).length<=cap/\(cap<=maxLen/\(ey N xs).length<=bX)/\(ey N xs=[]\/ ∃b off us,a=some ⟨b,off,none⟩/\h5 w μ.A b off us/\b4 w μ sz (ey N xs) us):=by
   refine⟨a0,Hw,by rw[tI];exact bJ,by rw[tI];exact cj,by rw[tI];exact de,?_⟩;rcases du with aK|⟨b,off,us,ah,aE,bg⟩
   ·exact .inl (by rw[aK];rfl)
   ·exact .inr ⟨b,off,us,ah,sW (fun b o h=>⟨aT b o h,rfl⟩) _ _ aE,Fe sz xs us bg⟩
  cases tag with
  |no=>simp only[e4,aw];exact⟨fc,fun e=>(by cases e),fun _ e=>(by cases e),fun _ _ e=>(by cases e),fun _ e=>(by cases e)⟩
  |lo k=>simp only[e4,aw];exact⟨fc,fun e=>(by cases e),fun _ e=>(by cases e),fun _ _ e=>(by cases e),fun _ e=>(by cases e)⟩
  |nil=>simp only[e4,aw];exact⟨fc,fun _=>aa rfl,fun _ e=>(by cases e),fun _ _ e=>(by cases e),fun _ e=>(by cases e)⟩
  |own k=>simp only[e4,aw];refine⟨fc,fun e=>(by cases e),fun g e=>?_,fun _ _ e=>(by cases e),fun _ e=>(by cases e)⟩;rw[ag,tI];exact ak g e
  |tr k j=>
   simp only[e4];by_cases J:k∈N\/k=cV
   ·rw[if_pos J];simp only[aw];exact⟨fc,fun e=>(by cases e),fun _ e=>(by cases e),fun _ _ e=>(by cases e),fun _ e=>(by cases e)⟩
   ·rw[be J];have fU:=not_or.1 J;have aH:=Bb eF _ v hw (by simp only[dk];exact fU.2) (by simp[tn]);have qc:=p5 (A':=μ.A) (fun b o h=>⟨aT b o h,rfl⟩) (fun _ _ _=>rfl) _ _ (μ.tr k j) _ (fun b af=>by obtain⟨aX,i,hm,af⟩:=af;simp only[tn,List.mem_singleton,hx]at hm;obtain⟨rfl,rfl⟩:=hm;exact au _ fU.1 _ _ af) aH
    simp only[bC]at qc;exact BY qc (pL xs)
 | .agg cs,v,h=>by simp only[aw,e4]at h⊢;obtain⟨us,I,aa⟩:=h;exact⟨us,I,Fg cs _ aa⟩
 | .ptr key off,v,h=>by simp only[aw,e4]at h⊢;rw[af];exact h
 | .eptr x,v,h=>by simp only[aw,e4]at h⊢;obtain⟨b,off,u,I,aa,ak⟩:=h;exact⟨b,off,u,I,wL x u aa,sW (fun b o h=>⟨aT b o h,rfl⟩) _ _ ak⟩
 | .iface t x,v,h=>by simp only[aw,e4]at h⊢;obtain⟨u,I,aa⟩:=h;exact⟨u,I,wL x u aa⟩
 | .nilp,_,h=>by simpa only[e4,aw]using h
 | .tuple vs,v,h=>by simp only[aw,e4]at h⊢;obtain⟨us,I,aa⟩:=h;exact⟨us,I,yR vs _ aa⟩
 | .func f cG,v,h=>by simp only[aw,e4]at h⊢;obtain⟨us,I,aa⟩:=h;exact⟨us,I,yR cG _ aa⟩
 | .gmap key,v,h=>by simp only[aw,e4]at h⊢;rw[af];exact h
 | .row sz k n,v,h=>by simp only[aw,e4]at h⊢;rw[ag];exact h
 | .rptr sz k n i f,v,h=>by simp only[aw,e4]at h⊢;rw[ag];exact h
 | .hdm _ _,_,h=>by simp only[aw]at h
 | .hdi _ _ _,_,h=>by simp only[aw]at h
 | .cst _,_,h=>by simpa only[e4,aw]using h
theorem Fg:∀(cs:List ab) (us:List Value),bV w ν cs us->bV w μ (ey N cs) us
 |[],_,h=>by simpa only[ey,bV]using h
 |c::cs,us,h=>by simp only[bV,ey]at h⊢;obtain⟨u,a6,I,aa,ak⟩:=h;exact⟨u,a6,I,⟨wL c u aa.1,aa.2⟩,Fg cs a6 ak⟩
theorem yR:∀(cs:List ab) (us:List Value),bP w ν cs us->bP w μ (ey N cs) us
 |[],_,h=>by simpa only[ey,bP]using h
 |c::cs,us,h=>by simp only[bP,ey]at h⊢;obtain⟨u,a6,I,aa,ak⟩:=h;exact⟨u,a6,I,wL c u aa,yR cs a6 ak⟩
theorem Fe(sz:Nat):∀(cs:List ab) (us:List Value),b4 w ν sz cs us->b4 w μ sz (ey N cs) us
 |[],_,h=>by simpa only[ey,b4]using h
 |c::cs,us,h=>by simp only[b4,ey]at h⊢;obtain⟨u,a6,I,⟨aa,qV⟩,ak⟩:=h;exact⟨u,a6,I,⟨wL c u aa,qV⟩,Fe sz cs a6 ak⟩
end
theorem UZ{cs:List ab}{us:List Value}(h:gJ w ν cs us):gJ w μ (ey N cs) us:=by
 have bq:∀c:ab,(∀a b,c≠ .hdm a b)->(∀a b d,c≠ .hdi a b d)->(∀a b,e4 N c≠ .hdm a b)/\(∀a b d,e4 N c≠ .hdi a b d):=by
  intro c I aa;cases c with
  |slice sz tag xs=>cases tag<;>simp only[e4]<;>first|(split<;>simp)|simp
  |hdm a b=>exact absurd rfl (I a b)
  |hdi a b d=>exact absurd rfl (aa a b d)
  |_=>simp[e4]
 unfold gJ at h;split at h
 ·simp only[ey,e4,gJ];exact⟨yR aT af ag au eF _ _ h.1,⟨by rw[tI];exact h.2.len,h.2.inc,h.2.lt⟩⟩
 ·simp only[ey,e4,gJ];exact yR aT af ag au eF _ _ h
 ·rename_i ft eM;have hr:=Fg aT af ag au eF _ _ h;rw[lk]
  ·exact hr
  ·exact qu hr
end
theorem N4(N:List aq)(cs:List ab)(us:Array Value)(el:eU):hp (ey N cs) us el=hp cs us el:=by
 cases cs with
 |nil=>rfl
 |cons c r=>
  cases c with
  |slice sz tag xs=>
   cases tag with
   |tr k j=>by_cases J:k∈N\/k=cV<;>simp[ey,e4,hp,J]
   |_=>rfl
  |_=>rfl
def xr(N:List aq)(l:List (Nat×ab)):List (Nat×ab):=l.map fun x=>(x.1,e4 N x.2)
def xp(N:List aq)(l:List (aq×List ab)):List (aq×List ab):=l.map fun x=>(x.1,ey N x.2)
def zw(N:List aq)(o:cq):cq:=⟨o.n,o.el,o.sz,o.xs.map (ey N)⟩
def vi(N:List aq)(rw:List aq)(l:List (aq×cq)):List (aq×cq):=(l.filter fun x=>decide (x.1∉rw)).map fun x=>(x.1,zw N x.2)
theorem IH(N:List aq)(i:Nat):∀l,get i (xr N l)=e4 N (get i l)
 |[]=>by simp[xr,get,e4]
 |(j,p)::r=>by
  have a8:=IH N i r;simp only[xr,gZ,get]at a8⊢;split
  ·rfl
  ·exact a8
theorem En(N:List aq)(k:aq):∀l,look k (xp N l)=(look k l).map (ey N)
 |[]=>rfl
 |(j,p)::r=>by
  have a8:=En N k r;simp only[xp,gZ,look]at a8⊢;split
  ·rfl
  ·exact a8
theorem Eo(N rw:List aq)(k:aq):∀l,look k (vi N rw l)=if k∈rw then none else(look k l).map (zw N)
 |[]=>by simp[vi,look]
 |(j,p)::r=>by
  have a8:=Eo N rw k r;simp only[vi]at a8⊢;by_cases av:j∈rw
  ·rw[List.filter_cons_of_neg (by simpa using av),a8];simp only[look];by_cases J:k∈rw
   ·simp[J]
   ·have:j≠k:=fun e=>J (e▸av);simp[J,this]
  ·rw[List.filter_cons_of_pos (by simpa using av)];simp only[gZ,look];by_cases e:j=k
   ·subst e;simp[av]
   ·rw[be e,a8,be e]
def vw(st:aN)(p:ab):List aq:=(b8 st.e p).map (·.1)
def si(st:aN)(s:Nat):aN:=⟨put s (fold st.n st.e 0 (get s st.t)) (xr (vw st (get s st.t)) st.t),xp (vw st (get s st.t)) st.b,vi (vw st (get s st.t)) (bW (get s st.t)) st.e,st.n+1,st.o⟩
def tT(ob:List aq)(st:aN)(s:Nat):Prop:=cC st.e (get s st.t)/\(b8 st.e (get s st.t)).Nodup/\(bW (get s st.t)).Nodup/\ .loc st.n∉st.o/\(∀k∈vw st (get s st.t),k∉ob)/\∀k∈bW (get s st.t),∃j,k= .loc j
def aD.fd(ν:aD)(R:Nat->Prop)(rw:List aq)(e:List (aq×cq))(T:List (Nat->Prop))(N:List aq)(n:Nat):aD:=
 {A:=fun b o=>ν.A b o\/ ∃k,k∈rw/\∃own,look k e=some own/\iI ν k b/\o<own.n*own.sz,
  bx:=ν.bx,ow:=ν.ow,
  tr:=fun k j b=>(k∉N/\ν.tr k j b)\/(k= .loc n/\∃S,T[j]? =some S/\S b)}
theorem Ii{C:dh}{st:aN}{a:Act}{w:World}{ν:aD}(h:bH C st a w ν){s:Nat}(az:tT C.ob st s):∃ν',bH C (si st s) a w ν':=by
 obtain⟨ok,nd,rd,pd,Js,Jm⟩:=az;unfold si;generalize aY:get s st.t=p at ok nd rd Js Jm⊢;have nv:aw w ν p (a.tmps.getD s undef):=by rw[<-aY];exact h.slot s
 let R:Nat->Prop:=fun b=> ∃k,k∈bW p/\iI ν k b
 have AE:=h.new (.loc st.n) ⟨cE _,pd⟩;have hn:∀k b,k∈bW p->iI ν k b->∃own,look k st.e=some own/\C.w0.heap.size<=b/\b<w.heap.size/\(∀k j,¬ν.tr k j b)/\(∀aX,(look aX st.b).isSome->ν.bx aX≠some b)/\∀g n v,(look g st.e).isSome->ν.ow g=some (n,v)->v.ownBlock=some b->g=k:=by rintro k b J ⟨n,v,I,aa⟩;obtain⟨own,kB⟩:=yw _ ok k J;obtain⟨j,rfl⟩:=Jm k J;exact⟨own,kB,h.fr.nrow j n v b I aa,h.good.ownLt kB I aa,h.good.otr b (.inr ⟨_,_,_,by simp[kB],I,aa⟩),fun aX fU hD=>h.good.obx _ aX _ _ b (by simp[kB]) fU I aa hD,fun g n' v' aP ah aE=>h.good.oinj g _ n' n v' v b aP (by simp[kB]) ah I aE aa⟩
 have uc:u4 ν R (bW p):=by refine⟨h.fr.trd,fun k aX b J fU I aa=>?_,fun k b J h=>⟨k,J,h⟩⟩;obtain⟨n,v,bt,a2⟩:=I;obtain⟨_,cM,_⟩:=hn k b J ⟨n,v,bt,a2⟩;obtain⟨_,_,_,_,_,_,c2⟩:=hn aX b fU aa;exact c2 k n v (by simp[cM]) bt a2
 let N:=vw st p
 let μ:aD:=ν.fd R (bW p) st.e (ed ν R st.e p) N st.n
 have aT:∀b o,ν.A b o->μ.A b o:=fun b o h=>.inl h;have eF:∀k,k∉N->∀j b,ν.tr k j b->μ.tr k j b:=fun k J j b af=>.inl ⟨J,af⟩;have ub:∀q v,aw w ν q v->aw w μ (e4 N q) v:=wL aT rfl rfl eF h.fr.trd;have Q7:∀sz q v,b4 w ν sz q v->b4 w μ sz (ey N q) v:=fun sz=>Fe aT rfl rfl eF h.fr.trd sz;have Ax:∀(j:Nat) (S:Nat->Prop) (b:Nat),(ed ν R st.e p)[j]? =some S->S b->(∃k∈bW p,iI ν k b)\/ ∃k i,(k,i)∈b8 st.e p/\ν.tr k i b:=by
  intro j S b av fT;rcases wR _ j S av b fT with⟨k,J,I⟩|⟨⟨k,i,I,aa⟩,_⟩
  ·exact .inl ⟨k,J,I⟩
  ·exact .inr ⟨k,i,I,aa⟩
 have sI:∀k,(look k (xp N st.b)).isSome->(look k st.b).isSome:=fun k J=>by rw[En]at J;simpa using J
 have ug:∀k,(look k (vi N (bW p) st.e)).isSome->k∉bW p/\(look k st.e).isSome:=fun k J=>by
  rw[Eo]at J;split at J
  ·cases J
  ·rename_i e;exact⟨e,by simpa using J⟩
 have Jt:∀g n v b,g∉bW p->(look g st.e).isSome->ν.ow g=some (n,v)->v.ownBlock=some b->∀k∈bW p,¬iI ν k b:=by intro g n v b aP aA ah aE k J hr;obtain⟨_,_,_,_,_,_,c⟩:=hn k b J hr;exact aP (c g n v aA ah aE▸J)
 have Rp:aw w μ (fold st.n st.e 0 p) (a.tmps.getD s undef):=by refine zR (μ:=μ) h.good uc (fun b bF=>?_) aT (fun k J own kB b dR o ag=>.inr ⟨k,J,own,kB,dR,ag⟩) p _ 0 nv ok nd (fun k J=>J) (fun i S aB b fT=>.inr ⟨rfl,S,by simpa using aB,fT⟩);obtain⟨k,J,dR⟩:=bF;obtain⟨_,_,_,_,aK,_⟩:=hn k b J dR;exact aK
 refine⟨μ,⟨fun bl o aT=>?_,fun k cs J=>?_,fun k aX bl I aa=>h.good.inj k aX bl (sI k I) (sI aX aa),fun g o aP=>?_,fun g dH n n' v v' bl I aa=>h.good.oinj g dH n n' v v' bl (ug g I).2 (ug dH aa).2,fun g k n v bl I aa=>h.good.obx g k n v bl (ug g I).2 (sI k aa),h.good.one,fun bl au k j Sf=>?_⟩,
  ⟨h.fr.os,h.fr.tape,h.fr.output,h.fr.size,h.fr.block,fun b o bL=>⟨.inl (h.fr.keep b o bL).1,(h.fr.keep b o bL).2⟩,fun b o bL=>?_,h.fr.obj,h.fr.obn,h.fr.row,h.fr.obr,fun k j aX dj b I aa=>?_,fun k j b af=>?_,fun k j b af=>?_,h.fr.sh,h.fr.nrow⟩,
  h.defers,h.size,fun i=>?_,fun k J=>?_,fun x ad=>?_,fun m hm aH=>h.obk m hm (oh (Nat.le_succ _) (fun _ h=>h) aH)⟩
 ·rcases aT with aT|⟨k,J,own,_,dR,_⟩
  ·exact h.good.alt bl o aT
  ·obtain⟨_,_,_,ak,_⟩:=hn k bl J dR;exact ak
 ·simp only at J;rw[En]at J;cases aA:look k st.b with
  |none=>rw[aA]at J;cases J
  |some cn=>
   rw[aA]at J;simp only[mZ,dv]at J;subst J;obtain⟨bl,us,el,ah,aE,bg,cB,hc⟩:=h.good.box k cn aA;refine⟨bl,us,el,ah,aE,fun o bL=>?_,by rw[N4];exact cB,UZ aT rfl rfl eF h.fr.trd hc⟩;rcases bL with bL|⟨aX,fU,own,_,dR,_⟩
   ·exact bg o bL
   ·obtain⟨_,_,_,_,_,bb,_⟩:=hn aX bl fU dR;exact bb k (by simp[aA]) ah
 ·simp only at aP;have Dr:=ug g (by rw[aP];rfl);rw[Eo,be Dr.1]at aP;cases aA:look g st.e with
  |none=>rw[aA]at aP;cases aP
  |some lh=>
   rw[aA]at aP;simp only[mZ,dv]at aP;subst aP;obtain⟨v,us,ah,aE,bg,cB⟩:=h.good.own g lh aA;have gd:∀bl,v.ownBlock=some bl->∀j,μ.A bl j->ν.A bl j:=by
    intro bl af j bL;rcases bL with bL|⟨aX,fU,own,_,dR,_⟩
    ·exact bL
    ·exact absurd dR (Jt g _ v bl Dr.1 Dr.2 ah af aX fU)
   refine⟨v,us,ah,aE,fun bl af=>⟨(bg bl af).1,fun j bL=>(bg bl af).2 j (gd bl af j bL)⟩,fun xs ad=>?_⟩;simp only[zw]at ad;cases lB:lh.xs with
   |none=>rw[lB]at ad;cases ad
   |some ys=>rw[lB]at ad;simp only[mZ,dv]at ad;subst ad;obtain⟨f1,f2,f3⟩:=cB ys lB;exact⟨by rw[tI];exact f1,Q7 _ _ _ f2,fun bl af j bL=>f3 bl af j (gd bl af j bL)⟩
 ·have hold:∀k j,¬ν.tr k j bl:=by refine h.good.otr bl (au.imp (fun⟨k,bt,a2⟩=>⟨k,sI k bt,a2⟩) fun⟨g,n,v,bt,a2,a3⟩=>⟨g,n,v,(ug g bt).2,a2,a3⟩)
  rcases Sf with⟨_,af⟩|⟨_,S,fT,af⟩
  ·exact hold k j af
  ·rcases Ax j S bl fT af with⟨aX,fU,hr⟩|⟨aX,i,_,dR⟩
   ·rcases au with⟨cI,bt,a2⟩|⟨g,n,v,bt,a2,a3⟩
    ·obtain⟨_,_,_,_,_,bb,_⟩:=hn aX bl fU hr;exact bb cI (sI cI bt) a2
    ·exact Jt g n v bl (ug g bt).1 (ug g bt).2 a2 a3 aX fU hr
   ·exact hold aX i dR
 ·rcases bL with bL|⟨k,J,own,_,dR,_⟩
  ·exact h.fr.fresh b o bL
  ·obtain⟨_,_,aa,_⟩:=hn k b J dR;exact .inr (.inr aa)
 ·have mixed:∀(k:aq) (j dj:Nat) (S:Nat->Prop),k∉N->ν.tr k j b->(ed ν R st.e p)[dj]? =some S->S b->cw:=by
   intro k j dj S J af fT dR;rcases Ax dj S b fT dR with⟨aX,fU,hr⟩|⟨aX,i,hm,ua⟩
   ·obtain⟨_,_,_,_,aK,_⟩:=hn aX b fU hr;exact aK k j af
   ·obtain⟨rfl,_⟩:=h.fr.trd k j aX i b af ua;exact J (lO.2 ⟨_,hm,rfl⟩)
  rcases I with⟨ft,bS⟩|⟨rfl,S,s1,bS⟩<;>rcases aa with⟨eM,bY⟩|⟨rfl,iR,s2,bY⟩
  ·exact h.fr.trd k j aX dj b bS bY
  ·exact(mixed k j dj iR ft bS s2 bY).elim
  ·exact(mixed aX dj j S eM bY s1 bS).elim
  ·exact⟨rfl,FC uc p nd rd (fun k J=>J) j dj S iR s1 s2 b bS bY⟩
 ·rcases af with⟨_,af⟩|⟨_,S,fT,af⟩
  ·exact h.fr.trb k j b af
  ·rcases Ax j S b fT af with⟨aX,fU,hr⟩|⟨aX,i,hm,ua⟩
   ·obtain⟨_,_,aa,ak,_⟩:=hn aX b fU hr;exact⟨.inr aa,ak⟩
   ·have:=h.fr.trb aX i b ua;exact⟨.inr (this.1.resolve_left (EN _ ok _ hm)),this.2⟩
 ·rcases af with⟨_,af⟩|⟨rfl,_⟩
  ·exact h.fr.trn k j b af
  ·exact⟨AE.1,AE.2.1⟩
 ·simp only[nn];split
  ·rename_i e;subst e;exact Rp
  ·rw[IH];exact ub _ _ (h.slot i)
 ·have aH:fresh st.n st.o k:=oh (Nat.le_succ _) (fun _ h=>h) J;obtain⟨ft,eM,hK⟩:=h.new k aH;refine⟨ft,eM,fun j b af=>?_⟩;rcases af with⟨_,af⟩|⟨rfl,_⟩
  ·exact hK j b af
  ·have:=J.1;simp only at this;omega
 ·obtain⟨ah,aE⟩:=h.ext x ad;refine⟨oB (S:=fun k=>k∉N) (w:=w) (ν:=ν) (w':=w) (ν':=μ) ⟨fun b o h=>⟨.inl h,rfl⟩,fun _ _ _ h=>h,fun g n u _ h=>⟨n,u,h,.inl ⟨rfl,rfl⟩⟩,fun _ _ _=>rfl,fun k j b J af=>.inl ⟨J,af⟩⟩ _ _ (l6 (fun k J aR=>Js k aR J) _ aE) ah,aE⟩
end
section
open Go Go.RowKit
def wS(m:Nat)(ops:Array Oper):Bool:=(List.range (ops.size-m)).all fun j=>(List.range (m+j)).all fun i=>((lG [] ops.toList).getD (m+j) 0).testBit i
theorem Mc{m:Nat}{ops:Array Oper}(h:wS m ops=true){k i:Nat}(J:m<=k)(iW:k<ops.size)(aB:i<k):((lG [] ops.toList).getD k 0).testBit i=true:=by unfold wS at h;simp only[kj,List.mem_range]at h;have:=h (k-m) Ω i Ω;rwa[show m+(k-m)=k by omega]at this
theorem By{ops:Array Oper}{listed:Array Bool}(cO:listed.size=ops.size){i:Nat}(aB:i∈pQ .any ops listed):∃h:i<ops.size,listed.getD i false=false/\∀e∈(ops[i]'h).after.toList,pP .any e=true->listed.getD e.on false=true:=by
 unfold pQ at aB;simp only[List.mem_filter,List.mem_range,bA,oO]at aB;obtain⟨I,aa,ak⟩:=aB;refine⟨I,?_,fun e he af=>?_⟩
 ·simp only[mg]at aa⊢;rw[mh Ω]at aa⊢;simpa using aa
 ·rw[mh I]at ak;simp only[mZ,oP]at ak;rw[<-Array.all_toList,kj]at ak;simpa[af]using ak e he
theorem rY.set{ops:Array Oper}{listed:Array Bool}{i:Nat}(aB:i<listed.size)(aF:rY ops listed)(sE:∀o,ops[i]? =some o->∀e∈o.after.toList,pP .any e=true->listed.getD e.on false=true):rY ops (listed.setIfInBounds i true):=by
 intro k o J aA e he af;rw[sn aB]at aA⊢;split
 ·rfl
 ·by_cases jm:i=k
  ·subst jm;exact sE o J e he af
  ·rw[be jm]at aA;exact aF k o J aA e he af
theorem VD{P:bp}{ops:Array Oper}{m0:Nat}(vQ:wS m0 ops=true)(p8:qS 0 ops.toList=true){Q:Exit->Act->World->Prop}:∀(fuel m:Nat) (listed:Array Bool) (a:Act) (w:World),m0<=m->listed.size=ops.size->rY ops listed->(∀j,j<m->j<ops.size->listed.getD j false=true)->(∀j,m<=j->listed.getD j false=false)->ops.size<=m+fuel->
  wpOps P ops Q (List.range' m (ops.size-m)) a w->wpAny P .any ops Q fuel listed a w:=by
 intro fuel;induction fuel with
 |zero=>
  intro m listed a w hm cO aF aA aR aH hw;have e:ops.size-m=0:=Ω
  rw[e]at hw;refine⟨?_,hw⟩;rw[List.eq_nil_iff_forall_not_mem];intro i aB;obtain⟨I,aa,_⟩:=By cO aB;rw[aA i Ω I]at aa;cases aa
 |succ fuel a8=>
  intro m listed a w hm cO aF aA aR aH hw;by_cases Yw:ops.size<=m
  ·have e:ops.size-m=0:=Ω
   rw[e]at hw;refine⟨fun _=>hw,fun i aB=>?_⟩;obtain⟨I,aa,_⟩:=By cO aB;rw[aA i Ω I]at aa;cases aa
  ·have hH:m<ops.size:=Ω
   have hT:m∈pQ .any ops listed:=by
    unfold pQ;simp only[List.mem_filter,List.mem_range,bA,oO];refine⟨hH,?_,?_⟩
    ·have:=aR m (cE _);simp only[mg]at this⊢;rw[mh Ω]at this⊢;simpa using this
    ·rw[mh hH];simp only[mZ,oP];rw[<-Array.all_toList,kj];intro e he;by_cases af:pP .any e=true
     ·have bU:=zE p8 m ops[m] (by simp[hH]) e he af;have:=aA e.on Ω Ω;simp[this]
     ·simp[af]
   refine⟨fun h=>(by rw[h]at hT;simp at hT),fun i aB=>?_⟩;obtain⟨I,aa,ak⟩:=By cO aB;have Jj:ops[i]? =some ops[i]:=mh I;have Ry:i=m:=by
    rcases Nat.lt_trichotomy i m with h|h|h
    ·rw[aA i h I]at aa;cases aa
    ·exact h
    ·have:=AX aF i ops[i] Jj ak m (Mc vQ Ω I h);rw[aR m (cE _)]at this;cases this
   subst Ry;rw[show ops.size-i=(ops.size-(i+1))+1 by omega,List.range'_succ,wpOps_cons]at hw;refine wpOp_mono (fun bE w' sS=>?_) hw;exact a8 (i+1) _ bE w' Ω (by simpa using cO) (aF.set Ω fun o ag=>(by rw[Jj]at ag;cases ag;exact ak)) (fun j av gu=>(by
     rw[sn Ω];split
     ·rfl
     ·exact aA j Ω gu)) (fun j av=>(by rw[sn Ω,be Ω];exact aR j Ω)) Ω sS
theorem M8{P:bp}{aW:List (Nat×cm)}(au:dJ P aW=true){C:dh}{q:Bool}{n0:Nat}{ops:Array Oper}{gs ts:List b2}(hj:hf C.N aW ops.toList (gs++ts) ops.toList=true)(p8:qS 0 ops.toList=true)(x6:s8 [] gs (lG [] ops.toList)=true)
  (vQ:wS gs.length ops=true) {K:cf->Prop} {Q:Exit->Act->World->Prop}
  (ku:∀A a w,K A->pV C A a w->wpOps P ops Q (List.range' gs.length (ops.size-gs.length)) a w):
  ∀(fuel:Nat) (listed:Array Bool) (A:cf) (a:Act) (w:World),listed.size=ops.size->rY ops listed->(∀j,gs.length<=j->listed.getD j false=false)->(rem listed 0 gs).length+ts.length<=fuel->pY P q n0 K (rem listed 0 gs) A->pV C A a w->wpAny P .any ops Q fuel listed a w:=by
 have hlen:gs.length+ts.length=ops.size:=by simpa using xH hj
 have hF:∀(fuel:Nat) (listed:Array Bool) (A:cf) (a:Act) (w:World),listed.size=ops.size->rY ops listed->(∀j,gs.length<=j->listed.getD j false=false)->rem listed 0 gs=[]->ts.length<=fuel->pY P q n0 K (rem listed 0 gs) A->pV C A a w->wpAny P .any ops Q fuel listed a w:=by
  intro fuel listed A a w cO aF aR ph aH jk hr;have jJ:∀j,j<gs.length->listed.getD j false=true:=fun j av=>by
   cases af:listed.getD j false with
   |true=>rfl
   |false=>obtain⟨kl,kT,g,_,aE,_⟩:=yO Ω af gs 0 Ω Ω;rw[ph]at aE;simp at aE
  rw[ph]at jk;exact VD vQ p8 fuel gs.length listed a w (cE _) cO aF (fun j av _=>jJ j av) aR Ω (ku A a w jk hr)
 intro fuel;induction fuel with
 |zero=>intro listed A a w cO aF aR aH jk hr;exact hF 0 listed A a w cO aF aR (pS Ω) Ω jk hr
 |succ fuel a8=>
  intro listed A a w cO aF aR aH jk hr;by_cases ph:rem listed 0 gs=[]
  ·exact hF _ listed A a w cO aF aR ph (by rw[ph]at aH;simpa using aH) jk hr
  have vL:∃i g,i<gs.length/\gs[i]? =some g/\listed.getD i false=false/\∀j,j<i->listed.getD j false=true:=by
   rcases E9 (l:=listed) gs 0 with h|⟨i,g,I,aa,ak,aK⟩
   ·exact absurd h ph
   ·exact⟨i,g,I,aa,by simpa using ak,fun j av=>by simpa using aK j av⟩
  refine⟨fun h=>?_,fun i aB=>?_⟩
  ·exfalso;obtain⟨i,g,I,aa,ak,aK⟩:=vL;have aB:i<ops.size:=Ω
   have hT:i∈pQ .any ops listed:=by
    unfold pQ;simp only[List.mem_filter,List.mem_range,bA,oO];refine⟨aB,?_,?_⟩
    ·simp only[mg]at ak⊢;rw[mh Ω]at ak⊢;simpa using ak
    ·rw[mh aB];simp only[mZ,oP];rw[<-Array.all_toList,kj];intro e he;by_cases af:pP .any e=true
     ·have bU:=zE p8 i ops[i] (by simp[aB]) e he af;have:=aK e.on Ω;simp[this]
     ·simp[af]
   rw[h]at hT;simp at hT
  ·obtain⟨I,x0,sE⟩:=By cO aB;have ag:ops[i]? =some ops[i]:=mh I;have k4:i<gs.length:=by
    rcases Nat.lt_or_ge i gs.length with h|h
    ·exact h
    ·obtain⟨j,g,kE,jt,uv,YQ⟩:=vL;have:=AX aF i ops[i] ag sE j (Mc vQ h I Ω);rw[uv]at this;cases this
   obtain⟨kl,kT,g,ah,aE,bg,cB⟩:=yO Ω x0 gs 0 Ω Ω;simp only[Nat.sub_zero]at ah cB;rw[aE]at jk;obtain⟨x,ad,Dd⟩:=Ci kl kT A (fun y bk=>by
    obtain⟨f1,f2,f3,f4⟩:=cB y bk;rcases EY x6 i g ah y.1 y.2 (by simpa using f3) (by simpa using f1)with h|h
    ·have:=AX aF i ops[i] ag sE y.1 h;rw[f4]at this;cases this
    ·exact h) jk
   obtain⟨o',g1,g2⟩:=C3 hj i g (by rw[nS k4];exact ah);have:o'=ops[i]:=by rw[Array.getElem?_toList,ag]at g1;exact(iN g1).symm
   subst this;refine Gr au ag g2 ad hr fun bE w' bG=>?_;refine a8 (listed.setIfInBounds i true) (A.do x) bE w' (by simpa using cO) (aF.set Ω fun o J=>(by rw[ag]at J;cases J;exact sE)) (fun j av=>(by rw[sn Ω,be Ω];exact aR j av)) ?_ (by rw[bg];exact Dd) bG;rw[bg];rw[aE]at aH;simp at aH⊢;omega
theorem O7{P:bp}(hm:P.follows .mixedOrders=true){aW:List (Nat×cm)}(au:dJ P aW=true){C:dh}{q:Bool}{nw:List Nat}{id:Nat}{ops:Array Oper}{gs ts:List b2}(hj:hf C.N aW ops.toList (gs++ts) ops.toList=true)(p8:qS 0 ops.toList=true)(x6:s8 [] gs (lG [] ops.toList)=true)
  (vQ:wS gs.length ops=true) (fJ:sc C.N gs=true)
  {K1:aN->Prop} {Q:Exit->Act->World->Prop}
  (ku:∀st' bE w' ν',K1 st'->bH C st' bE w' ν'->wpOps P ops Q (List.range' gs.length (ops.size-gs.length)) bE w')
  {st:aN} {a:Act} {w:World} {ν:aD} (DB:∀j∈nw,.obj j∉st.o) (he:fI P q nw st.n gs st (mm (st.n+C.N) (nw.map aq.obj++st.o) K1)) (hr:bH C st a w ν):(Code.region id ops true).wp P Q a w:=by
 refine wp_region_any hm ?_;have bG:bH C st a {w with drawn:=w.drawn+1} ν:=hr.drawn _;let A:cf:=⟨fun i=>get i st.t,fun k=>look k st.b,fun k=>look k st.e,fresh st.n st.o⟩
 have lx:nV nw st.n C.N st.o st A:=⟨⟨fun _=>rfl,fun _=>rfl,fun _=>rfl⟩,rfl,fun k J _=>J,fun k J=>.inl J⟩;have jk:=vq gs 0 fJ st A lx (fun j av _ _=>⟨trivial,DB j av⟩) he;have h3:∀j,(nQ ops.size false).getD j false=false:=fun j=>by simp[mg,Array.getElem?_replicate];split<;>rfl
 refine M8 au hj p8 x6 vQ (q:=q) (n0:=st.n) (K:=fun A'=> ∃st',mm (st.n+C.N) (nw.map aq.obj++st.o) K1 st'/\nV nw st.n C.N st.o st' A') ?_ ops.size _ A a _ Ψ ?_ (fun j _=>h3 j) ?_ (by rw[yN gs _ 0 h3];exact jk) ⟨st,ν,lx.like,fun k J=>J,bG⟩
 ·rintro A' bE w' ⟨st',J,bL⟩ ⟨Vt,ν',gM,C7,jq⟩;refine ku _ bE w' ν' J ⟨jq.good.like (fun k=>by rw[gM.b,<-bL.like.b]) (fun k=>by rw[gM.e,<-bL.like.e]),jq.fr,jq.defers,jq.size,fun i=>?_,fun k nr=>?_,jq.ext,fun m hm aH=>bG.obk m hm (oh (Nat.le_add_right _ _) (fun _ h=>iz _ h) aH)⟩
  ·have:=jq.slot i;rw[gM.t,<-bL.like.t]at this;exact this
  ·refine jq.new k (C7 k (bL.F k ?_ fun j av e=>nr.2 (by subst e;exact kk _ (List.mem_map_of_mem av))));simp only at nr;refine⟨(oh (Nat.le_add_right st.n C.N) (fun _ h=>h) nr).1,fun hT=>?_⟩;rcases bL.o k hT with h|⟨d,aF,rfl⟩|⟨j,av,rfl⟩;rotate_left 2
   ·exact nr.2 (kk _ (List.mem_map_of_mem av))
   ·exact nr.2 (iz _ h)
   ·have:=nr.1;simp at this;omega
 ·intro k o J aA;rw[h3]at aA;cases aA
 ·rw[yN gs _ 0 h3];have:∀(gs:List b2) k,(rX k gs).length=gs.length:=by
   intro gs;induction gs with
   |nil=>intro k;rfl
   |cons g r a8=>intro k;simp[rX,a8]
  rw[this];have:=xH hj;simp at this;omega
def jg:List ab->Prop
 |[]=>True
 |p::aZ=>(match p with| .slice _ _ xs=>xs.length<=bX| .str s=>s.length<=bX|_=>True)/\jg aZ
def jE:ab->Prop
 | .slice _ _ xs=>xs.length<=bX
 | .str s=>s.length<=bX
 | .agg cs=>jg cs
 |_=>True
def jf:List ab->Prop
 |[]=>True
 |p::r=>jE p/\jf r
theorem Ff{w:World}{ν:aD}:∀{cs:List ab} {us:List Value},bV w ν cs us->jg cs
 |[],_,_=>trivial
 |c::cs,us,h=>by
  simp only[bV]at h;obtain⟨u,a6,_,I,aa⟩:=h;refine⟨?_,Ff aa⟩;cases c<;>simp only<;>have ak:=I.1<;>simp only[aw]at ak
  ·exact ak.2
  ·obtain⟨⟨a,cap,_,_,aK,_⟩,_⟩:=ak;exact aK.2
theorem Fa{w:World}{ν:aD}{cs:List ab}{us:List Value}(h:gJ w ν cs us):fm cs=true->jg cs:=fun aY=>by rw[lk aY]at h;exact Ff h
theorem LF{w:World}{ν:aD}{p:ab}{v:Value}(h:aw w ν p v):jE p:=by
 cases p<;>simp only[jE]<;>simp only[aw]at h
 ·exact h.2
 ·obtain⟨⟨a,cap,_,_,aK,_⟩,_⟩:=h;exact aK.2
 ·obtain⟨us,_,aa⟩:=h;exact Ff aa
theorem Fi{w:World}{ν:aD}:∀{cs:List ab} {us:List Value},bP w ν cs us->jf cs
 |[],_,_=>trivial
 |c::cs,us,h=>by simp only[bP]at h;obtain⟨u,a6,_,I,aa⟩:=h;exact⟨LF I,Fi aa⟩
inductive C where
 |skip
 |region (gs:List b2)
 |drawn (q:Bool) (N:Nat) (gs:List b2)
 |drawnW (nw:List Nat) (N:Nat) (gs:List b2)
 |drawnL (q:Bool) (N:Nat) (gs ts:List b2)
 |seq (a b:C)
 |cond (x:cg) (t e:C)
 |block (id:Nat) (c:C)
 |loop (c:C)
 |exit (id:Nat)
 |ret
 |pub (s:Nat) (c:C)
 |pubB (s:Nat) (c:C)
 |fg (mJ:Bool) (s:Nat) (c:C)
 |fz (agg:Bool) (s:Nat) (c:C)
 |fd (s:Nat) (c:C)
 |no
def yF(st:aN):ab->aV (ab×List (aq×cq))
 | .row sz k n=>match look k st.e with
  |some ⟨n',el,cD,some xs⟩=>if n'=n/\cD=sz then some (.slice sz (.own k) xs,ck k ⟨n,el,sz,none⟩ st.e)else none
  |_=>none
 |_=>none
def s9(st:aN)(s:Nat):aV aN:=
 match yF st (get s st.t)with
 |some (p,e)=>some {st with t:=put s p st.t,e:=e}
 |none=>none
def wx(st:aN)(s:Nat):aV aN:=
 match get (s%1000) st.t with
 | .ptr k off=>match look k st.b with
  |some cs=>match cs[off+s/1000]? with
   |some p=>match yF st p with
    |some (ma,e)=>if fm cs then some {st with b:=ck k (cs.set (off+s/1000) ma) st.b,e:=e}else none
    |none=>none
   |none=>none
  |none=>none
 |_=>none
theorem Bz{C:dh}{st:aN}{a:Act}{w:World}{ν:aD}(h:bH C st a w ν){s:Nat}{p:ab}(ao:aw w ν p (a.tmps.getD s undef)):bH C {st with t:=put s p st.t} a w ν:=by
 refine⟨h.good,h.fr,h.defers,h.size,fun i=>?_,h.new,h.ext,h.obk⟩;have:=h.slot i;simp only[nn];split
 ·rename_i e;subst e;exact ao
 ·exact this
theorem K6{C:dh}{st:aN}{a:Act}{w:World}{ν:aD}(h:bH C st a w ν){p ma:ab}{e:List (aq×cq)}{v:Value}(aY:aw w ν p v)(he:yF st p=some (ma,e)):
  ∃ν',bH C {st with e:=e} a w ν'/\aw w ν' ma v/\km w ν w ν':=by
 unfold yF at he;split at he
 ·rename_i sz k n;split at he
  ·rename_i n' el cD xs J;split at he
   ·rename_i az;obtain⟨rfl,rfl⟩:=az;cases he;simp only[aw]at aY;obtain⟨_,aA,n0,u,I,aa,ak⟩:=aY;obtain⟨v0,dX,bJ,cj,de,du⟩:=h.good.own k _ J;rw[I]at bJ;simp only[dv,hx]at bJ;obtain⟨rfl,rfl⟩:=bJ;have aL:v=u:=ak rfl;subst aL;obtain⟨cy,_,_⟩:=du xs rfl;simp only at cy;obtain⟨g1,g2⟩:=h.publish J rfl I (by rw[cy];exact aA);refine⟨_,g1,g2,⟨fun b o aT=>⟨.inl aT,rfl⟩,fun j b _ av=>av,fun g n u _ hk=>⟨n,u,?_,.inl ⟨rfl,rfl⟩⟩,fun _ _ _=>rfl,fun _ _ _ _ h=>h⟩⟩;simp only[aD.withRowOf];split
    ·rename_i e;subst e;rw[I]at hk;exact hk
    ·exact hk
   ·cases he
  ·cases he
 ·cases he
def vx(mJ:Bool):ab->ab
 | .slice sz tag xs=>.slice sz (if mJ then tag else .no) (bz xs)
 |p=>bC p
theorem P8{w:World}{ν:aD}{mJ:Bool}{p:ab}{v:Value}(h:aw w ν p v):aw w ν (vx mJ p) v:=by
 have I:=tc p v h;cases p with
 |slice sz tag xs=>
  simp only[vx];cases mJ with
  |false=>simpa only[ia,if_false,bC]using I
  |true=>
   simp only[if_true];simp only[aw,bC]at h I⊢;refine⟨I.1,fun e=>h.2.1 e,fun g e=>?_,fun k j e=>?_,fun k e=>?_⟩
   ·obtain⟨n,u,ah,aE,bg⟩:=h.2.2.1 g e;exact⟨n,u,ah,by rw[kf];exact aE,by rw[kf];exact bg⟩
   ·exact xE _ _ (h.2.2.2.1 k j e)
   ·exact xE _ _ (h.2.2.2.2 k e)
 |_=>exact I
theorem Uw{C:dh}{st st':aN}{a:Act}{w:World}{ν:aD}(h:bH C st a w ν){s:Nat}(he:s9 st s=some st'):∃ν',bH C st' a w ν':=by
 unfold s9 at he;split at he
 ·rename_i p e aY;cases he;obtain⟨ν',I,aa,_⟩:=K6 h (h.slot s) aY;exact⟨_,Bz I aa⟩
 ·cases he
theorem LA{w:World}{ν:aD}:∀{cs:List ab} {us:List Value} {i:Nat} {p q:ab} {v:Value},bV w ν cs us->cs[i]? =some p->us[i]? =some v->aw w ν q v->bV w ν (cs.set i q) us
 |[],_,_,_,_,_,_,h,_,_=>by simp at h
 |c::cs,us,0,p,q,v,h,_,aL,bj=>by simp only[bV]at h;obtain⟨u,a6,rfl,I,aa⟩:=h;simp only[List.getElem?_cons_zero,dv]at aL;subst aL;simp only[List.set_cons_zero,bV];exact⟨_,_,rfl,⟨bj,I.2⟩,aa⟩
 |c::cs,us,i+1,p,q,v,h,aY,aL,bj=>by simp only[bV]at h;obtain⟨u,a6,rfl,I,aa⟩:=h;simp only[List.set_cons_succ,bV];exact⟨_,_,rfl,I,LA aa (by simpa using aY) (by simpa using aL) bj⟩
theorem Uv{C:dh}{st st':aN}{a:Act}{w:World}{ν:aD}(h:bH C st a w ν){s:Nat}(he:wx st s=some st'):∃ν',bH C st' a w ν':=by
 unfold wx at he;split at he
 ·rename_i k TL J;generalize TL+s/1000=off at he;split at he
  ·rename_i cs ch;split at he
   ·rename_i p aY;split at he
    ·rename_i ma e DE;split at he
     ·rename_i hl;cases he;obtain⟨bl,us,el,g1,g2,g3,g4,g5⟩:=h.good.box k cs ch;rw[lk hl]at g5;have bU:off<us.toList.length:=by rw[mQ g5];exact(fG.1 aY).1
      obtain⟨v,aL⟩:∃v,us.toList[off]? =some v:=⟨_,eh bU⟩;have DK:aw w ν p v:=by have:=wH off g5;rw[pR (fG.1 aY).1,pR bU]at this;simp only[bV]at this;obtain⟨u,a6,ah,aE,_⟩:=this;rw[(fG.1 aY).2]at aE;rw[(fG.1 aL).2]at ah;cases ah;exact aE.1
      obtain⟨ν',I,aa,ak⟩:=K6 h DK DE;have vP:bV w ν' (cs.set off ma) us.toList:=LA (Lz ak g5) aY aL aa;have JC:=qu vP;refine⟨ν',⟨I.good.alt,fun j cn av=>?_,fun j dj b av jM=>I.good.inj j dj b ?_ ?_,I.good.own,I.good.oinj,fun g j n v b aP av=>I.good.obx g j n v b aP ?_,I.good.one,fun bl af=>I.good.otr bl (af.imp (fun⟨aX,bt,a2⟩=>⟨aX,by rw[hJ]at bt;split at bt;(rename_i e;subst e;simp[ch]);exact bt,a2⟩) id)⟩,I.fr,I.defers,I.size,I.slot,I.new,I.ext,I.obk⟩
      ·simp only at av;rw[hJ]at av;split at av
       ·rename_i e;subst e;cases av;obtain⟨fC,a6,dQ,f1,f2,f3,f4,f5⟩:=I.good.box k cs ch;have:fC=bl:=by have:=ak.bx k bl trivial g1;rw[this]at f1;cases f1;rfl
        subst this;rw[lJ hl]at g4 f4;rw[g4]at f4;injection f4 with f4;injection f4 with f4 f6 f7;refine⟨fC,us,el,f1,f2,f3,by rw[lJ JC];exact g4,by rw[lk JC];exact vP⟩
       ·exact I.good.box j cn av
      ·simp only at av;rw[hJ]at av;split at av
       ·rename_i e;subst e;simp[ch]
       ·exact av
      ·simp only at jM;rw[hJ]at jM;split at jM
       ·rename_i e;subst e;simp[ch]
       ·exact jM
      ·simp only at av;rw[hJ]at av;split at av
       ·rename_i e;subst e;simp[ch]
       ·exact av
     ·cases he
    ·cases he
   ·cases he
  ·cases he
 ·cases he
def p0{α:Type}(k:aq)(l:List (aq×α)):List (aq×α):=match l with
 |[]=>[]
 |(i,x)::r=>if i=k then p0 k r else(i,x)::p0 k r
theorem Ep{α:Type}(k j:aq):∀l:List (aq×α),look j (p0 k l)=if j=k then none else look j l
 |[]=>by simp[p0,look]
 |(i,x)::r=>by
  simp only[p0];by_cases h:i=k
  ·subst h;rw[if_pos rfl,Ep i j r];by_cases aa:j=i
   ·simp[aa]
   ·have:¬i=j:=fun e=>aa e.symm;simp[look,aa,this]
  ·rw[be h];simp only[look];by_cases aa:i=j
   ·subst aa;simp[h]
   ·simp only[aa,if_false];exact Ep k j r
def CY(agg:Bool):List ab->aV ab
 |[p]=>if agg then some (.agg [p])else some p
 |cs=>if agg then some (.agg cs)else none
def sj(st:aN)(agg:Bool)(s:Nat):aV aN:=
 match get s st.t with
 | .ptr k 0=>match look k st.b with
  |some cs=>if fm cs then match CY agg cs with
    |some x=>some {st with t:=put s (.eptr x) st.t,b:=p0 k st.b}
    |none=>none
   else none
  |none=>none
 |_=>none
theorem Ul{u:Value}(h:u.oneCell'=true):u.cells.toList=[u]:=by cases u<;>first|rfl|(simp[Value.oneCell']at h)
theorem Kl{w:World}{A:Nat->Nat->Prop}{b:Nat}{us:Array Value}{el:eU}(af:w.heap[b]? =some (.cells us el))(aT:∀o,o<us.size->A b o):∀(vs:List Value) (off:Nat),us.toList.drop off=vs->h5 w A b off vs
 |[],_,_=>trivial
 |v::vs,off,h=>by
  have bU:off<us.toList.length:=by
   rcases Nat.lt_or_ge off us.toList.length with I|I
   ·exact I
   ·rw[List.drop_eq_nil_of_le I]at h;cases h
  have aa:=pR bU;rw[h]at aa;injection aa with aa ak;refine⟨⟨aT off (by simpa using bU),?_⟩,Kl af aT vs (off+1) ak.symm⟩;have RQ:off<us.size:=by simpa using bU
  simp only[World.cell?,af,qF,ia,if_false];rw[aa];simp[RQ]
theorem Qm{C:dh}{st st':aN}{a:Act}{w:World}{ν:aD}(h:bH C st a w ν){agg:Bool}{s:Nat}(he:sj st agg s=some st'):∃ν',bH C st' a w ν':=by
 unfold sj at he;split at he
 ·rename_i k J;split at he
  ·rename_i cs ch;split at he
   ·rename_i hl;split at he
    ·rename_i x ad;cases he;obtain⟨bl,us,el,g1,g2,g3,g4,g5⟩:=h.good.box k cs ch;rw[lk hl]at g5;rw[lJ hl]at g4;have bU:bl<w.heap.size:=by
      rcases Nat.lt_or_ge bl w.heap.size with I|I
      ·exact I
      ·rw[Array.getElem?_eq_none I]at g4;cases g4
     let ν':aD:={ν with A:=fun b o=>ν.A b o\/(b=bl/\o<us.size)}
     have ag:km w ν w ν':=⟨fun b o aT=>⟨.inl aT,rfl⟩,fun j b _ av=>av,fun g n u _ hk=>⟨n,u,hk,.inl ⟨rfl,rfl⟩⟩,fun _ _ _=>rfl,fun _ _ _ _ h=>h⟩;have fV:∀j cn,look j (p0 k st.b)=some cn->j≠k/\look j st.b=some cn:=fun j cn av=>by
      rw[Ep]at av;split at av
      ·cases av
      ·rename_i e;exact⟨e,av⟩
     have nt:∀j,(look j (p0 k st.b)).isSome->(look j st.b).isSome:=fun j av=>by obtain⟨cn,fJ⟩:=ei.1 av;simp[(fV j cn fJ).2]
     have ly:∀(g:aq) (n:Nat) (v:Value),(look g st.e).isSome->ν.ow g=some (n,v)->v.ownBlock=some bl->cw:=fun g n v I aa ak=>h.good.obx g k n v bl I (by simp[ch]) aa ak g1;have kD:aw w ν' (.eptr x) (a.tmps.getD s undef):=by
      have ao:=h.slot s;rw[J]at ao;simp only[aw]at ao⊢;obtain⟨fh,bJ,cj⟩:=ao;rw[g1]at bJ;cases bJ;have aA:h5 w ν'.A bl 0 us.toList:=Kl g4 (fun o ag=>.inr ⟨rfl,ag⟩) _ 0 rfl;have g6:bV w ν' cs us.toList:=Lz ag g5;unfold CY at ad;split at ad
      ·rename_i p;simp only[bV]at g6;obtain⟨u,a6,ah,aE,bg⟩:=g6;subst bg;split at ad
       ·cases ad;exact⟨bl,0,.agg us,cj,by simp only[aw];exact⟨us,rfl,by rw[ah];simp only[bV];exact⟨u,[],rfl,aE,rfl⟩⟩,by simpa[mj]using aA⟩
       ·cases ad;refine⟨bl,0,u,cj,aE.1,?_⟩;rw[Ul aE.2,<-ah];exact aA
      ·split at ad
       ·cases ad;exact⟨bl,0,.agg us,cj,by simp only[aw];exact⟨us,rfl,g6⟩,by simpa[mj]using aA⟩
       ·cases ad
     refine⟨ν',Bz (ν:=ν') (st:={st with b:=p0 k st.b}) ⟨⟨fun b o aT=>?_,fun j cn av=>?_,fun j dj b I aa=>h.good.inj j dj b (nt j I) (nt dj aa),fun g o aP=>?_,h.good.oinj,fun g j n v b I aa=>h.good.obx g j n v b I (nt j aa),h.good.one,fun b au=>h.good.otr b (au.imp (fun⟨j,bt,a2⟩=>⟨j,nt j bt,a2⟩) id)⟩,⟨h.fr.os,h.fr.tape,h.fr.output,h.fr.size,h.fr.block,fun b o aT=>⟨.inl (h.fr.keep b o aT).1,(h.fr.keep b o aT).2⟩,fun b o aT=>?_,h.fr.obj,h.fr.obn,h.fr.row,h.fr.obr,h.fr.trd,h.fr.trb,h.fr.trn,h.fr.sh,h.fr.nrow⟩,h.defers,h.size,fun i=>rC ag (h.slot i),h.new,fun x ad=>⟨rC ag (h.ext x ad).1,(h.ext x ad).2⟩,h.obk⟩ kD⟩
     ·rcases aT with aT|⟨rfl,_⟩
      ·exact h.good.alt b o aT
      ·exact bU
     ·obtain⟨b7,jM⟩:=fV j cn av;obtain⟨fC,a6,dQ,f1,f2,f3,f4,f5⟩:=h.good.box j cn jM;refine⟨fC,a6,dQ,f1,f2,fun o aT=>?_,f4,nH ag f5⟩;rcases aT with aT|⟨rfl,_⟩
      ·exact f3 o aT
      ·exact b7 (h.good.inj j k _ (by simp[jM]) (by simp[ch]) f1 g1)
     ·obtain⟨v0,dX,ah,aE,bg,cB⟩:=h.good.own g o aP;have sx:∀b,v0.ownBlock=some b->∀j,ν'.A b j->ν.A b j:=fun b af j aT=>by
       rcases aT with aT|⟨rfl,_⟩
       ·exact aT
       ·exact(ly g _ v0 (by simp[aP]) ah af).elim
      exact⟨v0,dX,ah,aE,fun b af=>⟨(bg b af).1,fun j aT=>(bg b af).2 j (sx b af j aT)⟩,pJ ag sx cB⟩
     ·rcases aT with aT|⟨rfl,_⟩
      ·exact h.fr.fresh b o aT
      ·exact .inr g2
    ·cases he
   ·cases he
  ·cases he
 ·cases he
def pI(st:aN)(x:cg)(b:Bool):aN:=match x with
 | .t i=>{st with t:=put i (.bool b) st.t}
 | .c _=>st
def nE(nw:List Nat)(o:List aq):List Nat:=nw.filter fun j=>decide (aq.obj j∉o)
theorem TE{nw:List Nat}{o:List aq}:∀j∈nE nw o,aq.obj j∉o:=fun j av=>by have:=(List.mem_filter.1 av).2;simpa using this
def b3(P:bp)(ob:List aq):C->(Exit->aN->Prop)->aN->Prop
 | .skip,Q,st=>Q .normal st
 | .region gs,Q,st=>fp P ob gs st (Q .normal)
 | .drawn q N gs,Q,st=>fI P q [] st.n gs st (mm (st.n+N) st.o (Q .normal))
 | .drawnW nw N gs,Q,st=>fI P false (nE nw st.o) st.n gs st (mm (st.n+N) ((nE nw st.o).map aq.obj++st.o) (Q .normal))
 | .drawnL q N gs ts,Q,st=>fI P q [] st.n gs st (mm (st.n+N) st.o (fun st'=>fp P ob ts st' (Q .normal)))
 | .seq a b,Q,st=>b3 P ob a (fun e st'=>match e with| .normal=>b3 P ob b Q st'|e=>Q e st') st
 | .cond x t e,Q,st=>match bh st.t x with
  | .bool b=>(b=true->b3 P ob t Q (pI st x true))/\(b=false->b3 P ob e Q (pI st x false))
  |_=>cw
 | .block id c,Q,st=>b3 P ob c (fun e st'=>match e with| .exit j=>if j=id then Q .normal st' else Q (.exit j) st'|e=>Q e st') st
 | .loop c,Q,st=> ∃(hX:Nat->aN->Prop) (m:Nat) (tg:aN),hQ ob st tg/\hX m tg/\
   ∀k s,hX k s->(∀i,jE (get i s.t))->(∀j cs,look j s.b=some cs->fm cs=true->jg cs)->b3 P ob c (fun e aj=>match e with| .normal=> ∃aX mc,aX<k/\hQ ob aj mc/\hX aX mc|e=>Q e aj) s
 | .exit id,Q,st=>Q (.exit id) st
 | .ret,Q,st=>Q .ret st
 | .pub s c,Q,st=>match s9 st s with
  |some st'=>b3 P ob c Q st'
  |none=>cw
 | .pubB s c,Q,st=>match wx st s with
  |some st'=>b3 P ob c Q st'
  |none=>cw
 | .fg mJ s c,Q,st=>b3 P ob c Q {st with t:=put s (vx mJ (get s st.t)) st.t}
 | .fd s c,Q,st=>tT ob st s/\b3 P ob c Q (si st s)
 | .fz er s c,Q,st=>match sj st er s with
  |some st'=>b3 P ob c Q st'
  |none=>cw
 | .no,_,_=>cw
def fi(N:Nat)(aW:List (Nat×cm)):C->Code->Bool
 | .skip,.skip=>true
 | .region gs,.region _ ops false=>hf N aW ops.toList gs ops.toList
 | .drawn _ N' gs,.region _ ops true=>N'==N&&hf N aW ops.toList gs ops.toList&&xe gs ops.toList&&sc N gs
 | .drawnW _ N' gs,.region _ ops true=>N'==N&&hf N aW ops.toList gs ops.toList&&xe gs ops.toList&&sc N gs
 | .drawnL _ N' gs ts,.region _ ops true=>N'==N&&hf N aW ops.toList (gs++ts) ops.toList&&qS 0 ops.toList&&s8 [] gs (lG [] ops.toList)&&sc N gs&&wS gs.length ops
 | .seq a b,.seq x y=>fi N aW a x&&fi N aW b y
 | .cond x t e,.cond o t' fS=>c8 x o&&fi N aW t t'&&fi N aW e fS
 | .block id c,.block yl fY=>id==yl&&fi N aW c fY
 | .loop c,.loop fY=>fi N aW c fY
 | .exit id,.exit yl=>id==yl
 | .ret,.ret=>true
 | .pub _ c,fY=>fi N aW c fY
 | .pubB _ c,fY=>fi N aW c fY
 | .fg _ _ c,fY=>fi N aW c fY
 | .fz _ _ c,fY=>fi N aW c fY
 | .fd _ c,fY=>fi N aW c fY
 | .no,_=>true
 |_,_=>false
theorem C4{N:Nat}{aW:List (Nat×cm)}{ops:List Oper}:∀{gs:List b2} {os:List Oper},hf N aW ops gs os=true->gs.length=os.length
 |[],[],_=>rfl
 |[],_::_,h=>by simp[hf]at h
 |_::_,[],h=>by simp[hf]at h
 |g::gs,o::os,h=>by simp only[hf,bA]at h;simp[C4 h.2]
theorem IX{N:Nat}{aW:List (Nat×cm)}{ops:List Oper}{ts:List b2}:∀(gs:List b2) (os:List Oper),hf N aW ops (gs++ts) os=true->hf N aW ops ts (os.drop gs.length)=true
 |[],os,h=>by simpa using h
 |_::_,[],h=>by simp[hf]at h
 |g::gs,o::os,h=>by simp only[eI,hf,bA]at h;simpa using IX gs os h.2
def B3(P:bp)(C:dh)(c:Code)(Q:Exit->aN->Prop)(st:aN):Prop:= ∀a w ν,bH C st a w ν->c.wp P (fun e bE w'=> ∃st' ν',Q e st'/\bH C st' bE w' ν') a w
theorem lv{P:bp}(hm:P.follows .mixedOrders=true){aW:List (Nat×cm)}(au:dJ P aW=true){X:dh}:∀(c:C) (code:Code) (Q:Exit->aN->Prop) (st:aN),fi X.N aW c code=true->b3 P X.ob c Q st->B3 P X code Q st
 | .skip,code,Q,st,ag,he=>by
  cases code<;>simp only[fi]at ag<;>try cases ag
  intro a w ν hr;exact wp_skip ⟨st,ν,he,hr⟩
 | .region gs,code,Q,st,ag,he=>by
  cases code<;>try(simp[fi]at ag;done)
  rename_i id ops draw;cases draw<;>simp only[fi]at ag
  ·intro a w ν hr;refine wp_region ?_;have aA:gs.length=ops.size:=by simpa using C4 ag
   rw[List.range_eq_range',<-aA];exact CQ au (K:=Q .normal) (fun st' bE w' ν' I aa=>⟨st',ν',I,aa⟩) gs ops.toList 0 Ψ ag st a w ν he hr
  ·cases ag
 | .drawn q N gs,code,Q,st,ag,he=>by
  cases code<;>try(simp[fi]at ag;done)
  rename_i id ops draw;cases draw<;>simp only[fi]at ag
  ·cases ag
  ·simp only[bA,df]at ag;obtain⟨⟨⟨rfl,I⟩,aa⟩,ak⟩:=ag;intro a w ν hr;exact H9 hm au I aa ak (nw:=[]) (K:=Q .normal) (fun st' bE w' ν' I aa=>⟨st',ν',I,aa⟩) Ψ he hr
 | .drawnW nw N gs,code,Q,st,ag,he=>by
  cases code<;>try(simp[fi]at ag;done)
  rename_i id ops draw;cases draw<;>simp only[fi]at ag
  ·cases ag
  ·simp only[bA,df]at ag;obtain⟨⟨⟨rfl,I⟩,aa⟩,ak⟩:=ag;intro a w ν hr;exact H9 hm au I aa ak (nw:=nE nw st.o) (K:=Q .normal) (fun st' bE w' ν' I aa=>⟨st',ν',I,aa⟩) TE he hr
 | .drawnL q N gs ts,code,Q,st,ag,he=>by
  cases code<;>try(simp[fi]at ag;done)
  rename_i id ops draw;cases draw<;>simp only[fi]at ag
  ·cases ag
  ·simp only[bA,df]at ag;obtain⟨⟨⟨⟨⟨rfl,I⟩,aa⟩,ak⟩,aK⟩,bb⟩:=ag;intro a w ν hr;have aA:gs.length+ts.length=ops.size:=by simpa using C4 I
   refine O7 hm au I aa ak bb aK (nw:=[]) (K1:=fun st'=>fp P X.ob ts st' (Q .normal)) (fun st' bE w' ν' J bG=>?_) Ψ he hr;rw[show ops.size-gs.length=ts.length by omega];exact CQ au (K:=Q .normal) (fun st' bE w' ν' I aa=>⟨st',ν',I,aa⟩) ts (ops.toList.drop gs.length) gs.length (fun j=>by rw[List.getElem?_drop];simp) (IX gs ops.toList I) st' bE w' ν' J bG
 | .seq x y,code,Q,st,ag,he=>by
  cases code<;>try(simp[fi]at ag;done)
  rename_i oa iT;simp only[fi,bA]at ag;intro a w ν hr;refine wp_seq ?_;have I:=lv hm au x oa _ st ag.1 he a w ν hr;refine wp_mono I fun e bE w' bq=>?_;obtain⟨st',ν',bj,bG⟩:=bq;cases e with
  |normal=>exact lv hm au y iT Q st' ag.2 bj bE w' ν' bG
  |_=>exact⟨st',ν',bj,bG⟩
 | .cond x t e,code,Q,st,ag,he=>by
  cases code<;>try(simp[fi]at ag;done)
  rename_i o N9 ce;simp only[fi,bA]at ag;intro a w ν hr;simp only[b3]at he;have ad:=da hr ag.1.1;split at he
  ·rename_i b af;rw[af]at ad;simp only[aw]at ad;have x9:bH X (pI st x b) a w ν:=by
    unfold pI;split
    ·exact E8 hr (by simpa[bh]using af)
    ·exact hr
   refine wp_cond ad ?_;cases b
   ·exact lv hm au e ce Q _ ag.2 (he.2 rfl) a w ν x9
   ·exact lv hm au t N9 Q _ ag.1.2 (he.1 rfl) a w ν x9
  ·exact he.elim
 | .block id c,code,Q,st,ag,he=>by
  cases code<;>try(simp[fi]at ag;done)
  rename_i yl fY;simp only[fi,bA,df]at ag;obtain⟨rfl,ag⟩:=ag;intro a w ν hr;refine wp_block ?_;refine wp_mono (lv hm au c fY _ st ag he a w ν hr) fun e bE w' bq=>?_;obtain⟨st',ν',bj,bG⟩:=bq;cases e with
  |exit j=>
   simp only[Exit.inBlock]at bj⊢;by_cases av:j=id
   ·rw[if_pos av]at bj⊢;exact⟨st',ν',bj,bG⟩
   ·rw[be av]at bj⊢;exact⟨st',ν',bj,bG⟩
  |_=>exact⟨st',ν',bj,bG⟩
 | .loop c,code,Q,st,ag,he=>by
  cases code<;>try(simp[fi]at ag;done)
  rename_i fY;simp only[fi]at ag;intro a w ν hr;simp only[b3]at he;obtain⟨hX,m,tg,hw,aB,po⟩:=he;refine wp_loop_ghost (fun k a w=> ∃s ν,hX k s/\bH X s a w ν) m ⟨tg,_,aB,hr.weaker hw⟩ ?_;intro k a w QV;obtain⟨s,ν,ao,lD⟩:=QV;have I:=po k s ao (fun i=>LF (lD.slot i)) (fun j cs av=>by obtain⟨bl,us,el,_,_,_,_,g5⟩:=lD.good.box j cs av;exact Fa g5);refine wp_mono (lv hm au c fY _ s ag I a w ν lD) fun e bE w' bq=>?_;obtain⟨st',ν',bj,bG⟩:=bq;cases e with
  |normal=>obtain⟨aX,mc,ah,aE,bg⟩:=bj;exact⟨aX,ah,mc,_,bg,bG.weaker aE⟩
  |_=>exact⟨st',ν',bj,bG⟩
 | .exit id,code,Q,st,ag,he=>by
  cases code<;>try(simp[fi]at ag;done)
  rename_i yl;simp only[fi,df]at ag;subst ag;intro a w ν hr;exact wp_exit ⟨st,ν,he,hr⟩
 | .ret,code,Q,st,ag,he=>by
  cases code<;>try(simp[fi]at ag;done)
  intro a w ν hr;exact wp_ret ⟨st,ν,he,hr⟩
 | .pub s c,code,Q,st,ag,he=>by
  simp only[fi]at ag;simp only[b3]at he;split at he
  ·rename_i st' ao;intro a w ν hr;obtain⟨ν',I⟩:=Uw hr ao;exact lv hm au c code Q st' ag he a w ν' I
  ·exact he.elim
 | .pubB s c,code,Q,st,ag,he=>by
  simp only[fi]at ag;simp only[b3]at he;split at he
  ·rename_i st' ao;intro a w ν hr;obtain⟨ν',I⟩:=Uv hr ao;exact lv hm au c code Q st' ag he a w ν' I
  ·exact he.elim
 | .fg mJ s c,code,Q,st,ag,he=>by simp only[fi]at ag;simp only[b3]at he;intro a w ν hr;exact lv hm au c code Q _ ag he a w ν (Bz hr (P8 (hr.slot s)))
 | .fd s c,code,Q,st,ag,he=>by simp only[fi]at ag;simp only[b3]at he;intro a w ν hr;obtain⟨ν',I⟩:=Ii hr he.1;exact lv hm au c code Q _ ag he.2 a w ν' I
 | .fz er s c,code,Q,st,ag,he=>by
  simp only[fi]at ag;simp only[b3]at he;intro a w ν hr;split at he
  ·rename_i st' fe;obtain⟨ν',I⟩:=Qm hr fe;exact lv hm au c code Q st' ag he a w ν' I
  ·exact he.elim
 | .no,code,Q,st,ag,he=>by simp only[b3]at he
inductive cr where
 |tmp (i:Nat)
 |cell (i:Nat) (agg:Bool) (sz:Nat)
def bc(st:aN):cr->aV (Prop×ab)
 | .tmp i=>some (True,get i st.t)
 | .cell i agg sz=>kG st.b st.e agg sz (get i st.t)
def ba(st:aN):List cr->aV (Prop×List ab)
 |[]=>some (True,[])
 |r::cA=>match bc st r,ba st cA with
  |some (c,p),some (fY,aZ)=>some (c/\fY,p::aZ)
  |_,_=>none
def mb(aW:List (Nat×cm)):List cr->List ResultVar->Bool
 |[],[]=>true
 | .tmp i::cA,.tmp j::os=>i==j&&mb aW cA os
 | .cell i agg sz::cA,.cell j t::os=>i==j&&(match cW aW t with|some f=>f.size==sz&&f.kind.isAgg==agg|none=>false)&&mb aW cA os
 |_,_=>false
def a1:List ab->ab
 |[p]=>p
 |aZ=>.tuple aZ
def BK(tmps:Array Value):ResultVar->Sem Value
 | .tmp t=>pure (tmps.getD t undef)
 | .cell x t=>do loadVar t (<-asAddr (tmps.getD x undef))
theorem Fl(fn:Func)(tmps:Array Value):results fn tmps=(do let vs<-fn.results.mapM (BK tmps);pure (if h:vs.size=1 then vs[0]else .tuple vs)):=by unfold results;congr 2
theorem yS{P:bp}{aW:List (Nat×cm)}(au:dJ P aW=true){X:dh}{st:aN}{a:Act}{w:World}{ν:aD}(hr:bH X st a w ν):
  ∀(cA:List cr) (os:List ResultVar) (c:Prop) (aZ:List ab),mb aW cA os=true->ba st cA=some (c,aZ)->c->
  ∃vs,(os.mapM (BK a.tmps)).run P w= .ok vs w/\bP w ν aZ vs
 |[],[],c,aZ,_,he,_=>by simp only[ba]at he;cases he;exact⟨[],Ψ,by simp[bP]⟩
 |[],_::_,_,_,ag,_,_=>by simp[mb]at ag
 | .tmp _::_,[],_,_,ag,_,_=>by simp[mb]at ag
 | .cell _ _ _::_,[],_,_,ag,_,_=>by simp[mb]at ag
 |r::cA,o::os,c,aZ,ag,he,az=>by
  simp only[ba]at he;split at he
  ·rename_i cM p c2 K5 I aa;cases he;cases r with
   |tmp i=>
    cases o with
    |cell _ _=>simp[mb]at ag
    |tmp j=>simp only[mb,bA,df]at ag;obtain⟨rfl,ag⟩:=ag;simp only[bc]at I;cases I;obtain⟨vs,g1,g2⟩:=yS au hr cA os c2 K5 ag aa az.2;refine⟨a.tmps.getD i undef::vs,?_,by simp only[bP];exact⟨_,_,rfl,hr.slot i,g2⟩⟩;simp only[List.mapM_cons,ee,BK,eT,eg,g1]
   |cell i agg sz=>
    cases o with
    |tmp _=>simp[mb]at ag
    |cell j t=>
     simp only[mb,bA,df]at ag;obtain⟨⟨rfl,ak⟩,ag⟩:=ag;split at ak
     ·rename_i f aH;simp only[bA,df]at ak;obtain⟨rfl,rfl⟩:=ak;simp only[bc]at I;obtain⟨vs,g1,g2⟩:=yS au hr cA os c2 K5 ag aa az.2;obtain⟨v,f1,f2⟩:=AU au hr.good aH (hr.slot i) I az.1;have x7:∃j0,a.tmps.getD i undef= .pointer (some j0):=by
       have ao:=hr.slot i;unfold kG at I;split at I
       ·rename_i cD k n jr gG J;rw[J]at ao;simp only[aw]at ao;obtain⟨⟨b,o,e⟩,_⟩:=ao;exact⟨_,e⟩
       ·rename_i k off J;rw[J]at ao;simp only[aw]at ao;obtain⟨b,_,e⟩:=ao;exact⟨_,e⟩
       ·rename_i q J;rw[J]at ao;simp only[aw]at ao;obtain⟨b,off,u,e,_⟩:=ao;exact⟨_,e⟩
       ·cases I
      obtain⟨j0,I7⟩:=x7;rw[I7]at f1;simp only[Instr.loadAt,Instr.sureAddr,ee,eT,eg]at f1;refine⟨v::vs,?_,by simp only[bP];exact⟨_,_,rfl,f2,g2⟩⟩;have Q0:(asAddr (.pointer (some j0)):Sem Addr).run P w= .ok j0 w:=rfl;simp only[List.mapM_cons,ee,BK,eT,eg,g1,I7,Q0,f1]
     ·cases ak
  ·cases he
theorem rA{w:World}{ν:aD}:∀{aZ:List ab} {vs:List Value},bP w ν aZ vs->vs.length=aZ.length
 |[],vs,h=>by simp only[bP]at h;subst h;rfl
 |p::aZ,vs,h=>by simp only[bP]at h;obtain⟨u,a6,rfl,_,aa⟩:=h;simp[rA aa]
def gW:Nat->List ab->List (Nat×ab)
 |_,[]=>[]
 |i,p::aZ=>(i,p)::gW (i+1) aZ
theorem vA:∀(aZ:List ab) (i j:Nat),get j (gW i aZ)=if i<=j/\j<i+aZ.length then aZ.getD (j-i) .junk else .junk
 |[],i,j=>by simp[gW,get]
 |p::aZ,i,j=>by
  simp only[gW,get];by_cases h:i=j
  ·subst h;simp
  ·rw[be h,vA aZ (i+1) j];by_cases aa:i<=j/\j<i+(p::aZ).length
   ·rw[if_pos aa,if_pos (by simp at aa⊢;omega)];have:j-i=(j-(i+1))+1:=Ω
    rw[this];simp
   ·rw[be aa,be (by simp at aa⊢;omega)]
def kF{α:Type}(aj:cZ):List (aq×α)->Prop
 |[]=>True
 |(k,_)::r=>aG aj k/\kF aj r
theorem uw{α:Type}{aj:cZ}:∀{l:List (aq×α)},kF aj l->∀k,(look k l).isSome->aG aj k
 |[],_,k,h=>by simp[look]at h
 |(i,x)::r,J,k,h=>by
  simp only[kF]at J;simp only[look]at h;split at h
  ·rename_i e;subst e;exact J.1
  ·exact uw J.2 k h
def ev(cA:List cr)(s:cZ)(Q:ab->cZ->Prop)(e:Exit)(st:aN):Prop:=
 (e= .ret\/e= .normal)/\match ba st cA with
  |some (c,aZ)=>c/\∃aj,kF aj s.b/\kF aj s.e/\mT (aG aj) aj.b st.b/\nL (aG aj) aj.e st.e/\gw aj/\kin (aG aj) (bC (a1 aZ))/\Q (bC (a1 aZ)) aj
  |none=>cw
theorem cS.ofW{P:bp}{aW:List (Nat×cm)}(au:dJ P aW=true){f:FuncId}{fn:Func}(aH:P.funcs[f]? =some fn){code:Code}(af:fn.body=some code)(fL:(fn.name== "runtime.NumGoroutine")=false){cA:List cr}(lD:mb aW cA fn.results.toList=true)
  {args:List ab} (aA:args.length<=fn.ntmps) {s:cZ} (iZ:gw s) {Q:ab->cZ->Prop} (he:∀X:dh,X.N=fn.ntmps->X.ob=dG s->X.ex=[]->(∀b o,X.ν0.A b o->b<X.w0.heap.size)->jf args->(∀j cs,look j s.b=some cs->fm cs=true->jg cs)->B3 P X code (ev cA s Q) ⟨gW 0 args,s.b,s.e,0,dG s⟩):cS P f args s Q:=by
 intro w ν vs gl aP ad hr;refine .inl ⟨⟨fn,aH,by simp[af],fL⟩,?_⟩;have q9:=rA hr;have fl:vs.size=args.length:=by simpa using q9
 let X:dh:=⟨w,ν,eZ ν s,fn.ntmps,dG s,gl,[]⟩
 have h3:∀k,fresh 0 (dG s) k->ν.bx k=none/\ν.ow k=none/\∀j b,¬ν.tr k j b:=by
  intro k J;cases k with
  |loc m=>exact⟨(ad _).1 (iZ.1 m),(ad _).2.1 (iZ.2 m),(ad _).2.2⟩
  |obj m=>
   simp only[fresh,true_and]at J;refine⟨?_,?_,(ad _).2.2⟩
   ·refine(ad _).1 ?_;cases h:look (.obj m) s.b with
    |none=>rfl
    |some x=>exact absurd (rr (.inl (by simp[h]))) J
   ·refine(ad _).2.1 ?_;cases h:look (.obj m) s.e with
    |none=>rfl
    |some x=>exact absurd (rr (.inr (by simp[h]))) J
 have jL:∀m,(ν.bx (.obj m)≠none\/ν.ow (.obj m)≠none)-> .obj m∈dG s:=by
  intro m hm;refine Classical.byContradiction fun az=>?_;obtain⟨I,aa,_⟩:=h3 (.obj m) ⟨trivial,az⟩;rcases hm with hm|hm
  ·exact hm I
  ·exact hm aa
 have k7:bH X ⟨gW 0 args,s.b,s.e,0,dG s⟩ {tmps:=vs++nQ (fn.ntmps-vs.size) undef,defers:=[]} w ν:=by
  refine⟨⟨aP.alt,fun k cs J=>?_,aP.inj,fun g o ea=>?_,aP.oinj,aP.obx,aP.one,aP.otr⟩,⟨rfl,rfl,rfl,cE _,fun _ _ _=>rfl,fun b o h=>⟨h,rfl⟩,fun b o h=>.inl h,fun n b h=>h,fun n b h=>jL n (.inl (by rw[h];simp)),fun m n u h=>⟨n,u,h,.inl ⟨rfl,rfl⟩⟩,fun m n u h=>jL m (.inr (by rw[h];simp)),fun k j _ _ b h=>absurd h ((ad k).2.2 j b),fun k j b h=>absurd h ((ad k).2.2 j b),fun k j b h=>absurd h ((ad k).2.2 j b),fun _ _ _=>rfl,fun j n u b ah _=>(by rw[(ad _).2.1 (iZ.2 j)]at ah;cases ah)⟩,rfl,?_,fun i=>?_,h3,fun _ ad=>(by cases ad),fun m hm aH=>aH.2 hm⟩
  ·obtain⟨bl,us,el,g1,g2,g3⟩:=aP.box k cs J;exact⟨bl,us,el,g1,.inl g2,g3⟩
  ·obtain⟨v,us,g1,g2,g3,g4⟩:=aP.own g o ea;exact⟨v,us,g1,g2,fun bl eE=>⟨.inl (g3 bl eE).1,(g3 bl eE).2⟩,g4⟩
  ·show(vs++nQ (fn.ntmps-vs.size) undef).size=fn.ntmps;simp;omega
  ·rw[vA];by_cases aB:i<args.length
   ·rw[if_pos Ω];have l3:args[i]? =some args[i]:=eh aB;obtain⟨v,ah,aE⟩:=wJ i hr l3;have aL:(vs++nQ (fn.ntmps-vs.size) undef).getD i undef=v:=by
     have se:vs[i]? =some v:=by simpa using ah
     rw[mg,Array.getElem?_append_left Ω,se];rfl
    show aw w ν _ ((vs++nQ (fn.ntmps-vs.size) undef).getD i undef);rw[aL];simpa[List.getD,l3]using aE
   ·rw[be Ω];simp[aw]
 have yj:=he X rfl rfl rfl aP.alt (Fi hr) (fun j cs av=>by obtain⟨bl,us,el,_,_,_,_,g5⟩:=aP.box j cs av;exact Fa g5) _ w ν k7;refine calls_of_wp aH af (wp_mono yj fun e bE w' bq=>?_);obtain⟨st',ν',⟨iC,bj⟩,bG⟩:=bq;cases gf:ba st' cA with
 |none=>simp[gf]at bj
 |some x=>
  obtain⟨fY,aZ⟩:=x;simp only[gf]at bj;obtain⟨jj,aj,kb,ke,bJ,cj,de,du,cy⟩:=bj;obtain⟨gV,g1,g2⟩:=yS au bG cA fn.results.toList fY aZ lD gf jj;have DI:=rA g2;have jK:bE.defers=[]/\∃v,(results fn bE.tmps).run P w'= .ok v w'/\(fun(e:Ending) w'=> ∃v r aj ν',e= .returned v/\Q r aj/\aw w' ν' r v/\Good (fun bl=>eZ ν s bl\/w.heap.size<=bl) w' ν' aj.b aj.e/\oZ ν' aj/\gw aj/\mo ⟨w,ν,eZ ν s,0,dG s,gl,[]⟩ w' ν') (.returned v) w':=by
   refine⟨bG.defers,?_⟩;have fy:(results fn bE.tmps).run P w'= .ok (if h:gV.toArray.size=1 then gV.toArray[0]else .tuple gV.toArray) w':=by rw[Fl];simp only[ee,Array.mapM_eq_mapM_toList,Sem.run_map,g1,eg,eT]
   refine⟨_,fy,_,bC (a1 aZ),aj,ν'.cut (aG aj),rfl,cy,?_,bG.good.cut bJ cj (fun bl h _=>h),?_,de,?_⟩
   ·have hZ:aw w' ν' (a1 aZ) (if h:gV.toArray.size=1 then gV.toArray[0]else .tuple gV.toArray):=by
     match aZ,gV,g2,DI with
     |[p],[v],g2,_=>simp only[bP]at g2;obtain⟨u,a6,ah,aE,_⟩:=g2;cases ah;simpa[a1]using aE
     |[],[],g2,_=>simp[a1,aw,bP]
     |p::gz::aZ,v::v2::gV,g2,_=>rw[dif_neg Ψ];simp only[a1,aw];exact⟨_,rfl,by simpa using g2⟩
     |[_],[],_,h=>simp at h
     |[],_::_,_,h=>simp at h
     |[_],_::_::_,_,h=>simp at h
     |_::_::_,[],_,h=>simp at h
     |_::_::_,[_],_,h=>simp at h
    exact oB (kU.cut _ w' ν') _ _ du (tc _ _ hZ)
   ·intro k;refine⟨?_,?_,?_⟩;rotate_left 2
    ·rintro j b ⟨ao,af⟩;obtain⟨t1,t2⟩:=bG.fr.trn k j b af;rcases ao with ao|ao<;>obtain⟨x,nx⟩:=ei.1 ao
     ·obtain⟨bl,a6,el,ah,_⟩:=bG.good.box k x (bJ k x nx).1;rw[t1]at ah;cases ah
     ·obtain⟨v',a6,ah,_⟩:=bG.good.own k x (cj k x nx).1;rw[t2]at ah;cases ah
    ·intro J;by_cases ao:aG aj k
     ·rw[aD.cut_bx ao];rcases ao with ao|ao
      ·rw[J]at ao;cases ao
      ·obtain⟨x,nx⟩:=ei.1 ao;obtain⟨v',a6,ah,_⟩:=bG.good.own k x (cj k x nx).1;rcases bG.good.one k with I|I
       ·exact I
       ·rw[I]at ah;cases ah
     ·exact(aD.cut_no ao).1
    ·intro J;by_cases ao:aG aj k
     ·rw[aD.cut_ow ao];rcases ao with ao|ao
      ·obtain⟨x,nx⟩:=ei.1 ao;obtain⟨bl,a6,el,ah,_⟩:=bG.good.box k x (bJ k x nx).1;rcases bG.good.one k with I|I
       ·rw[I]at ah;cases ah
       ·exact I
      ·rw[J]at ao;cases ao
     ·exact(aD.cut_no ao).2.1
   ·refine⟨bG.fr.os,bG.fr.tape,bG.fr.output,bG.fr.size,bG.fr.block,bG.fr.keep,bG.fr.fresh,fun n b h=>?_,fun n b h=>jL n (.inl (by rw[h];simp)),fun m n u h=>?_,fun m n u h=>jL m (.inr (by rw[h];simp)),fun k j aX dj b I aa=>bG.fr.trd k j aX dj b I.2 aa.2,fun k j b af=>bG.fr.trb k j b af.2,fun k j b af=>(by rw[aD.cut_bx af.1,aD.cut_ow af.1];exact bG.fr.trn k j b af.2),bG.fr.sh,fun j n u b ah aE=>bG.fr.nrow j n u b (aD.cut_someO ah).2 aE⟩
    ·have ao:aG aj (.obj n):=by
      cases aA:look (.obj n) s.b with
      |none=>rw[(ad _).1 aA]at h;cases h
      |some x=>exact uw kb _ (by simp[aA])
     rw[aD.cut_bx ao];exact bG.fr.obj n b h
    ·have ao:aG aj (.obj m):=by
      cases aA:look (.obj m) s.e with
      |none=>rw[(ad _).2.1 aA]at h;cases h
      |some x=>exact uw ke _ (by simp[aA])
     rw[aD.cut_ow ao];exact bG.fr.row m n u h
  rcases iC with rfl|rfl<;>exact jK
theorem cS.of{P:bp}(hm:P.follows .mixedOrders=true){aW:List (Nat×cm)}(au:dJ P aW=true){f:FuncId}{fn:Func}(aH:P.funcs[f]? =some fn){code:Code}(af:fn.body=some code)(fL:(fn.name== "runtime.NumGoroutine")=false){c:C}(az:fi fn.ntmps aW c code=true){cA:List cr}(lD:mb aW cA fn.results.toList=true)
  {args:List ab} (aA:args.length<=fn.ntmps) {s:cZ} (iZ:gw s) {Q:ab->cZ->Prop} (he:jf args->(∀j cs,look j s.b=some cs->fm cs=true->jg cs)->b3 P (dG s) c (ev cA s Q) ⟨gW 0 args,s.b,s.e,0,dG s⟩):cS P f args s Q:=
 cS.ofW au aH af fL lD aA iZ fun X j5 iF _ _ I aa=>lv hm au c code _ _ (by rw[j5];exact az) (by rw[iF];exact he I aa)
def c6(aW:List (Nat×cm))(c:C)(cA:List cr)(EE:Nat)(fn:Func):Bool:=
 match fn.body with
 |some code=>fi fn.ntmps aW c code&&mb aW cA fn.results.toList&& !(fn.name== "runtime.NumGoroutine")&&decide (EE<=fn.ntmps)
 |none=>false
theorem cS.mk{P:bp}(hm:P.follows .mixedOrders=true){aW:List (Nat×cm)}(au:dJ P aW=true){f:FuncId}{fn:Func}(aH:P.funcs[f]? =some fn){c:C}{cA:List cr}{n:Nat}(dM:c6 aW c cA n fn=true)
  {args:List ab} (aA:args.length<=n) {s:cZ} (iZ:gw s) {Q:ab->cZ->Prop} (he:jf args->(∀j cs,look j s.b=some cs->fm cs=true->jg cs)->b3 P (dG s) c (ev cA s Q) ⟨gW 0 args,s.b,s.e,0,dG s⟩):cS P f args s Q:=by
 unfold c6 at dM;split at dM
 ·rename_i code af;simp only[bA,oO,fH]at dM;obtain⟨⟨⟨I,aa⟩,ak⟩,aK⟩:=dM;exact cS.of hm au aH af ak I aa (Nat.le_trans aA aK) iZ he
 ·cases dM
theorem oz:gw ⟨[],[]⟩:=⟨fun _=>rfl,fun _=>rfl⟩
def ca(cA:List cr)(r:ab)(e:Exit)(st:aN):Prop:=
 (e= .ret\/e= .normal)/\match ba st cA with
  |some (c,aZ)=>c/\bC (a1 aZ)=r
  |none=>cw
theorem Gv{cA:List cr}{r:ab}(hr:kin (fun _=>cw) r):ca cA r=ev cA ⟨[],[]⟩ (fun cv aj=>cv=r/\aj=⟨[],[]⟩):=by
 funext e st;unfold ca ev;apply propext;refine and_congr_right fun _=>?_;cases ba st cA with
 |none=>exact Iff.rfl
 |some x=>
  obtain⟨c,aZ⟩:=x;refine and_congr_right fun _=>?_;constructor
  ·intro h;refine⟨⟨[],[]⟩,trivial,trivial,fun k cs J=>by simp[look]at J,fun k cs J=>by simp[look]at J,oz,?_,h,rfl⟩;rw[h];exact l6 (fun k J=>J.elim) r hr
  ·rintro⟨aj,_,_,_,_,_,_,h,_⟩;exact h
theorem b5.mk{P:bp}(hm:P.follows .mixedOrders=true){aW:List (Nat×cm)}(au:dJ P aW=true){f:FuncId}{fn:Func}(aH:P.funcs[f]? =some fn){c:C}{cA:List cr}{n:Nat}(dM:c6 aW c cA n fn=true)
  {args:List ab} (aA:args.length<=n) {r:ab} (hr:kin (fun _=>cw) r) (he:jf args->b3 P [] c (ca cA r) ⟨gW 0 args,[],[],0,[]⟩):b5 P f args r:=by
 refine cS.mk hm au aH dM aA oz fun I _=>?_;rw[<-Gv hr];exact he I
theorem wZ{α:Type}{β:Type}:∀l:List (aq×α),bs ([]:List (aq×β)) l=l
 |[]=>rfl
 |(k,x)::r=>by simp[bs,look,wZ r]
theorem CallDo.val{P:bp}{n:Nat}{args:List ab}{st:aN}{d:aV Nat}{K:aN->Prop}{r:ab}(J:kinL (fun _=>cw) args)(aH:b5 P n args r)(h:K {st with t:=eD d r st.t}):CallDo P n args st d K:=by
 refine .inl ⟨⟨[],[]⟩,_,fun k cs J=>by simp[look]at J,fun k cs J=>by simp[look]at J,oz,lF (fun _ h=>h.elim) _ J,aH,?_⟩;rintro cv aj ⟨rfl,rfl⟩;refine⟨⟨fun m h=>by simp[look]at h,fun m h=>by simp[look]at h⟩,?_⟩;have:after st ⟨[],[]⟩ ⟨[],[]⟩ d cv={st with t:=eD d cv st.t}:=by simp[after,wZ,dG]
 rw[this];exact h
@[reducible,simp] def cQ(n:Int):cg:= .c (.int .i64 n)
@[reducible,simp] def ae(a b:Nat):b2:=⟨none,.s (.v a (.mov (.t b)))⟩
@[reducible,simp] def a7(a:Nat)(i:eY):b2:=⟨none,.s (.v a i)⟩
@[reducible,simp] def eu(i:cX):b2:=⟨none,.s i⟩
@[reducible,simp] def mf(a f:Nat)(l:List cg):b2:=⟨none,.call (some a) (.c (.func f [])) l⟩
@[reducible,simp] def b0(j:Nat)(w:Bool)(a b:Nat):b2:=⟨some (j,w),.s (.v a (.mov (.t b)))⟩
@[reducible,simp] def lL(j:Nat)(w:Bool)(a:Nat)(i:eY):b2:=⟨some (j,w),.s (.v a i)⟩
@[reducible,simp] def ys(j:Nat)(w:Bool)(i:cX):b2:=⟨some (j,w),.s i⟩
@[reducible,simp] def e8(d s a b:Nat):b2:=a7 d (.iaddr s (.t a) (.t b))
@[reducible,simp] def bu(d s a:Nat):b2:=a7 d (.load false s (.t a))
@[reducible,simp] def cP(d s a:Nat):b2:=a7 d (.load true s (.t a))
@[reducible,simp] def bB(d o s a:Nat):b2:=a7 d (.faddr o false s (.t a))
@[reducible,simp] def dm(d:Nat)(o:BinOp)(a b:Nat):b2:=a7 d (.bin o false (.t a) (.t b))
@[reducible,simp] def bd(d:Nat)(o:BinOp)(a:Nat)(n:Int):b2:=a7 d (.bin o false (.t a) (cQ n))
@[reducible,simp] def dT(d a:Nat):b2:=a7 d (.len (.t a))
@[reducible,simp] def eQ(d a:Nat):b2:=a7 d (.notB (.t a))
@[reducible,simp] def ek(d i a:Nat):b2:=a7 d (.ext i (.t a))
@[reducible,simp] def ds(d a b:Nat):b2:=a7 d (.pick (.t a) (.c (.bool true)) (.t b))
@[reducible,simp] def e7(d a b:Nat):b2:=a7 d (.pick (.t a) (.t b) (.c (.bool false)))
@[reducible,simp] def bM(d:Nat)(b:Bool):b2:=a7 d (.mov (.c (.bool b)))
@[reducible,simp] def cK(d:Nat)(n:Int):b2:=a7 d (.mov (cQ n))
@[reducible,simp] def bO(s a b:Nat):b2:=eu (.store s (.t a) (.t b))
@[reducible,simp] def aM(j:Nat)(w:Bool)(x:b2):b2:=⟨some (j,w),x.i⟩
@[reducible,simp] def al(l:List b2)(c:C):C:= .seq (.region l) c
@[reducible,simp] def bf(n:Nat)(a b:C):C:= .cond (.t n) a b
@[reducible,simp] def MP(d a:Nat)(l:List cg):b2:=⟨none,.call (some d) (.t a) l⟩
@[reducible,simp] def dY(d f a:Nat):b2:=mf d f [.t a]
@[reducible,simp] def gA(d f a b:Nat):b2:=mf d f [.t a,.t b]
@[reducible,simp] def dE:List ab:=[.int .i64 0,.int .i64 0,.str [],.slice 4 .nil []]
@[reducible,simp] def hW(a b:Nat):b2:=eu (.box a none (.t b))
@[reducible,simp] def hv(a:Nat)(l:List ab):b2:=eu (.alloc a none (.agg l))
@[reducible,simp] def mY(a n:Nat):b2:=a7 a (.mov (.c (.slice n .nil [])))
@[reducible,simp] def nP(a b c d e:Nat):b2:=eu (.app a b c (.t d) (.t e))
@[reducible,simp] def h9(a b c:Nat)(l:List cg):b2:=eu (.bsl a b c l)
@[reducible,simp] def kP(a b:Nat):b2:=a7 a (.nck (.t b))
@[reducible,simp] def qE(d s a:Nat)(n:Int):b2:=a7 d (.iaddr s (.t a) (cQ n))
@[reducible,simp] def kO(d:Nat)(l:List ab)(m:List (Nat×Nat×cg)):b2:=a7 d (.build l m)
@[reducible,simp] def pN(a b c:Nat)(x:C):C:= .block 0 (.loop (al [dm a .lss b c] (.seq (bf a .skip (.exit 0)) x)))
end
section
open Go Go.RowKit
theorem hy{α:Type}{l:List α}{i:Nat}(h:i<l.length):∃b,l[i]? =some b/\∀h,(l[i]'h)=b:=⟨l[i],eh h,fun _=>rfl⟩
def Fw(st:aN)(i:cX):Prop:=match jV st i with|some (c,_)=>c|none=>cw
def Fx(st:aN)(i:cX):aN:=match jV st i with|some (_,s)=>s|none=>st
def r0(P:bp)(ob:List aq)(r:List b2)(K:aN->Prop)(st:aN):Prop:=fp P ob r st K
def tA(P:bp)(ob:List aq)(c:C)(Q:Exit->aN->Prop)(st:aN):Prop:=b3 P ob c Q st
def nk(P:bp)(ob:List aq)(v:ab)(s:Nat)(w:Bool)(i:cY)(r:List b2)(st:aN)(K:aN->Prop):Prop:=
 match v with
 | .bool b=>(b=w->fp P ob (⟨none,i⟩::r) {st with t:=put s (.bool w) st.t} K)/\(b= !w->fp P ob r {st with t:=eD i.dst (.tuple []) (put s (.bool !w) st.t)} K)
 | .tuple []=>fp P ob r {st with t:=eD i.dst (.tuple []) st.t} K
 |_=>cw
def qU(P:bp)(ob:List aq)(v:ab)(x:cg)(t e:C)(Q:Exit->aN->Prop)(st:aN):Prop:=
 match v with
 | .bool b=>(b=true->b3 P ob t Q (pI st x true))/\(b=false->b3 P ob e Q (pI st x false))
 |_=>cw
def CN(P:bp)(ob:List aq)(v:ab)(d:aV Nat)(xs:List ab)(r:List b2)(st:aN)(K:aN->Prop):Prop:=
 match v with
 | .func n cG=>CallDo P n (bz (xs++cG)) st d (r0 P ob r K)
 |_=>cw
section
variable {P:bp} {ob:List aq} {st:aN} {K:aN->Prop} {r:List b2} {Q:Exit->aN->Prop} {a b c t e:C}
theorem Pn:fp P ob [] st K=K st:=rfl
theorem Pp{i:cX}:fp P ob (⟨none,.s i⟩::r) st K=(Fw st i/\fp P ob r (Fx st i) K):=by
 simp only[fp,ni,Fw,Fx];cases jV st i with
 |none=>simp
 |some x=>rfl
theorem Pj{d:aV Nat}{f:cg}{xs:List cg}:fp P ob (⟨none,.call d f xs⟩::r) st K=CN P ob (bh st.t f) d (xs.map (bh st.t)) r st K:=by simp only[fp,ni,CN];rfl
def CP(P:bp)(ob:List aq)(v:ab)(d:aV Nat)(xs:List ab)(r:List b2)(st:aN)(K:aN->Prop):Prop:=
 match v with
 | .func n cG=>iQ P ob n (xs++cG) st d (r0 P ob r K)
 |_=>cw
theorem Po{d:aV Nat}{f:cg}{xs:List cg}:fp P ob (⟨none,.opn d f xs⟩::r) st K=CP P ob (bh st.t f) d (xs.map (bh st.t)) r st K:=by simp only[fp,ni,CP];rfl
theorem Pg{n:Nat}{cG xs:List ab}{d:aV Nat}:CP P ob (.func n cG) d xs r st K=iQ P ob n (xs++cG) st d (r0 P ob r K):=rfl
def CO(P:bp)(ob:List aq)(v:ab)(d:aV Nat)(r:List b2)(st:aN)(K:aN->Prop):Prop:=
 match v with
 | .func n cG=> ¬n<1000000/\CallDo P (rQ n) (bz cG) st d (r0 P ob r K)
 |_=>cw
theorem Pk{d:aV Nat}{f:cg}:fp P ob (⟨none,.callb d f⟩::r) st K=CO P ob (bh st.t f) d r st K:=by simp only[fp,ni,CO];rfl
theorem Pf{n:Nat}{cG:List ab}{d:aV Nat}:CO P ob (.func n cG) d r st K=(¬n<1000000/\CallDo P (rQ n) (bz cG) st d (r0 P ob r K)):=rfl
theorem VN(n:Nat):rQ n=n-1000000:=rfl
theorem Pm{d:Nat}{x:cg}:fp P ob (⟨none,.next d x⟩::r) st K=tO st d (bh st.t x) (r0 P ob r K):=by simp only[fp,ni];rfl
def u7(P:bp)(ob:List aq)(c:C)(Q:Exit->aN->Prop):aV aN->Prop
 |some st=>b3 P ob c Q st
 |none=>cw
theorem M1:u7 P ob c Q (some st)=b3 P ob c Q st:=rfl
theorem OS{s:Nat}:b3 P ob (.pub s c) Q st=u7 P ob c Q (s9 st s):=by simp only[b3];cases s9 st s<;>rfl
theorem OO{mJ:Bool}{s:Nat}:b3 P ob (.fg mJ s c) Q st=b3 P ob c Q {st with t:=put s (vx mJ (get s st.t)) st.t}:=rfl
theorem OP{mJ:Bool}{s:Nat}{d:C}:b3 P ob (.seq (.fg mJ s c) d) Q st=b3 P ob (.seq c d) Q {st with t:=put s (vx mJ (get s st.t)) st.t}:=rfl
theorem OQ{er:Bool}{s:Nat}:b3 P ob (.fz er s c) Q st=u7 P ob c Q (sj st er s):=by simp only[b3];cases sj st er s<;>rfl
theorem OR{er:Bool}{s:Nat}{d:C}:b3 P ob (.seq (.fz er s c) d) Q st=u7 P ob (.seq c d) Q (sj st er s):=by simp only[b3];cases sj st er s<;>rfl
theorem OM{s:Nat}:b3 P ob (.fd s c) Q st=(tT ob st s/\b3 P ob c Q (si st s)):=rfl
theorem ON{s:Nat}{d:C}:b3 P ob (.seq (.fd s c) d) Q st=(tT ob st s/\b3 P ob (.seq c d) Q (si st s)):=rfl
theorem OT{s:Nat}:b3 P ob (.pubB s c) Q st=u7 P ob c Q (wx st s):=by simp only[b3];cases wx st s<;>rfl
theorem Ph{n:Nat}{cG:List ab}{d:aV Nat}{xs:List ab}:CN P ob (.func n cG) d xs r st K=CallDo P n (bz (xs++cG)) st d (r0 P ob r K):=rfl
theorem Pl{s:Nat}{w:Bool}{i:cY}:fp P ob (⟨some (s,w),i⟩::r) st K=nk P ob (get s st.t) s w i r st K:=by simp only[fp,nk];try rfl
theorem Pu{s:Nat}{i:cY}:nk P ob (.bool true) s true i r st K=fp P ob (⟨none,i⟩::r) {st with t:=put s (.bool true) st.t} K:=by simp[nk]
theorem Pq{s:Nat}{i:cY}:nk P ob (.bool false) s false i r st K=fp P ob (⟨none,i⟩::r) {st with t:=put s (.bool false) st.t} K:=by simp[nk]
theorem Pt{s:Nat}{i:cY}:nk P ob (.bool true) s false i r st K=fp P ob r {st with t:=eD i.dst (.tuple []) (put s (.bool true) st.t)} K:=by simp[nk]
theorem Pr{s:Nat}{i:cY}:nk P ob (.bool false) s true i r st K=fp P ob r {st with t:=eD i.dst (.tuple []) (put s (.bool false) st.t)} K:=by simp[nk]
theorem Ps{s:Nat}{w:Bool}{i:cY}:nk P ob (.tuple []) s w i r st K=fp P ob r {st with t:=eD i.dst (.tuple []) st.t} K:=by simp[nk]
theorem dC{x:Bool}{s:Nat}{w:Bool}{i:cY}(I:x=w->fp P ob (⟨none,i⟩::r) {st with t:=put s (.bool w) st.t} K)(aa:x= !w->fp P ob r {st with t:=eD i.dst (.tuple []) (put s (.bool !w) st.t)} K):nk P ob (.bool x) s w i r st K:=⟨I,aa⟩
theorem Oz:b3 P ob (.seq (.seq a b) c) Q st=b3 P ob (.seq a (.seq b c)) Q st:=by simp only[b3];congr 1;funext e st';cases e<;>rfl
theorem OY:b3 P ob (.seq .skip c) Q st=b3 P ob c Q st:=rfl
theorem OW:b3 P ob (.seq .ret c) Q st=Q .ret st:=rfl
theorem OK{n:Nat}:b3 P ob (.seq (.exit n) c) Q st=Q (.exit n) st:=rfl
theorem OZ:b3 P ob .skip Q st=Q .normal st:=rfl
theorem OX:b3 P ob .ret Q st=Q .ret st:=rfl
theorem OL{n:Nat}:b3 P ob (.exit n) Q st=Q (.exit n) st:=rfl
theorem OU{gs:List b2}:b3 P ob (.seq (.region gs) c) Q st=fp P ob gs st (tA P ob c Q):=rfl
theorem OV{gs:List b2}:b3 P ob (.region gs) Q st=fp P ob gs st (Q .normal):=rfl
theorem OC{x:cg}:b3 P ob (.seq (.cond x t e) c) Q st=qU P ob (bh st.t x) x (.seq t c) (.seq e c) Q st:=by simp only[b3,qU];try rfl
theorem OD{x:cg}:b3 P ob (.cond x t e) Q st=qU P ob (bh st.t x) x t e Q st:=by simp only[b3,qU];try rfl
theorem O1{x:cg}:qU P ob (.bool true) x t e Q st=b3 P ob t Q (pI st x true):=by simp[qU]
theorem O0{x:cg}:qU P ob (.bool false) x t e Q st=b3 P ob e Q (pI st x false):=by simp[qU]
theorem dy{v:Bool}{x:cg}(I:v=true->b3 P ob t Q (pI st x true))(aa:v=false->b3 P ob e Q (pI st x false)):qU P ob (.bool v) x t e Q st:=⟨I,aa⟩
def u3(P:bp)(ob:List aq)(id:Nat)(c:C)(Q:Exit->aN->Prop)(e:Exit)(st:aN):Prop:=
 match e with
 | .normal=>b3 P ob c Q st
 | .exit j=>if j=id then b3 P ob c Q st else Q (.exit j) st
 |e=>Q e st
theorem OA{id:Nat}:b3 P ob (.seq (.block id a) c) Q st=b3 P ob a (u3 P ob id c Q) st:=by
 simp only[b3];congr 1;funext e st';cases e with
 |exit j=>rfl
 |_=>rfl
theorem OB{id:Nat}:b3 P ob (.block id a) Q st=b3 P ob a (u3 P ob id .skip Q) st:=by
 simp only[b3];congr 1;funext e st';cases e with
 |exit j=>simp only[u3];by_cases av:j=id<;>simp[av,b3]
 |_=>rfl
theorem MT{id:Nat}:u3 P ob id c Q .normal st=tA P ob c Q st:=rfl
theorem MS{id j:Nat}:u3 P ob id c Q (.exit j) st=if j=id then tA P ob c Q st else Q (.exit j) st:=rfl
theorem MU{id:Nat}:u3 P ob id c Q .ret st=Q .ret st:=rfl
def cF(ob:List aq)(hX:Nat->aN->Prop)(k:Nat)(Q:Exit->aN->Prop)(e:Exit)(st:aN):Prop:=
 match e with
 | .normal=> ∃aX mc,aX<k/\hQ ob st mc/\hX aX mc
 |e=>Q e st
theorem MZ{hX:Nat->aN->Prop}{k:Nat}:cF ob hX k Q .normal st= ∃aX mc,aX<k/\hQ ob st mc/\hX aX mc:=rfl
theorem MY{hX:Nat->aN->Prop}{k n:Nat}:cF ob hX k Q (.exit n) st=Q (.exit n) st:=rfl
theorem M0{hX:Nat->aN->Prop}{k:Nat}:cF ob hX k Q .ret st=Q .ret st:=rfl
theorem zH(hX:Nat->aN->Prop)(m:Nat)(tg:aN)(hw:hQ ob st tg)(bN:hX m tg)(h:∀k s,hX k s->(∀i,jE (get i s.t))->(∀j cs,look j s.b=some cs->fm cs=true->jg cs)->b3 P ob a (cF ob hX k Q) s):b3 P ob (.loop a) Q st:=by
 simp only[b3];refine⟨hX,m,tg,hw,bN,fun k s I aa ak=>?_⟩;have:=h k s I aa ak;have bj:(cF ob hX k Q)=(fun e aj=>match e with| .normal=> ∃aX mc,aX<k/\hQ ob aj mc/\hX aX mc|e=>Q e aj):=by funext e aj;cases e<;>rfl
 rw[bj]at this;exact this
end
/-Regions bK draw hi order. -/
def Fu(n0:Nat)(st:aN)(i:cX):Prop:=match dn (lu n0 i) st.n (lu n0 i::st.o) st i with|some (c,_)=>c|none=>cw
def Fv(n0:Nat)(st:aN)(i:cX):aN:=match dn (lu n0 i) st.n (lu n0 i::st.o) st i with|some (_,s)=>s|none=>st
def B8(P:bp)(q:Bool)(nw:List Nat)(n0:Nat)(r:List b2)(K:aN->Prop)(st:aN):Prop:=fI P q nw n0 r st K
def nj(P:bp)(q:Bool)(nw:List Nat)(n0:Nat)(v:ab)(s:Nat)(w:Bool)(i:cY)(r:List b2)(st:aN)(K:aN->Prop):Prop:=
 match v with
 | .bool b=>(b=w->fI P q nw n0 (⟨none,i⟩::r) {st with t:=put s (.bool w) st.t} K)/\(b= !w->fI P q nw n0 r {st with t:=eD i.dst (.tuple []) (put s (.bool !w) st.t)} K)
 | .tuple []=>fI P q nw n0 r {st with t:=eD i.dst (.tuple []) st.t} K
 |_=>cw
def CM(P:bp)(q:Bool)(nw:List Nat)(n0:Nat)(v:ab)(d:aV Nat)(xs:List ab)(r:List b2)(st:aN)(K:aN->Prop):Prop:=
 match v with
 | .func n cG=>na P q nw n (bz (xs++cG)) st d (B8 P q nw n0 r K)
 |_=>cw
section
variable {P:bp} {ob:List aq} {st:aN} {K:aN->Prop} {r:List b2} {Q:Exit->aN->Prop} {c:C} {q:Bool} {nw:List Nat} {n0 N:Nat}
theorem O5:fI P q nw n0 [] st K=K st:=rfl
theorem O6{i:cX}:fI P q nw n0 (⟨none,.s i⟩::r) st K=(iU q nw n0 st i/\Fu n0 st i/\fI P q nw n0 r (Fv n0 st i) K):=by
 simp only[fI,hz,Fu,Fv];cases dn (lu n0 i) st.n (lu n0 i::st.o) st i with
 |none=>simp
 |some x=>rfl
theorem O3{d:aV Nat}{f:cg}{xs:List cg}:fI P q nw n0 (⟨none,.call d f xs⟩::r) st K=CM P q nw n0 (bh st.t f) d (xs.map (bh st.t)) r st K:=by simp only[fI,hz,CM];rfl
theorem O2{n:Nat}{cG:List ab}{d:aV Nat}{xs:List ab}:CM P q nw n0 (.func n cG) d xs r st K=na P q nw n (bz (xs++cG)) st d (B8 P q nw n0 r K):=rfl
theorem O4{s:Nat}{w:Bool}{i:cY}:fI P q nw n0 (⟨some (s,w),i⟩::r) st K=nj P q nw n0 (get s st.t) s w i r st K:=by simp only[fI,nj];try rfl
theorem Pc{s:Nat}{i:cY}:nj P q nw n0 (.bool true) s true i r st K=fI P q nw n0 (⟨none,i⟩::r) {st with t:=put s (.bool true) st.t} K:=by simp[nj]
theorem O8{s:Nat}{i:cY}:nj P q nw n0 (.bool false) s false i r st K=fI P q nw n0 (⟨none,i⟩::r) {st with t:=put s (.bool false) st.t} K:=by simp[nj]
theorem Pb{s:Nat}{i:cY}:nj P q nw n0 (.bool true) s false i r st K=fI P q nw n0 r {st with t:=eD i.dst (.tuple []) (put s (.bool true) st.t)} K:=by simp[nj]
theorem O9{s:Nat}{i:cY}:nj P q nw n0 (.bool false) s true i r st K=fI P q nw n0 r {st with t:=eD i.dst (.tuple []) (put s (.bool false) st.t)} K:=by simp[nj]
theorem Pa{s:Nat}{w:Bool}{i:cY}:nj P q nw n0 (.tuple []) s w i r st K=fI P q nw n0 r {st with t:=eD i.dst (.tuple []) st.t} K:=by simp[nj]
theorem dB{x:Bool}{s:Nat}{w:Bool}{i:cY}(I:x=w->fI P q nw n0 (⟨none,i⟩::r) {st with t:=put s (.bool w) st.t} K)(aa:x= !w->fI P q nw n0 r {st with t:=eD i.dst (.tuple []) (put s (.bool !w) st.t)} K):nj P q nw n0 (.bool x) s w i r st K:=⟨I,aa⟩
theorem OE{gs:List b2}:b3 P ob (.seq (.drawn q N gs) c) Q st=fI P q [] st.n gs st (mm (st.n+N) st.o (tA P ob c Q)):=rfl
theorem OF{gs:List b2}:b3 P ob (.drawn q N gs) Q st=fI P q [] st.n gs st (mm (st.n+N) st.o (Q .normal)):=rfl
theorem OI{gs:List b2}:b3 P ob (.seq (.drawnW nw N gs) c) Q st=fI P false (nE nw st.o) st.n gs st (mm (st.n+N) ((nE nw st.o).map aq.obj++st.o) (tA P ob c Q)):=rfl
theorem OJ{gs:List b2}:b3 P ob (.drawnW nw N gs) Q st=fI P false (nE nw st.o) st.n gs st (mm (st.n+N) ((nE nw st.o).map aq.obj++st.o) (Q .normal)):=rfl
theorem OG{gs ts:List b2}:b3 P ob (.seq (.drawnL q N gs ts) c) Q st=fI P q [] st.n gs st (mm (st.n+N) st.o (fun st'=>fp P ob ts st' (tA P ob c Q))):=rfl
theorem OH{gs ts:List b2}:b3 P ob (.drawnL q N gs ts) Q st=fI P q [] st.n gs st (mm (st.n+N) st.o (fun st'=>fp P ob ts st' (Q .normal))):=rfl
theorem TF{o:List aq}:nE [] o=[]:=rfl
theorem TD{j:Nat}{nw:List Nat}{o:List aq}:nE (j::nw) o=if aq.obj j∈o then nE nw o else j::nE nw o:=by simp only[nE,List.filter_cons,fH,ite_not]
theorem na.val{n:Nat}{args:List ab}{d:aV Nat}{r:ab}(J:kinL (fun _=>cw) args)(aH:b5 P n args r)(h:K {st with t:=eD d r st.t}):na P q nw n args st d K:=by
 refine .inr ⟨⟨[],[]⟩,⟨[],[]⟩,r,none,fun k cs J=>by simp[look]at J,fun k cs J=>by simp[look]at J,oz,oz,⟨fun k h=>.inl h,fun k h=>.inl h,fun k h=>h,fun k h=>h,fun k h=>by cases h⟩,lF (fun _ h=>h.elim) _ J,aH,fun _=>⟨rfl,rfl⟩,?_⟩;have:({after st ⟨[],[]⟩ ⟨[],[]⟩ d r with o:=st.o}:aN)={st with t:=eD d r st.t}:=by simp[after,wZ]
 rw[this];exact h
theorem bo{n:Nat}{args:List ab}{d:aV Nat}{r:ab}(aH:b5 P n args r)(h:K {st with t:=eD d r st.t})(J:kinL (fun _=>cw) args:=by simp):na P q nw n args st d K:=na.val J aH h
end
section
variable {k:IntKind} {n:Int} {b:Bool} {s:List aC} {sz:Nat} {tag:jZ} {xs:List ab} {key:aq} {off f:Nat} {x:ab}
@[simp]theorem Z5:dP (.int k n)=true:=rfl
@[simp]theorem ZR:dP (.bool b)=true:=rfl
@[simp]theorem aac:dP (.str s)=true:=rfl
@[simp]theorem aab:dP (.slice sz tag xs)=true:=rfl
@[simp]theorem ZP:dP (.agg xs)=true:=rfl
@[simp]theorem Z9:dP (.ptr key off)=true:=rfl
@[simp]theorem ZY:dP (.eptr x)=true:=rfl
@[simp]theorem Z4{t:Nat}:dP (.iface t x)=true:=rfl
@[simp]theorem XC{t:Nat}:cells (.iface t x)=[.iface t x]:=rfl
@[simp]theorem ZU{a:aV Addr}{n c:Nat}:dP (.cst (.slice a n c))=true:=rfl
@[simp]theorem ZV{s}:dP (.cst (.string s))=true:=rfl
@[simp]theorem Z8:dP .nilp=true:=rfl
@[simp]theorem Z0:dP (.func f xs)=true:=rfl
@[simp]theorem Z3:dP (.gmap key)=true:=rfl
@[simp]theorem aaa{n:Nat}:dP (.row sz key n)=true:=rfl
@[simp]theorem XJ{n:Nat}:cells (.row sz key n)=[.row sz key n]:=rfl
@[simp]theorem XD:cells (.int k n)=[.int k n]:=rfl
@[simp]theorem Xr:cells (.bool b)=[.bool b]:=rfl
@[simp]theorem XL:cells (.str s)=[.str s]:=rfl
@[simp]theorem XK:cells (.slice sz tag xs)=[.slice sz tag xs]:=rfl
@[simp]theorem Xp:cells (.agg xs)=xs:=rfl
@[simp]theorem XI:cells (.ptr key off)=[.ptr key off]:=rfl
@[simp]theorem Xw:cells (.eptr x)=[.eptr x]:=rfl
@[simp]theorem XH:cells .nilp=[.nilp]:=rfl
@[simp]theorem Xy:cells (.func f xs)=[.func f xs]:=rfl
@[simp]theorem XB:cells (.gmap key)=[.gmap key]:=rfl
end
section
variable {b:List (aq×List ab)} {e:List (aq×cq)} {agg:Bool} {sz off:Nat} {k:aq} {p:ab} {cs xs vs:List ab} {fW:IntKind} {n i:Int} {m j:Nat} {tag:jZ} {s:List aC} {GK:Bool} {lo aB:aV ab}
@[simp]theorem Zd{cD:Nat}{f:Nat}:kG b e agg sz (.rptr cD k m j f)=uN agg sz cD m j f (look k e):=rfl
@[simp]theorem Zc:kG b e agg sz (.ptr k off)=(match look k b with
  |some cs=>if agg then some (fm cs=true/\off+sz<=cs.length,.agg ((cs.drop off).take sz))else(cs[off]?).map fun p=>(fm cs=true,p)
  |none=>none):=rfl
@[simp]theorem Zb:kG b e agg sz (.eptr p)=if agg then some (isAgg sz p,p)else some (dP p=true/\cells p=[p],p):=rfl
@[simp]theorem Yc:xD agg sz (.eptr p)=if agg then some (isAgg sz p,p)else some (dP p=true/\cells p=[p],p):=rfl
@[simp]theorem X3{o:Nat}:mx off agg sz (.ptr k o)=some (True,.ptr k (o+off)):=rfl
@[simp]theorem X4{cD f:Nat}:mx off agg sz (.rptr cD k m j f)=some (True,.rptr cD k m j (f+off)):=rfl
@[simp]theorem XV:mx off agg sz (.eptr (.agg cs))=if agg then some (off+sz<=cs.length,.eptr (.agg ((cs.drop off).take sz)))else(cs[off]?).map fun p=>(dP p=true/\cells p=[p],.eptr p):=rfl
@[simp]theorem X6:p2 off agg sz (.agg cs)=if agg then some (off+sz<=cs.length,.agg ((cs.drop off).take sz))else(cs[off]?).map fun p=>(True,p):=rfl
@[simp]theorem YC{cD:Nat}:vT sz (.slice cD tag xs) (.int fW i)=if cD=sz then some (0<=i/\i<xs.length,.eptr (xs.getD i.toNat .junk))else none:=rfl
@[simp]theorem YB{cD:Nat}:vT sz (.row cD k m) (.int fW i)=if cD=sz then some (0<=i/\i<m,.rptr cD k m i.toNat 0)else none:=rfl
@[simp]theorem Za{cD:Nat}:v8 (.slice cD tag xs)=some (True,.int .i64 xs.length):=rfl
@[simp]theorem Y9{cD:Nat}:v8 (.row cD k m)=some (True,.int .i64 m):=rfl
@[simp]theorem Y8{a:aV Addr}{n c:Nat}:v8 (.cst (.slice a n c))=some (True,.int .i64 n):=rfl
@[simp]theorem ZN{s}:y2 (.cst (.string s))=some (True,.int .i64 s.size):=rfl
@[simp]theorem ZO:y2 (.str s)=some (True,.int .i64 s.length):=rfl
@[simp]theorem XU:zK j (.tuple vs)=(vs[j]?).map fun p=>(True,p):=rfl
@[simp]theorem Zu:wh (.ptr k off)=some (True,.ptr k off):=rfl
@[simp]theorem Zs:wh (.eptr p)=some (True,.eptr p):=rfl
@[simp]theorem Zt:wh (.func j cs)=some (True,.func j cs):=rfl
@[simp]theorem Zx:A8 (.bool GK)=some (True,.bool (!GK)):=rfl
@[simp]theorem ZM:BQ (.str s) (.int fW i)=some (0<=i/\i<s.length,.int .u8 (s.getD i.toNat 0).toNat):=rfl
@[simp]theorem aad:BS (.str s) lo aB=(match oA 0 lo,oA s.length aB with
  |some l,some h=>some (0<=l/\l<=h/\h<=s.length,.str ((s.take h.toNat).drop l.toNat))
  |_,_=>none):=rfl
@[simp]theorem Zg{cD:Nat}:AW sz (.slice cD tag xs) lo aB=(if cD=sz then match oA 0 lo,oA xs.length aB with
  |some l,some h=>some (0<=l/\l<=h/\h<=xs.length,.slice sz .no ((xs.take h.toNat).drop l.toNat))
  |_,_=>none else none):=rfl
theorem KC{f:aq->aV (List ab)}{bD:ig}{z q:ab}{ok:Bool}:nD f bD z ok (.gmap k) q=(match f k with
  |some (.hdm _ _::kvs)=>if ux bD q=false then none else match qo bD q kvs with
   |some (some v)=>some (True,if ok then .tuple [v,.bool true]else v)
   |some none=>some (True,if ok then .tuple [z,.bool false]else z)
   |none=>none
  |_=>none):=rfl
theorem Ti{f:aq->aV (List ab)}:qn f (.ptr k 0)=(match f k with
  |some [.hdi _ seen last,.gmap mk]=>match f mk with
   |some (.hdm clock borns::kvs)=>match seen.getLast? with
    |some n=>(l7 n borns kvs).map fun p=>(clock=last,p)
    |none=>none
   |_=>none
  |_=>none):=rfl
@[simp]theorem ZK{cD f n' el gK:Nat}:uN agg sz cD m j f (some ⟨n',el,gK,some xs⟩)=(if n'=m/\gK=cD then
   (match xs[j]? with
    |some p=>if agg then some (dP p=true/\f+sz<=(cells p).length,.agg (((cells p).drop f).take sz))else((cells p)[f]?).map fun q=>(dP p=true,q)
    |none=>none)else none):=rfl
end
attribute [simp] Oz OU OA OC OY OW OK OZ OX OL OV OB OD tA MT MS MU MY M0 Pn Pp Pj Ph Pk Pf VN Pl
 Pu Pq Pt Pr Ps O1 O0 Fw Fx jV fw gW bh get put ho nA lf lg ck oA jD vU BT me qP Bl A4 zx A0
 look eD cX.dst cY.dst pI r0 n5 bz bC kin kinL
 OE OF OI OJ OG OH TF TD O5 O6 O3 O2 O4 Pc O8 Pb O9 Pa Fu Fv dn lu iU tV eY.loadO mm B8 uu fm ko Pm OS OT OO OP OQ OR sj CY p0 vx M1 s9 yF wx oF oC zo AY zl n8
theorem bn{P:bp}{n:Nat}{args:List ab}{st:aN}{d:aV Nat}{K:aN->Prop}{r:ab}(aH:b5 P n args r)(h:K {st with t:=eD d r st.t})(J:kinL (fun _=>cw) args:=by simp):CallDo P n args st d K:=CallDo.val J aH h
theorem aI{a b:Prop}(af:b)(bL:a:=by first|omega|(unfold bm;omega)|(unfold bX;omega)):a/\b:=⟨bL,af⟩
theorem ep{p:Prop}(h:cw:=by first|contradiction|omega):p:=h.elim
theorem cH{p:Prop}(h:p:=by(try simp[*]);(repeat' first|with_reducible refine aI ?_|with_reducible refine bn (by assumption) ?_|with_reducible refine bo (by assumption) ?_|simp[*]);(all_goals first|done|(simp[ca,ba,bc,a1, *];done))):p:=h
attribute [simp] Po Pg OM ON xf AJ e4 ey xr xp zw vi si vw tT
end
section
open Go Go.RowKit
structure ih (s:cZ):Prop where
 obj:gw s
 kb:∀k cs,look k s.b=some cs->kinL (aG s) cs
 ke:∀k o,look k s.e=some o->ef (aG s) o
structure Same (s aj:cZ):Prop where
 b:∀k,(look k s.b).isSome=(look k aj.b).isSome
 e:∀k,(look k s.e).isSome=(look k aj.e).isSome
theorem Same.refl(s:cZ):Same s s:=⟨fun _=>rfl,fun _=>rfl⟩
theorem sY{α:Type}{k:aq}{x:α}:∀{l:List (aq×α)},(k,x)∈l->(look k l).isSome
 |(i,y)::r,h=>by
  simp only[look];split
  ·rfl
  ·rename_i b7;rcases gp.1 h with h|h
   ·cases h;exact absurd rfl b7
   ·exact sY h
theorem JL{s:cZ}{k:aq}(h:k∈dG s):aG s k:=by
 unfold dG at h;rcases ha.1 h with h|h
 ·obtain⟨⟨aX,x⟩,I,rfl⟩:=lO.1 h;exact .inl (sY I)
 ·obtain⟨⟨aX,x⟩,I,rfl⟩:=lO.1 h;exact .inr (sY I)
theorem S7{s:cZ}(h:gw s)(m:Nat):aq.loc m∉dG s:=fun hm=>by
 rcases JL hm with I|I
 ·rw[h.1 m]at I;cases I
 ·rw[h.2 m]at I;cases I
theorem zd{α β:Type}(s:List (aq×β)):∀(a b:List (aq×α)),bs s (a++b)=bs s a++bs s b
 |[],b=>rfl
 |(k,x)::r,b=>by
  simp only[eI,bs];cases look k s with
  |none=>simp[zd s r b]
  |some _=>exact zd s r b
theorem MH{α β:Type}(s:List (aq×β)):∀(l:List (aq×α)),(∀k x,(k,x)∈l->(look k s).isSome)->bs s l=[]
 |[],_=>rfl
 |(k,x)::r,h=>by
  have I:=h k x Ψ;simp only[bs];cases aA:look k s with
  |none=>rw[aA]at I;cases I
  |some _=>exact MH s r fun k x ad=>h k x (by simp[ad])
theorem tv{α:Type}(s:List (aq×α)):bs s s=[]:=MH s s fun k x h=>sY h
theorem Mq{α:Type}{k:aq}{x:α}:∀{l:List (aq×α)},look k l=none->ck k x l=l++[(k,x)]
 |[],_=>rfl
 |(i,y)::r,h=>by
  simp only[look]at h;split at h
  ·cases h
  ·rename_i b7;simp[ck,b7,Mq h]
theorem pw{α:Type}(k:aq):∀(a b:List (aq×α)),look k (a++b)=match look k a with|some x=>some x|none=>look k b
 |[],b=>rfl
 |(i,y)::r,b=>by
  simp only[eI,look];split
  ·rfl
  ·exact pw k r b
theorem CallDo.ob{P:bp}{n:Nat}{args:List ab}{st:aN}{d:aV Nat}{K:aN->Prop}{s:cZ}{Q:ab->cZ->Prop}(aH:cS P n args s Q)(ao:ih s)(af:∀k cs,look k s.b=some cs->look k st.b=some cs)(he:∀k o,look k s.e=some o->look k st.e=some o)
  (J:kinL (aG s) args) (h:∀r aj,Q r aj->Same s aj/\K ⟨eD d r st.t,bs s.b st.b++aj.b,bs s.e st.e++aj.e,st.n,st.o++dG aj⟩):CallDo P n args st d K:=by
 refine .inl ⟨s,Q,fun k cs az=>⟨af k cs az,.inl (by simp[az]),ao.kb k cs az⟩,fun k o ag=>⟨he k o ag,.inr (by simp[ag]),ao.ke k o ag⟩,ao.obj,J,aH,fun r aj bj=>?_⟩;obtain⟨I,aa⟩:=h r aj bj;exact⟨⟨fun m hm=>.inl (by rw[I.b];exact hm),fun m hm=>.inl (by rw[I.e];exact hm)⟩,aa⟩
theorem ev.ob{cA:List cr}{s aj:cZ}{Q:ab->cZ->Prop}{e:Exit}{st:aN}{c:Prop}{aZ:List ab}(iC:e= .ret\/e= .normal)(gf:ba st cA=some (c,aZ))(az:c)(ao:ih aj)(eb:Same s aj)(af:∀k cs,look k aj.b=some cs->look k st.b=some cs)(di:∀k o,look k aj.e=some o->look k st.e=some o)
  (J:kin (aG aj) (bC (a1 aZ))) (bj:Q (bC (a1 aZ)) aj):ev cA s Q e st:=by
 refine⟨iC,?_⟩;rw[gf];have Aj:∀{α:Type} (l:List (aq×α)),(∀k x,(k,x)∈l->aG aj k)->kF aj l:=by
  intro α l;induction l with
  |nil=>intro _;trivial
  |cons x r a8=>obtain⟨k,x⟩:=x;intro h;exact⟨h k x Ψ,a8 fun k x ad=>h k x (by simp[ad])⟩
 exact⟨az,aj,Aj _ fun k x ad=>.inl (by rw[<-eb.b];exact sY ad),Aj _ fun k x ad=>.inr (by rw[<-eb.e];exact sY ad),fun k cs ch=>⟨af k cs ch,.inl (by simp[ch]),ao.kb k cs ch⟩,fun k o ag=>⟨di k o ag,.inr (by simp[ag]),ao.ke k o ag⟩,ao.obj,J,bj⟩
def ff(st:aN)(cA:List cr)(R:ab->Prop):Prop:=match ba st cA with
 |some (c,aZ)=>c/\R (bC (a1 aZ))
 |none=>cw
theorem ev.at{cA:List cr}{s:cZ}{Q:ab->cZ->Prop}{e:Exit}{st:aN}(aj:cZ)(iC:e= .ret\/e= .normal)(ao:ih aj)(eb:Same s aj)(af:∀k cs,look k aj.b=some cs->look k st.b=some cs)(di:∀k o,look k aj.e=some o->look k st.e=some o)
  (h:ff st cA fun r=>kin (aG aj) r/\Q r aj):ev cA s Q e st:=by
 unfold ff at h;split at h
 ·rename_i c aZ hr;exact ev.ob iC hr h.1 ao eb af di h.2.1 h.2.2
 ·exact h.elim
theorem na.ob{P:bp}{nw:List Nat}{n:Nat}{args:List ab}{st:aN}{d:aV Nat}{K:aN->Prop}{s aj:cZ}{r:ab}(aH:cS P n args s fun cv t'=>cv=r/\t'=aj)(ao:ih s)(mG:ih aj)(eb:Same s aj)(af:∀k cs,look k s.b=some cs->look k st.b=some cs)(he:∀k o,look k s.e=some o->look k st.e=some o)
  (J:kinL (aG s) args) (h:K ⟨eD d r st.t,bs s.b st.b++aj.b,bs s.e st.e++aj.e,st.n,st.o⟩):na P false nw n args st d K:=
 .inr ⟨s,aj,r,none,fun k cs az=>⟨af k cs az,.inl (by simp[az]),ao.kb k cs az⟩,fun k o ag=>⟨he k o ag,.inr (by simp[ag]),ao.ke k o ag⟩,ao.obj,mG.obj,⟨fun k J=>.inl (by rw[eb.b];exact J),fun k J=>.inl (by rw[eb.e];exact J),fun k J=>by rw[<-eb.b];exact J,fun k J=>by rw[<-eb.e];exact J,fun k J=>by cases J⟩,J,aH,(fun e=>by cases e),h⟩
theorem ih.of{s:cZ}(ag:gw s)(af:∀x∈s.b,kinL (aG s) x.2)(he:∀x∈s.e,∀xs,x.2.xs=some xs->kinL (aG s) xs):ih s:=⟨ag,fun k cs J=>af (k,cs) (sX J),fun k o J xs ad=>he (k,o) (sX J) xs ad⟩
@[simp]theorem ZA(b:List (aq×List ab))(e:List (aq×cq)):dG ⟨b,e⟩=b.map (·.1)++e.map (·.1):=rfl
theorem S2{α:Type}{s b:List (aq×α)}(h:∀p∈s,look p.1 b=some p.2):∀k x,look k s=some x->look k b=some x:=fun k x ad=>h (k,x) (sX ad)
theorem eR{S:aq->Prop}{fh b:List (aq×List ab)}(h:∀p∈fh,look p.1 b=some p.2/\S p.1/\kinL S p.2):mT S fh b:=fun k x ad=>h (k,x) (sX ad)
theorem eS{S:aq->Prop}{fh b:List (aq×cq)}(h:∀p∈fh,look p.1 b=some p.2/\S p.1/\ef S p.2):nL S fh b:=fun k x ad=>h (k,x) (sX ad)
theorem aO{α:Type}{s b:List (aq×α)}(h:∀k x,look k s=some x->look k b=some x:=by first|(refine S2 ?_;simp;done)|(intro k x ad;first|exact ad|(simp[ad,tv];done)|(simp[pw,tv,ad];done)|(cases k<;>simp_all[pw];done))):∀k x,look k s=some x->look k b=some x:=h
theorem dp{ob:List aq}{st st':aN}(I:∀x∈st'.t,get x.1 st.t=x.2/\kin (fun k=> ¬fresh st'.n st'.o k) x.2:=by simp[fresh,kinL,kin,b1,aG,Pv.look])(aa:∀p∈st'.b,look p.1 st.b=some p.2/\(¬fresh st'.n st'.o p.1)/\kinL (fun k=> ¬fresh st'.n st'.o k) p.2:=by simp[fresh,kinL,kin,b1,aG,Pv.look])(ak:∀p∈st'.e,look p.1 st.e=some p.2/\(¬fresh st'.n st'.o p.1)/\ef (fun k=> ¬fresh st'.n st'.o k) p.2:=by simp[fresh,kinL,kin,ef,aG,Pv.look])(aK:∀m∈ob,m∈st'.o:=by simp):hQ ob st st':=⟨I,eR aa,eS ak,aK⟩
theorem cF.next{ob:List aq}{hX:Nat->aN->Prop}{k:Nat}{Q:Exit->aN->Prop}{st:aN}(aX:Nat){aj:aN}(J:aX<k)(aB:hX aX aj)(hw:hQ ob st aj):cF ob hX k Q .normal st:=⟨aX,aj,J,hw,aB⟩
def flat:List (Int×ab)->List ab
 |[]=>[]
 |(k,v)::r=>.int .i64 k::v::flat r
def kc(l:List (Int×ab)):List ab:= .hdm l.length (List.range l.length)::flat l
def tB(k:Int):List (Int×ab)->aV ab
 |[]=>none
 |(i,v)::r=>if k=i then some v else tB k r
def n7(k:Int)(v:ab):List (Int×ab)->aV (List (Int×ab))
 |[]=>none
 |(i,w)::r=>if k=i then some ((k,v)::r)else match n7 k v r with|some cv=>some ((i,w)::cv)|none=>none
def r4(k:Int)(v:ab)(l:List (Int×ab)):List (Int×ab):=match n7 k v l with|some fE=>fE|none=>l++[(k,v)]
@[simp]theorem Zi:[ab.hdm 0 []]=kc []:=rfl
theorem Im:∀a b,flat (a++b)=flat a++flat b
 |[],_=>rfl
 |(k,v)::r,b=>by simp[flat,Im r b]
theorem Kz(k:Int):∀l,qo .i (.int .i64 k) (flat l)=some (tB k l)
 |[]=>rfl
 |(i,v)::r=>by
  simp only[flat,qo,rj,tB];by_cases h:k=i
  ·simp[h]
  ·have:(k==i)=false:=by simp[h]
   simp[h,Kz k r,this]
theorem GG{k:Int}{v:ab}:∀{l fE},n7 k v l=some fE->fE.length=l.length
 |[],_,h=>by simp[n7]at h
 |(i,w)::r,fE,h=>by
  simp only[n7]at h;split at h
  ·cases h;rfl
  ·split at h
   ·rename_i cv hr;cases h;simp[GG hr]
   ·cases h
theorem KH(k:Int)(v:ab):∀l,rq .i (.int .i64 k) v (flat l)=some ((n7 k v l).map flat)
 |[]=>rfl
 |(i,w)::r=>by
  simp only[flat,rq,rj,n7];by_cases h:k=i
  ·subst h;simp[flat]
  ·simp only[and_self,if_true,h,if_false,df,KH k v r];have:(k==i)=false:=by simp[h]
   rw[this];cases n7 k v r<;>simp[flat]
@[simp]theorem Tt(k:Int)(v:ab)(l:List (Int×ab)):oy .i (.int .i64 k) v (kc l)=some (kc (r4 k v l)):=by
 simp only[kc,oy,Ke,Bool.true_eq_false,reduceCtorEq,if_false,KH,r4];cases h:n7 k v l with
 |some fE=>simp[GG h]
 |none=>simp[Im,flat,List.range_succ]
@[simp]theorem ox(f:aq->aV (List ab))(m:aq)(l:List (Int×ab))(z:ab)(ok:Bool)(k:Int)(hm:f m=some (kc l)):nD f .i z ok (.gmap m) (.int .i64 k)=(match tB k l with
  |some v=>some (True,if ok then .tuple [v,.bool true]else v)
  |none=>some (True,if ok then .tuple [z,.bool false]else z)):=by
 simp only[KC,hm,kc,Ke,Bool.true_eq_false,reduceCtorEq,if_false,Kz];cases tB k l<;>rfl
def b1(n:Nat)(seen:List Nat)(m:aq):List ab:=[.hdi n seen n,.gmap m]
@[simp]theorem ZJ(m:aq)(l:List (Int×ab)):yL m (kc l)=some (b1 l.length [] m):=rfl
@[simp]theorem ZG(l:List (Int×ab)):fm (kc l)=false:=rfl
theorem Ev(b:Nat):∀(n:Nat) (l:List (Int×ab)),l7 b (List.range' n l.length) (flat l)=(if n<=b then(l[b-n]?).map fun x=>.tuple [.int .i64 x.1,x.2]else none)
 |n,[]=>by simp[l7,flat]
 |n,(k,v)::r=>by
  simp only[lN,List.range'_succ,flat,l7];by_cases h:n=b
  ·subst h;simp
  ·rw[be h,Ev b (n+1) r];by_cases aa:n<=b
   ·rw[if_pos aa,if_pos Ω];have:b-n=(b-(n+1))+1:=Ω
    rw[this];simp
   ·rw[be aa,be Ω]
@[simp]theorem Th(f:aq->aV (List ab))(fW mk:aq)(n:Nat)(seen:List Nat)(b:Nat)(l:List (Int×ab))(aB:f fW=some (b1 n (seen++[b]) mk))(hm:f mk=some (kc l))(aR:n=l.length):qn f (.ptr fW 0)=(l[b]?).map fun x=>(True,.tuple [.int .i64 x.1,x.2]):=by subst aR;simp only[Ti,aB,hm,b1,kc,List.getLast?_append,List.getLast?_singleton,Option.some_or,List.range_eq_range',Ev,Nat.zero_le,if_true,Nat.sub_zero,Option.map_map];cases l[b]?<;>simp
theorem Oy{st:aN}{d:Nat}{K:aN->Prop}{fW mk:aq}{n:Nat}{seen:List Nat}{l:List (Int×ab)}(aB:look fW st.b=some (b1 n seen mk))(hm:look mk st.b=some (kc l))(aR:n=l.length)
  (I:(∀b,b<n->b∈seen)->K {st with t:=put d (.tuple [.bool false]) st.t}) (aa:∀b k v,l[b]? =some (k,v)->b∉seen->K {st with t:=put d (.tuple [.bool true,.int .i64 k,v]) st.t,b:=ck fW (b1 n (seen++[b]) mk) st.b}):
  tO st d (.ptr fW 0) K:=by
 subst aR;simp only[tO,aB,b1,hm,kc,KK,and_self,true_and];refine⟨fun h=>I fun b af=>h b (by simpa using af),fun b k v Dy af=>?_⟩;rw[List.range_eq_range',Ev]at Dy;simp only[Nat.zero_le,if_true,Nat.sub_zero,lr,ab.tuple.injEq,MR,and_true]at Dy;obtain⟨⟨aX,v'⟩,ah,aE,bg⟩:=Dy;simp only at aE bg;subst aE bg;exact aa b aX v' ah af
theorem Ut{n:Nat}{seen:List Nat}(aF:seen.Nodup)(bU:∀b∈seen,b<n)(jJ:∀b,b<n->b∈seen):seen.Perm (List.range n):=(List.perm_ext_iff_of_nodup aF List.nodup_range).2 fun b=>⟨fun h=>by simpa using bU b h,fun h=>jJ b (by simpa using h)⟩
theorem LU{n:Nat}{seen:List Nat}(aF:seen.Nodup)(bU:∀b∈seen,b<n):seen.length<=n:=by have:=WD aF (l₂:=List.range n) (fun b af=>by simpa using bU b af);simpa using this
theorem Vg{n b:Nat}{seen:List Nat}(aF:seen.Nodup)(bU:∀b∈seen,b<n)(af:b<n)(aR:b∉seen):seen.length<n:=by have I:(b::seen).Nodup:=List.nodup_cons.2 ⟨aR,aF⟩;have:=LU I (n:=n) (by simp;exact⟨af,bU⟩);simp at this;omega
theorem Lq{α:Type}:∀(l pre:List α),(List.range' pre.length l.length).filterMap (fun b=>(pre++l)[b]?)=l
 |[],_=>rfl
 |x::r,pre=>by have a8:=Lq r (pre++[x]);simp only[jA,List.length_singleton,List.append_assoc,List.singleton_append]at a8;simp[List.range'_succ,a8]
theorem Vf{α:Type}{l:List α}{seen:List Nat}(aF:seen.Nodup)(bU:∀b∈seen,b<l.length)(jJ:∀b,b<l.length->b∈seen):(seen.filterMap fun b=>l[b]?).Perm l:=by have I:=(Ut aF bU jJ).filterMap fun b=>l[b]?;have aa:=Lq l [];simp only[List.length_nil,fx,<-List.range_eq_range']at aa;rwa[aa]at I
theorem TI{b:Nat}{seen:List Nat}(aF:seen.Nodup)(aR:b∉seen):(seen++[b]).Nodup:=by rw[nU];exact⟨aF,Ψ,by simp;intro a bL e;subst e;exact aR bL⟩
theorem bH.start{w:World}{ν:aD}(gl:lQ w ν){s:cZ}{args:List ab}{vs:Array Value}(iZ:gw s)(aP:Good (eZ ν s) w ν s.b s.e)(ad:oZ ν s)(hr:bP w ν args vs.toList):
  bH ⟨w,ν,eZ ν s,vs.size,dG s,gl,[]⟩ ⟨gW 0 args,s.b,s.e,0,dG s⟩ {tmps:=vs,defers:=[]} w ν:=by
 have q9:=rA hr;have fl:vs.size=args.length:=by simpa using q9
 have h3:∀k,fresh 0 (dG s) k->ν.bx k=none/\ν.ow k=none/\∀j b,¬ν.tr k j b:=by
  intro k J;cases k with
  |loc m=>exact⟨(ad _).1 (iZ.1 m),(ad _).2.1 (iZ.2 m),(ad _).2.2⟩
  |obj m=>
   simp only[fresh,true_and]at J;refine⟨?_,?_,(ad _).2.2⟩
   ·refine(ad _).1 ?_;cases h:look (.obj m) s.b with
    |none=>rfl
    |some x=>exact absurd (rr (.inl (by simp[h]))) J
   ·refine(ad _).2.1 ?_;cases h:look (.obj m) s.e with
    |none=>rfl
    |some x=>exact absurd (rr (.inr (by simp[h]))) J
 have jL:∀m,(ν.bx (.obj m)≠none\/ν.ow (.obj m)≠none)-> .obj m∈dG s:=by
  intro m hm;refine Classical.byContradiction fun az=>?_;obtain⟨I,aa,_⟩:=h3 (.obj m) ⟨trivial,az⟩;rcases hm with hm|hm
  ·exact hm I
  ·exact hm aa
 refine⟨⟨aP.alt,fun k cs J=>?_,aP.inj,fun g o ea=>?_,aP.oinj,aP.obx,aP.one,aP.otr⟩,⟨rfl,rfl,rfl,cE _,fun _ _ _=>rfl,fun b o h=>⟨h,rfl⟩,fun b o h=>.inl h,fun n b h=>h,fun n b h=>jL n (.inl (by rw[h];simp)),fun m n u h=>⟨n,u,h,.inl ⟨rfl,rfl⟩⟩,fun m n u h=>jL m (.inr (by rw[h];simp)),fun k j _ _ b h=>absurd h ((ad k).2.2 j b),fun k j b h=>absurd h ((ad k).2.2 j b),fun k j b h=>absurd h ((ad k).2.2 j b),fun _ _ _=>rfl,fun j n u b ah _=>(by rw[(ad _).2.1 (iZ.2 j)]at ah;cases ah)⟩,rfl,rfl,fun i=>?_,h3,fun _ ad=>(by cases ad),fun m hm aH=>aH.2 hm⟩
 ·obtain⟨bl,us,el,g1,g2,g3⟩:=aP.box k cs J;exact⟨bl,us,el,g1,.inl g2,g3⟩
 ·obtain⟨v,us,g1,g2,g3,g4⟩:=aP.own g o ea;exact⟨v,us,g1,g2,fun bl eE=>⟨.inl (g3 bl eE).1,(g3 bl eE).2⟩,g4⟩
 ·rw[vA];by_cases aB:i<args.length
  ·rw[if_pos Ω];have l3:args[i]? =some args[i]:=eh aB;obtain⟨v,ah,aE⟩:=wJ i hr l3;have se:vs[i]? =some v:=by simpa using ah
   show aw w ν _ (vs.getD i undef);rw[mg,se];simpa[List.getD,l3]using aE
  ·rw[be Ω];simp[aw]
theorem cS.sem{P:bp}{f:FuncId}{args:List ab}{s:cZ}{Q:ab->cZ->Prop}(iZ:gw s)
  (h:∀(w:World) (ν:aD) (vs:Array Value) (gl:lQ w ν),vs.size=args.length->bH ⟨w,ν,eZ ν s,vs.size,dG s,gl,[]⟩ ⟨gW 0 args,s.b,s.e,0,dG s⟩ {tmps:=vs,defers:=[]} w ν->
   rZ P f vs w fun e w'=> ∃v st' bE ν' r aj,e= .returned v/\bH ⟨w,ν,eZ ν s,vs.size,dG s,gl,[]⟩ st' bE w' ν'/\aw w' ν' r v/\kF aj s.b/\kF aj s.e/\mT (aG aj) aj.b st'.b/\nL (aG aj) aj.e st'.e/\gw aj/\kin (aG aj) r/\Q r aj):cS P f args s Q:=by
 intro w ν vs gl aP ad hr;have fl:vs.size=args.length:=by simpa using rA hr
 have k7:=bH.start gl iZ aP ad hr;have hm:∀(e:Ending) (w':World),(∃v st' bE ν' r aj,e= .returned v/\bH ⟨w,ν,eZ ν s,vs.size,dG s,gl,[]⟩ st' bE w' ν'/\aw w' ν' r v/\kF aj s.b/\kF aj s.e/\mT (aG aj) aj.b st'.b/\nL (aG aj) aj.e st'.e/\gw aj/\kin (aG aj) r/\Q r aj)->
   ∃v r aj ν',e= .returned v/\Q r aj/\aw w' ν' r v/\Good (fun bl=>eZ ν s bl\/w.heap.size<=bl) w' ν' aj.b aj.e/\oZ ν' aj/\gw aj/\mo ⟨w,ν,eZ ν s,0,dG s,gl,[]⟩ w' ν':=by
  rintro e w' ⟨v,st',bE,ν',r,aj,rfl,bG,K8,kb,ke,bJ,cj,de,du,cy⟩;refine⟨v,r,aj,ν'.cut (aG aj),rfl,cy,oB (kU.cut _ w' ν') _ _ du K8,bG.good.cut bJ cj (fun bl h _=>h),?_,de,?_⟩
  ·intro k;refine⟨?_,?_,?_⟩;rotate_left 2
   ·rintro j b ⟨ao,af⟩;obtain⟨t1,t2⟩:=bG.fr.trn k j b af;rcases ao with ao|ao<;>obtain⟨x,nx⟩:=ei.1 ao
    ·obtain⟨bl,a6,el,ah,_⟩:=bG.good.box k x (bJ k x nx).1;rw[t1]at ah;cases ah
    ·obtain⟨v',a6,ah,_⟩:=bG.good.own k x (cj k x nx).1;rw[t2]at ah;cases ah
   ·intro J;by_cases ao:aG aj k
    ·rw[aD.cut_bx ao];rcases ao with ao|ao
     ·rw[J]at ao;cases ao
     ·obtain⟨x,nx⟩:=ei.1 ao;obtain⟨v',a6,ah,_⟩:=bG.good.own k x (cj k x nx).1;rcases bG.good.one k with I|I
      ·exact I
      ·rw[I]at ah;cases ah
    ·exact(aD.cut_no ao).1
   ·intro J;by_cases ao:aG aj k
    ·rw[aD.cut_ow ao];rcases ao with ao|ao
     ·obtain⟨x,nx⟩:=ei.1 ao;obtain⟨bl,a6,el,ah,_⟩:=bG.good.box k x (bJ k x nx).1;rcases bG.good.one k with I|I
      ·rw[I]at ah;cases ah
      ·exact I
     ·rw[J]at ao;cases ao
    ·exact(aD.cut_no ao).2.1
  ·refine⟨bG.fr.os,bG.fr.tape,bG.fr.output,bG.fr.size,bG.fr.block,bG.fr.keep,bG.fr.fresh,fun n b h=>?_,bG.fr.obn,fun m n u h=>?_,bG.fr.obr,fun k j aX dj b I aa=>bG.fr.trd k j aX dj b I.2 aa.2,fun k j b af=>bG.fr.trb k j b af.2,fun k j b af=>(by rw[aD.cut_bx af.1,aD.cut_ow af.1];exact bG.fr.trn k j b af.2),bG.fr.sh,fun j n u b ah aE=>bG.fr.nrow j n u b (aD.cut_someO ah).2 aE⟩
   ·have ao:aG aj (.obj n):=by
     cases aA:look (.obj n) s.b with
     |none=>rw[(ad _).1 aA]at h;cases h
     |some x=>exact uw kb _ (by simp[aA])
    rw[aD.cut_bx ao];exact bG.fr.obj n b h
   ·have ao:aG aj (.obj m):=by
     cases aA:look (.obj m) s.e with
     |none=>rw[(ad _).2.1 aA]at h;cases h
     |some x=>exact uw ke _ (by simp[aA])
    rw[aD.cut_ow ao];exact bG.fr.row m n u h
 rcases h w ν vs gl fl k7 with⟨vJ,az⟩|⟨v,w',az,gf⟩
 ·exact .inl ⟨vJ,az.mono hm⟩
 ·exact .inr ⟨v,w',az,hm _ _ gf⟩
theorem bH.grown{C:dh}{st:aN}{a:Act}{w w':World}{ν:aD}(h:bH C st a w ν)(aP:w.grownBy w' none):bH C st a w' ν:=by
 have j8:km w ν w' ν:=⟨fun b o aT=>⟨aT,HA aP (h.good.alt b o aT)⟩,fun _ _ _ h=>h,fun _ n u _ h=>⟨n,u,h,.inl ⟨rfl,rfl⟩⟩,fun b o aT=>wO (aP.block b (h.good.alt b o aT) Ψ),fun _ _ _ _ h=>h⟩;refine h.over j8 rfl ⟨fun b o aT=>Nat.lt_of_lt_of_le (h.good.alt b o aT) aP.size,fun k cs J=>?_,h.good.inj,fun g o ea=>?_,h.good.oinj,h.good.obx,h.good.one,h.good.otr⟩
  ⟨aP.os.trans h.fr.os,aP.tape.trans h.fr.tape,aP.output.trans h.fr.output,Nat.le_trans h.fr.size aP.size,fun k J hm=>?_,fun b o aT=>?_,h.fr.fresh,h.fr.obj,h.fr.obn,h.fr.row,h.fr.obr,h.fr.trd,fun k j b af=>⟨(h.fr.trb k j b af).1,Nat.lt_of_lt_of_le (h.fr.trb k j b af).2 aP.size⟩,h.fr.trn,fun b o aT=>(j8.sh b o (h.fr.keep b o aT).1).trans (h.fr.sh b o aT),h.fr.nrow⟩ h.new
 ·obtain⟨bl,us,el,g1,g2,g3,g4,g5⟩:=h.good.box k cs J;exact⟨bl,us,el,g1,g2,g3,by rw[aP.block bl (Array.getElem?_eq_some_iff.1 g4).1 Ψ];exact g4,nH j8 g5⟩
 ·obtain⟨v,us,g1,g2,g3,g4⟩:=h.good.own g o ea;exact⟨v,us,g1,g2.kept aP (by cases v.ownBlock<;>simp),g3,pJ j8 (fun _ _ _ h=>h) g4⟩
 ·rw[aP.block k (Nat.lt_of_lt_of_le J h.fr.size) Ψ];exact h.fr.block k J hm
 ·obtain⟨cu,cI⟩:=h.fr.keep b o aT;exact⟨cu,(j8.A b o cu).2.trans cI⟩
@[simp]theorem XR{P:bp}{ob:List aq}{c d:C}{Q:Exit->aN->Prop}{st:aN}{s:Nat}:b3 P ob (.seq (.pub s c) d) Q st=u7 P ob (.seq c d) Q (s9 st s):=by simp only[b3];cases s9 st s<;>rfl
end
section
open Go Go.RowKit
def yn(t:List (Nat×ab))(bD:List Nat):List (Nat×ab):=bD.map fun k=>(k,get k t)
@[simp]theorem YT(t:List (Nat×ab)):yn t []=[]:=rfl
@[simp]theorem YS(t:List (Nat×ab))(k:Nat)(bD:List Nat):yn t (k::bD)=(k,get k t)::yn t bD:=rfl
def mN(st:aN)(bD:List Nat)(cs:List (Nat×ab)):aN:=⟨yn st.t bD++cs,st.b,st.e,st.n,st.o⟩
theorem To(t:List (Nat×ab))(b:List (aq×List ab))(e:List (aq×cq))(n:Nat)(o:List aq)(bD:List Nat)(cs:List (Nat×ab)):mN ⟨t,b,e,n,o⟩ bD cs=⟨yn t bD++cs,b,e,n,o⟩:=rfl
def u5{α:Type}(S:Nat->α->aN)(n:Nat)(gC:Nat->α->Prop)(k:Nat)(st:aN):Prop:= ∃i a,i<=n/\k=n-i/\gC i a/\st=S i a
section
variable {P:bp} {ob:List aq} {st:aN} {Q:Exit->aN->Prop} {c:C} {α:Type}
theorem iA(S:Nat->α->aN)(n:Nat)(gC:Nat->α->Prop)(a0:α)(hw:hQ ob st (S 0 a0))(bN:gC 0 a0)(hF:∀a,gC n a->(∀i,jE (get i (S n a).t))->b3 P ob c (cF ob (u5 S n gC) 0 Q) (S n a))
  (po:∀i a,i<n->gC i a->(∀j,jE (get j (S i a).t))->b3 P ob c (cF ob (u5 S n gC) (n-i) Q) (S i a)):b3 P ob (.loop c) Q st:=by
 refine zH (u5 S n gC) n _ hw ⟨0,a0,Ω,Ω,bN,rfl⟩ ?_;rintro k s ⟨i,a,aB,rfl,av,rfl⟩ af _;rcases Nat.lt_or_ge i n with h|h
 ·exact po i a h av af
 ·obtain rfl:i=n:=Ω
  rw[Nat.sub_self];exact hF a av af
theorem cF.rng{S:Nat->α->aN}{n:Nat}{gC:Nat->α->Prop}{i:Nat}(bE:α)(aB:i<n)(av:gC (i+1) bE)(hw:hQ ob st (S (i+1) bE)):cF ob (u5 S n gC) (n-i) Q .normal st:=⟨n-(i+1),_,Ω,hw,i+1,bE,Ω,rfl,av,rfl⟩
def zg{α:Type}(S:α->aN)(μ:α->Nat)(gC:α->Prop)(k:Nat)(st:aN):Prop:= ∃a,k=μ a/\gC a/\st=S a
theorem jI(S:α->aN)(μ:α->Nat)(gC:α->Prop)(a0:α)(hw:hQ ob st (S a0))(bN:gC a0)
  (po:∀a,gC a->(∀j,jE (get j (S a).t))->b3 P ob c (cF ob (zg S μ gC) (μ a) Q) (S a)):b3 P ob (.loop c) Q st:=by
 refine zH (zg S μ gC) (μ a0) _ hw ⟨a0,rfl,bN,rfl⟩ ?_;rintro k s ⟨a,rfl,av,rfl⟩ af _;exact po a av af
theorem cF.whl{S:α->aN}{μ:α->Nat}{gC:α->Prop}{k:Nat}(bE:α)(hm:μ bE<k)(av:gC bE)(hw:hQ ob st (S bE)):cF ob (zg S μ gC) k Q .normal st:=⟨μ bE,_,hm,hw,bE,rfl,av,rfl⟩
end
theorem yI{p:Prop}(h:p:=by(try simp[*]);(repeat' first|with_reducible refine aI ?_|with_reducible refine bn (by assumption) ?_|with_reducible refine bo (by assumption) ?_|simp[*]);(all_goals first|exact cF.rng () (by assumption) (by first|assumption|trivial) dp|exact cF.rng _ (by assumption) (by assumption) dp)):p:=h
end
section
open Go Go.RowKit
section
variable {α:Type}
end
end
section
open Go Go.RowKit
section
variable {P:bp} {ob:List aq} {st:aN} {Q:Exit->aN->Prop} {c:C} {α:Type}
theorem vp(bD:List Nat)(cs:Nat->α->List (Nat×ab))(n:Nat)(gC:Nat->α->Prop)(a0:α)(hw:hQ ob st (mN st bD (cs 0 a0)))(bN:gC 0 a0)(hF:∀a,gC n a->(∀i,jE (get i (mN st bD (cs n a)).t))->b3 P ob c (cF ob (u5 (fun i a=>mN st bD (cs i a)) n gC) 0 Q) (mN st bD (cs n a)))
  (po:∀i a,i<n->gC i a->(∀j,jE (get j (mN st bD (cs i a)).t))->b3 P ob c (cF ob (u5 (fun i a=>mN st bD (cs i a)) n gC) (n-i) Q) (mN st bD (cs i a))):b3 P ob (.loop c) Q st:=
 iA (fun i a=>mN st bD (cs i a)) n gC a0 hw bN hF po
theorem H8(bD:List Nat)(cs:α->List (Nat×ab))(μ:α->Nat)(gC:α->Prop)(a0:α)(hw:hQ ob st (mN st bD (cs a0)))(bN:gC a0)
  (po:∀a,gC a->(∀j,jE (get j (mN st bD (cs a)).t))->b3 P ob c (cF ob (zg (fun a=>mN st bD (cs a)) μ gC) (μ a) Q) (mN st bD (cs a))):b3 P ob (.loop c) Q st:=
 jI (fun a=>mN st bD (cs a)) μ gC a0 hw bN po
end
attribute [simp] To
end
section
open Go Go.RowKit
def dL(cA:List cr)(s:cZ)(κ:Nat)(Q:ab->cZ->Prop)(e:Exit)(st:aN):Prop:=
 (e= .ret\/e= .normal)/\match ba st cA with
  |some (c,aZ)=>c/\∃aj,aj.e=[]/\kF aj s.b/\mT (aG aj) aj.b st.b/\gw aj/\(cC st.e (a1 aZ)/\(b8 st.e (a1 aZ)).Nodup/\(bW (a1 aZ)).Nodup)/\Q (fold κ st.e 0 (a1 aZ)) aj
  |none=>cw
noncomputable def aD.fold(ν:aD)(aj:cZ)(κ:Nat)(e:List (aq×cq))(p:ab):aD:=
 {A:=fun b o=>ν.A b o\/ ∃k,k∈bW p/\∃own,look k e=some own/\iI ν k b/\o<own.n*own.sz,
  bx:=(ν.cut (aG aj)).bx,ow:=fun _=>none,
  tr:=fun k j b=>k= .loc κ/\∃S,(ed ν (fun b=> ∃k,k∈bW p/\iI ν k b) e p)[j]? =some S/\S b}
theorem FnK.of{P:bp}(hm:P.follows .mixedOrders=true){aW:List (Nat×cm)}(au:dJ P aW=true){f:FuncId}{fn:Func}(aH:P.funcs[f]? =some fn){code:Code}(af:fn.body=some code)(fL:(fn.name== "runtime.NumGoroutine")=false){c:C}(az:fi fn.ntmps aW c code=true){cA:List cr}(lD:mb aW cA fn.results.toList=true)
  {args:List ab} (aA:args.length<=fn.ntmps) {s:cZ} (iZ:gw s) (gT:s.e=[]) {κ:Nat} {Q:ab->cZ->Prop} (he:jf args->(∀j cs,look j s.b=some cs->fm cs=true->jg cs)->b3 P (dG s) c (dL cA s κ Q) ⟨gW 0 args,s.b,s.e,0,dG s⟩):FnK P f κ args s Q:=by
 intro w ν vs gl aP ad hr;refine .inl ⟨⟨fn,aH,by simp[af],fL⟩,?_⟩;have q9:=rA hr;have fl:vs.size=args.length:=by simpa using q9
 let X:dh:=⟨w,ν,eZ ν s,fn.ntmps,dG s,gl,[]⟩
 have h3:∀k,fresh 0 (dG s) k->ν.bx k=none/\ν.ow k=none/\∀j b,¬ν.tr k j b:=by
  intro k J;cases k with
  |loc m=>exact⟨(ad _).1 (iZ.1 m),(ad _).2.1 (iZ.2 m),(ad _).2.2⟩
  |obj m=>
   simp only[fresh,true_and]at J;refine⟨?_,?_,(ad _).2.2⟩
   ·refine(ad _).1 ?_;cases h:look (.obj m) s.b with
    |none=>rfl
    |some x=>exact absurd (rr (.inl (by simp[h]))) J
   ·refine(ad _).2.1 ?_;cases h:look (.obj m) s.e with
    |none=>rfl
    |some x=>exact absurd (rr (.inr (by simp[h]))) J
 have jL:∀m,(ν.bx (.obj m)≠none\/ν.ow (.obj m)≠none)-> .obj m∈dG s:=by
  intro m hm;refine Classical.byContradiction fun az=>?_;obtain⟨I,aa,_⟩:=h3 (.obj m) ⟨trivial,az⟩;rcases hm with hm|hm
  ·exact hm I
  ·exact hm aa
 have k7:bH X ⟨gW 0 args,s.b,s.e,0,dG s⟩ {tmps:=vs++nQ (fn.ntmps-vs.size) undef,defers:=[]} w ν:=by
  refine⟨⟨aP.alt,fun k cs J=>?_,aP.inj,fun g o ea=>?_,aP.oinj,aP.obx,aP.one,aP.otr⟩,⟨rfl,rfl,rfl,cE _,fun _ _ _=>rfl,fun b o h=>⟨h,rfl⟩,fun b o h=>.inl h,fun n b h=>h,fun n b h=>jL n (.inl (by rw[h];simp)),fun m n u h=>⟨n,u,h,.inl ⟨rfl,rfl⟩⟩,fun m n u h=>jL m (.inr (by rw[h];simp)),fun k j _ _ b h=>absurd h ((ad k).2.2 j b),fun k j b h=>absurd h ((ad k).2.2 j b),fun k j b h=>absurd h ((ad k).2.2 j b),fun _ _ _=>rfl,fun j n u b ah _=>(by rw[(ad _).2.1 (iZ.2 j)]at ah;cases ah)⟩,rfl,?_,fun i=>?_,h3,fun _ ad=>(by cases ad),fun m hm aH=>aH.2 hm⟩
  ·obtain⟨bl,us,el,g1,g2,g3⟩:=aP.box k cs J;exact⟨bl,us,el,g1,.inl g2,g3⟩
  ·obtain⟨v,us,g1,g2,g3,g4⟩:=aP.own g o ea;exact⟨v,us,g1,g2,fun bl eE=>⟨.inl (g3 bl eE).1,(g3 bl eE).2⟩,g4⟩
  ·show(vs++nQ (fn.ntmps-vs.size) undef).size=fn.ntmps;simp;omega
  ·rw[vA];by_cases aB:i<args.length
   ·rw[if_pos Ω];have l3:args[i]? =some args[i]:=eh aB;obtain⟨v,ah,aE⟩:=wJ i hr l3;have aL:(vs++nQ (fn.ntmps-vs.size) undef).getD i undef=v:=by
     have se:vs[i]? =some v:=by simpa using ah
     rw[mg,Array.getElem?_append_left Ω,se];rfl
    show aw w ν _ ((vs++nQ (fn.ntmps-vs.size) undef).getD i undef);rw[aL];simpa[List.getD,l3]using aE
   ·rw[be Ω];simp[aw]
 have q3:=he (Fi hr) (fun j cs av=>by obtain⟨bl,us,el,_,_,_,_,g5⟩:=aP.box j cs av;exact Fa g5);have yj:=lv hm au (X:=X) c code (dL cA s κ Q) _ az q3 _ w ν k7;refine calls_of_wp aH af (wp_mono yj fun e bE w' bq=>?_);obtain⟨st',ν',⟨iC,bj⟩,bG⟩:=bq;cases gf:ba st' cA with
 |none=>simp[gf]at bj
 |some x=>
  obtain⟨fY,aZ⟩:=x;simp only[gf]at bj;obtain⟨jj,aj,hs'e,kb,bJ,de,⟨ok,nd,rd⟩,cy⟩:=bj;obtain⟨gV,g1,g2⟩:=yS au bG cA fn.results.toList fY aZ lD gf jj;have DI:=rA g2;have jK:bE.defers=[]/\∃v,(results fn bE.tmps).run P w'= .ok v w'/\(fun(e:Ending) w'=> ∃v r aj ν',e= .returned v/\Q r aj/\aw w' ν' r v/\Good (fun bl=>eZ ν s bl\/w.heap.size<=bl) w' ν' aj.b aj.e/\vr (some κ) ν' aj/\gw aj/\mo ⟨w,ν,eZ ν s,0,dG s,gl,[]⟩ w' ν') (.returned v) w':=by
   refine⟨bG.defers,?_⟩;have fy:(results fn bE.tmps).run P w'= .ok (if h:gV.toArray.size=1 then gV.toArray[0]else .tuple gV.toArray) w':=by rw[Fl];simp only[ee,Array.mapM_eq_mapM_toList,Sem.run_map,g1,eg,eT]
   have sF:∀k,aG aj k->(look k aj.b).isSome/\(look k st'.b).isSome:=fun k J=>by
    have I:(look k aj.b).isSome:=by
     rcases J with J|J
     ·exact J
     ·rw[hs'e]at J;simp[look]at J
    obtain⟨cs,ch⟩:=ei.1 I;exact⟨I,by simp[(bJ k cs ch).1]⟩
   have hn:∀k b,k∈bW (a1 aZ)->iI ν' k b->∃own,look k st'.e=some own/\(X.pr b)/\b<w'.heap.size/\(∀k j,¬ν'.tr k j b)/\(∀aX,(look aX st'.b).isSome->ν'.bx aX≠some b):=by rintro k b J ⟨n,v,I,aa⟩;obtain⟨own,kB⟩:=yw _ ok k J;obtain⟨v0,us,kd,iH,l8,Zz⟩:=bG.good.own k _ kB;rw[I]at kd;simp only[dv,hx]at kd;obtain⟨rfl,rfl⟩:=kd;exact⟨_,kB,(l8 b aa).1,bG.good.ownLt kB I aa,bG.good.otr b (.inr ⟨k,_,_,by simp[kB],I,aa⟩),fun aX fU hD=>bG.good.obx k aX _ _ b (by simp[kB]) fU I aa hD⟩
   have RU:∀k b,k∈bW (a1 aZ)->iI ν' k b->w.heap.size<=b:=by
    intro k b J dR;obtain⟨own,_,I,_,_,bb⟩:=hn k b J dR;rcases I with I|I
    ·exfalso;rcases I with⟨aX,bt,a2⟩|⟨g,n,v,bt,_⟩
     ·cases aX with
      |loc m=>rw[iZ.1 m]at bt;cases bt
      |obj m=>exact bb _ (sF _ (uw kb _ bt)).2 (bG.fr.obj m b a2)
     ·rw[gT]at bt;simp[look]at bt
    ·exact I
   have uc:u4 ν' (fun b=> ∃k,k∈bW (a1 aZ)/\iI ν' k b) (bW (a1 aZ)):=by refine⟨bG.fr.trd,fun k aX b J fU I aa=>?_,fun k b J h=>⟨k,J,h⟩⟩;obtain⟨n,v,bt,a2⟩:=I;obtain⟨n',v',bS,bY⟩:=aa;obtain⟨_,cM⟩:=yw _ ok k J;obtain⟨_,c2⟩:=yw _ ok aX fU;exact bG.good.oinj k aX n n' v v' b (by simp[cM]) (by simp[c2]) bt bS a2 bY
   refine⟨_,fy,_,Pv.fold κ st'.e 0 (a1 aZ),aj,ν'.fold aj κ st'.e (a1 aZ),rfl,cy,?_,?_,?_,de,?_⟩
   ·show aw w' (ν'.fold aj κ st'.e (a1 aZ)) _ _;have hZ:aw w' ν' (a1 aZ) (if h:gV.toArray.size=1 then gV.toArray[0]else .tuple gV.toArray):=by
     match aZ,gV,g2,DI with
     |[p],[v],g2,_=>simp only[bP]at g2;obtain⟨u,a6,ah,aE,_⟩:=g2;cases ah;simpa[a1]using aE
     |[],[],g2,_=>simp[a1,aw,bP]
     |p::gz::aZ,v::v2::gV,g2,_=>rw[dif_neg Ψ];simp only[a1,aw];exact⟨_,rfl,by simpa using g2⟩
     |[_],[],_,h=>simp at h
     |[],_::_,_,h=>simp at h
     |[_],_::_::_,_,h=>simp at h
     |_::_::_,[],_,h=>simp at h
     |_::_::_,[_],_,h=>simp at h
    refine zR (μ:=ν'.fold aj κ st'.e (a1 aZ)) bG.good uc (fun b bF=>?_) (fun b o h=>.inl h) (fun k J own kB b dR o ag=>.inr ⟨k,J,own,kB,dR,ag⟩) (a1 aZ) _ 0 hZ ok nd (fun k J=>J) (fun i S aB b fT=>⟨rfl,S,by simpa using aB,fT⟩);obtain⟨k,J,dR⟩:=bF;obtain⟨_,_,_,_,aK,_⟩:=hn k b J dR;exact aK
   ·have j8:kU (aG aj) w' ν' w' (ν'.fold aj κ st'.e (a1 aZ)):=by
     refine⟨fun b o h=>⟨.inl h,rfl⟩,fun k b J h=>by simp only[aD.fold];rw[aD.cut_bx J];exact h,fun g n u Ah h=>?_,fun _ _ _=>rfl,fun k j b J h=>?_⟩
     ·obtain⟨cs,ch⟩:=ei.1 (sF g Ah).2;obtain⟨bl,us,el,ah,_⟩:=bG.good.box g cs ch;rcases bG.good.one g with I|I
      ·rw[I]at ah;cases ah
      ·rw[I]at h;cases h
     ·obtain⟨cs,ch⟩:=ei.1 (sF k J).2;obtain⟨bl,us,el,ah,_⟩:=bG.good.box k cs ch;rw[(bG.fr.trn k j b h).1]at ah;cases ah
    have hD:∀k bl,(ν'.fold aj κ st'.e (a1 aZ)).bx k=some bl->aG aj k/\ν'.bx k=some bl:=fun k bl h=>aD.cut_some h;refine⟨fun bl o aT=>?_,fun k cs J=>?_,fun k aX bl I aa ak aK=>?_,fun g o Ah=>?_,fun g dH n n' v v' bl I=>?_,fun g k n v bl I=>?_,fun k=>.inr rfl,fun bl au k j eF=>?_⟩
    ·rcases aT with aT|⟨k,J,own,_,dR,_⟩
     ·exact bG.good.alt bl o aT
     ·obtain⟨_,_,_,ak,_⟩:=hn k bl J dR;exact ak
    ·obtain⟨f1,f2,f3⟩:=bJ k cs J;obtain⟨bl,us,el,ah,aE,bg,cB,hc⟩:=bG.good.box k cs f1;refine⟨bl,us,el,j8.bx k bl f2 ah,aE,fun o aT=>?_,cB,Fb j8 f3 hc⟩;rcases aT with aT|⟨aX,fU,own,_,dR,_⟩
     ·exact bg o aT
     ·obtain⟨_,_,_,_,_,bb⟩:=hn aX bl fU dR;exact bb k (by simp[f1]) ah
    ·exact bG.good.inj k aX bl (sF k (.inl I)).2 (sF aX (.inl aa)).2 (hD k bl ak).2 (hD aX bl aK).2
    ·rw[hs'e]at Ah;simp[look]at Ah
    ·rw[hs'e]at I;simp[look]at I
    ·rw[hs'e]at I;simp[look]at I
    ·rcases au with⟨aX,bt,a2⟩|⟨g,n,v,bt,_⟩
     ·obtain⟨_,S,fT,dR⟩:=eF;obtain⟨bS,bY⟩:=hD aX bl a2;rcases wR _ j S fT bl dR with⟨cI,iW,I⟩|⟨⟨cI,i,_,I⟩,_⟩
      ·obtain⟨_,_,_,_,_,bb⟩:=hn cI bl iW I;exact bb aX (sF aX bS).2 bY
      ·exact bG.good.otr bl (.inl ⟨aX,(sF aX bS).2,bY⟩) cI i I
     ·rw[hs'e]at bt;simp[look]at bt
   ·intro k;refine⟨fun J=>?_,fun _=>rfl,fun j b h=>⟨κ,rfl,h.1⟩⟩;refine(aD.cut_no fun bq=>?_).1;have:=(sF k bq).1;rw[J]at this;cases this
   ·have JF:∀j b,(ν'.fold aj κ st'.e (a1 aZ)).tr (.loc κ) j b->w.heap.size<=b/\b<w'.heap.size:=by
     rintro j b ⟨_,S,fT,dR⟩;rcases wR _ j S fT b dR with⟨k,J,I⟩|⟨⟨k,i,fK,I⟩,_⟩
     ·obtain⟨_,_,_,ak,_⟩:=hn k b J I;exact⟨RU k b J I,ak⟩
     ·have:=bG.fr.trb k i b I;exact⟨this.1.resolve_left (EN _ ok _ fK),this.2⟩
    refine⟨bG.fr.os,bG.fr.tape,bG.fr.output,bG.fr.size,bG.fr.block,fun b o h=>⟨.inl (bG.fr.keep b o h).1,(bG.fr.keep b o h).2⟩,fun b o aT=>?_,fun n b h=>?_,fun n b h=>jL n (.inl (by rw[h];simp)),fun m n u h=>?_,fun m n u h=>jL m (.inr (by rw[h];simp)),fun k j aX dj b I aa=>?_,fun k j b h=>?_,fun k j b h=>?_,bG.fr.sh,fun j n u b ah aE=>(by cases ah)⟩
    ·rcases aT with aT|⟨k,J,own,_,dR,_⟩
     ·exact bG.fr.fresh b o aT
     ·obtain⟨_,_,aa,_⟩:=hn k b J dR;exact .inr aa
    ·have ao:aG aj (.obj n):=by
      cases kB:look (.obj n) s.b with
      |none=>rw[(ad _).1 kB]at h;cases h
      |some x=>exact uw kb _ (by simp[kB])
     simp only[aD.fold];rw[aD.cut_bx ao];exact bG.fr.obj n b h
    ·rw[(ad _).2.1 (by rw[gT];rfl)]at h;cases h
    ·obtain⟨rfl,S,bt,a2⟩:=I;obtain⟨rfl,iR,bS,bY⟩:=aa;exact⟨rfl,FC uc _ nd rd (fun k J=>J) j dj S iR bt bS b a2 bY⟩
    ·obtain⟨rfl,_⟩:=id h;exact⟨.inr (JF j b h).1,(JF j b h).2⟩
    ·obtain⟨rfl,_⟩:=h;refine⟨(aD.cut_no fun bq=>?_).1,rfl⟩;rcases bq with bq|bq
     ·rw[de.1 κ]at bq;cases bq
     ·rw[de.2 κ]at bq;cases bq
  rcases iC with rfl|rfl<;>exact jK
theorem FnK.mk{P:bp}(hm:P.follows .mixedOrders=true){aW:List (Nat×cm)}(au:dJ P aW=true){f:FuncId}{fn:Func}(aH:P.funcs[f]? =some fn){c:C}{cA:List cr}{n:Nat}(dM:c6 aW c cA n fn=true)
  {args:List ab} (aA:args.length<=n) {s:cZ} (iZ:gw s) (gT:s.e=[]) {κ:Nat} {Q:ab->cZ->Prop} (he:jf args->(∀j cs,look j s.b=some cs->fm cs=true->jg cs)->b3 P (dG s) c (dL cA s κ Q) ⟨gW 0 args,s.b,s.e,0,dG s⟩):FnK P f κ args s Q:=by
 unfold c6 at dM;split at dM
 ·rename_i code af;simp only[bA,oO,fH]at dM;obtain⟨⟨⟨I,aa⟩,ak⟩,aK⟩:=dM;exact FnK.of hm au aH af ak I aa (Nat.le_trans aA aK) iZ gT he
 ·cases dM
def kR(P:bp)(f:FuncId)(args:List ab)(r:Nat->ab):Prop:= ∀κ,FnK P f κ args ⟨[],[]⟩ fun cv aj=>cv=r κ/\aj=⟨[],[]⟩
theorem kR.mk{P:bp}(hm:P.follows .mixedOrders=true){aW:List (Nat×cm)}(au:dJ P aW=true){f:FuncId}{fn:Func}(aH:P.funcs[f]? =some fn){c:C}{cA:List cr}{n:Nat}(dM:c6 aW c cA n fn=true)
  {args:List ab} (aA:args.length<=n) {r:Nat->ab} (he:jf args->∀κ,b3 P [] c (dL cA ⟨[],[]⟩ κ fun cv aj=>cv=r κ/\aj=⟨[],[]⟩) ⟨gW 0 args,[],[],0,[]⟩):kR P f args r:=
 fun κ=>FnK.mk hm au aH dM aA oz rfl fun h _=>he h κ
theorem dL.val{cA:List cr}{κ:Nat}{r:ab}{e:Exit}{st:aN}(iC:e= .ret\/e= .normal)(h:match ba st cA with
  |some (c,aZ)=>c/\(cC st.e (a1 aZ)/\(b8 st.e (a1 aZ)).Nodup/\(bW (a1 aZ)).Nodup)/\fold κ st.e 0 (a1 aZ)=r
  |none=>cw):dL cA ⟨[],[]⟩ κ (fun cv aj=>cv=r/\aj=⟨[],[]⟩) e st:=by
 refine⟨iC,?_⟩;cases gf:ba st cA with
 |none=>simp[gf]at h
 |some x=>obtain⟨c,aZ⟩:=x;simp only[gf]at h⊢;exact⟨h.1,⟨[],[]⟩,rfl,trivial,fun k cs J=>by simp[look]at J,oz,h.2.1,h.2.2,rfl⟩
theorem CallDo.own{P:bp}{n:Nat}{args:List ab}{st:aN}{d:aV Nat}{K:aN->Prop}{r:Nat->ab}(J:kinL (fun _=>cw) args)(aH:kR P n args r)(pd: .loc st.n∉st.o)(h:K {st with t:=eD d (r st.n) st.t,n:=st.n+1}):CallDo P n args st d K:=by
 refine .inr ⟨⟨[],[]⟩,_,fun k cs J=>by simp[look]at J,fun k cs J=>by simp[look]at J,oz,lF (fun _ h=>h.elim) _ J,pd,aH st.n,?_⟩;rintro cv aj ⟨rfl,rfl⟩;refine⟨⟨fun m h=>by simp[look]at h,fun m h=>by simp[look]at h⟩,?_⟩;have:({after st ⟨[],[]⟩ ⟨[],[]⟩ d (r st.n)with n:=st.n+1}:aN)={st with t:=eD d (r st.n) st.t,n:=st.n+1}:=by simp[after,wZ,dG]
 rw[this];exact h
mutual
def bZ:ab->Nat
 | .slice _ _ []=>0
 | .slice _ _ (x::xs)=>1+(bZ x+cz xs)
 | .agg cs=>cz cs
 |_=>0
def cz:List ab->Nat
 |[]=>0
 |x::xs=>bZ x+cz xs
end
mutual
def eP:Nat->ab->ab
 |_,.slice sz _ []=>.slice sz .no []
 |b,.slice sz _ (_::xs)=>.row sz (.obj b) (xs.length+1)
 |b,.agg cs=>.agg (gE b cs)
 |_,p=>p
def gE:Nat->List ab->List ab
 |_,[]=>[]
 |b,x::xs=>eP b x::gE (b+bZ x) xs
end
mutual
def cR(ε:Nat->Nat):Nat->ab->List (aq×cq)
 |b,.slice sz _ (x::xs)=>(.obj b,⟨xs.length+1,ε b,sz,some (eP (b+1) x::gE (b+1+bZ x) xs)⟩)::(cR ε (b+1) x++fu ε (b+1+bZ x) xs)
 |b,.agg cs=>fu ε b cs
 |_,_=>[]
def fu(ε:Nat->Nat):Nat->List ab->List (aq×cq)
 |_,[]=>[]
 |b,x::xs=>cR ε b x++fu ε (b+bZ x) xs
end
theorem sf:∀(b:Nat) (xs:List ab),(gE b xs).length=xs.length
 |_,[]=>rfl
 |b,x::xs=>by simp[gE,sf _ xs]
mutual
theorem qm(ε:Nat->Nat):∀(p:ab) (b:Nat) (k:aq) (o:cq),look k (cR ε b p)=some o->∃m,k= .obj m/\b<=m/\m<b+bZ p
 | .slice sz t (x::xs),b,k,o,h=>by
  simp only[cR,look]at h;split at h
  ·rename_i e;exact⟨b,e.symm,cE _,by simp only[bZ];omega⟩
  ·rw[kH]at h;simp only[bZ];cases I:look k (cR ε (b+1) x)with
   |some y=>obtain⟨m,e,gP,ir⟩:=qm ε x _ k y I;exact⟨m,e,Ω,Ω⟩
   |none=>rw[I]at h;obtain⟨m,e,gP,ir⟩:=uA ε xs _ k o h;exact⟨m,e,Ω,Ω⟩
 | .agg cs,b,k,o,h=>by simp only[cR,bZ]at h⊢;exact uA ε cs b k o h
 | .slice _ _ [],_,_,_,h=>by simp[cR,look]at h
 | .int _ _,_,_,_,h=>by simp[cR,look]at h
 | .bool _,_,_,_,h=>by simp[cR,look]at h
 | .str _,_,_,_,h=>by simp[cR,look]at h
 | .junk,_,_,_,h=>by simp[cR,look]at h
 | .ptr _ _,_,_,_,h=>by simp[cR,look]at h
 | .eptr _,_,_,_,h=>by simp[cR,look]at h
 | .iface _ _,_,_,_,h=>by simp[cR,look]at h
 | .nilp,_,_,_,h=>by simp[cR,look]at h
 | .tuple _,_,_,_,h=>by simp[cR,look]at h
 | .func _ _,_,_,_,h=>by simp[cR,look]at h
 | .gmap _,_,_,_,h=>by simp[cR,look]at h
 | .row _ _ _,_,_,_,h=>by simp[cR,look]at h
 | .rptr _ _ _ _ _,_,_,_,h=>by simp[cR,look]at h
 | .hdm _ _,_,_,_,h=>by simp[cR,look]at h
 | .hdi _ _ _,_,_,_,h=>by simp[cR,look]at h
 | .cst _,_,_,_,h=>by simp[cR,look]at h
theorem uA(ε:Nat->Nat):∀(aZ:List ab) (b:Nat) (k:aq) (o:cq),look k (fu ε b aZ)=some o->∃m,k= .obj m/\b<=m/\m<b+cz aZ
 |[],_,_,_,h=>by simp[fu,look]at h
 |x::xs,b,k,o,h=>by
  simp only[fu]at h;rw[kH]at h;simp only[cz];cases I:look k (cR ε b x)with
  |some y=>obtain⟨m,e,gP,ir⟩:=qm ε x _ k y I;exact⟨m,e,Ω,Ω⟩
  |none=>rw[I]at h;obtain⟨m,e,gP,ir⟩:=uA ε xs _ k o h;exact⟨m,e,Ω,Ω⟩
end
structure pX (F:Nat->Prop) (ω:Nat->aV (Nat×Value)) (b c:Nat):Prop where
 dom:∀m,(ω m).isSome=true↔b<=m/\m<c
 blk:∀m n u,ω m=some (n,u)->∃bl,u.ownBlock=some bl/\F bl
 inj:∀m lb n n' u dw bl,ω m=some (n,u)->ω lb=some (n',dw)->u.ownBlock=some bl->dw.ownBlock=some bl->m=lb
def qL(w:World)(ω:Nat->aV (Nat×Value))(e:List (aq×cq)):Prop:= ∀μ:aD,(∀m x,ω m=some x->μ.ow (.obj m)=some x)->
 ∀k o,look k e=some o->∃u us,μ.ow k=some (o.n,u)/\w.ownsRow 0 o.el o.sz u o.n us/\∃xs,o.xs=some xs/\xs.length=o.n/\b4 w μ o.sz xs us
theorem pX.nil(F:Nat->Prop)(b:Nat):pX F (fun _=>none) b b:=⟨fun m=>by simp,fun _ _ _ h=>(by cases h),fun _ _ _ _ _ _ _ h=>by cases h⟩
def rf(c:Nat)(oM oN:Nat->aV (Nat×Value))(m:Nat):aV (Nat×Value):=if m<c then oM m else oN m
theorem J1{c:Nat}{oM oN:Nat->aV (Nat×Value)}{F:Nat->Prop}{b:Nat}(h:pX F oM b c){m:Nat}{x:Nat×Value}(ad:oM m=some x):rf c oM oN m=some x:=by unfold rf;rw[if_pos ((h.dom m).1 (by rw[ad];rfl)).2];exact ad
theorem J2{c d:Nat}{oM oN:Nat->aV (Nat×Value)}{F:Nat->Prop}(h:pX F oN c d){m:Nat}{x:Nat×Value}(ad:oN m=some x):rf c oM oN m=some x:=by unfold rf;rw[be (by have:=((h.dom m).1 (by rw[ad];rfl)).1;omega)];exact ad
theorem pX.join{F e2 e3:Nat->Prop}{oM oN:Nat->aV (Nat×Value)}{b c d:Nat}(I:pX e2 oM b c)(aa:pX e3 oN c d)(Yh:b<=c)(Dc:c<=d)(f1:∀x,e2 x->F x)(f2:∀x,e3 x->F x)(aF:∀x,e2 x->¬e3 x):pX F (rf c oM oN) b d:=by
 refine⟨fun m=>?_,fun m n u hm=>?_,fun m lb n n' u dw bl hm fc af dR=>?_⟩
 ·unfold rf;split
  ·rw[I.dom];omega
  ·rw[aa.dom];omega
 ·unfold rf at hm;split at hm
  ·obtain⟨bl,ah,aE⟩:=I.blk m n u hm;exact⟨bl,ah,f1 _ aE⟩
  ·obtain⟨bl,ah,aE⟩:=aa.blk m n u hm;exact⟨bl,ah,f2 _ aE⟩
 ·unfold rf at hm fc;split at hm<;>split at fc
  ·exact I.inj m lb n n' u dw bl hm fc af dR
  ·obtain⟨_,ah,aE⟩:=I.blk m n u hm;obtain⟨_,bg,cB⟩:=aa.blk lb n' dw fc;rw[af]at ah;rw[dR]at bg;cases ah;cases bg;exact absurd cB (aF _ aE)
  ·obtain⟨_,ah,aE⟩:=aa.blk m n u hm;obtain⟨_,bg,cB⟩:=I.blk lb n' dw fc;rw[af]at ah;rw[dR]at bg;cases ah;cases bg;exact absurd aE (aF _ cB)
  ·exact aa.inj m lb n n' u dw bl hm fc af dR
theorem qL.app{w:World}{ω:Nat->aV (Nat×Value)}{e fS:List (aq×cq)}(h:qL w ω e)(b6:qL w ω fS):qL w ω (e++fS):=fun μ mI k o J=>by
 rw[kH]at J;cases I:look k e with
 |some y=>rw[I]at J;cases J;exact h μ mI k _ I
 |none=>rw[I]at J;exact b6 μ mI k o J
theorem qL.sub{w:World}{ω MQ:Nat->aV (Nat×Value)}{e:List (aq×cq)}(h:qL w ω e)(ao:∀m x,ω m=some x->MQ m=some x):qL w MQ e:=fun μ mI=>h μ fun m x ad=>mI m x (ao m x ad)
theorem Is{t:Bool}{w:World}{A:Nat->Nat->Prop}{sz:Nat}:∀{xs:List ab} {F:Nat->Prop} {us:List Value},hA t w A F sz xs us->us.length=xs.length*sz
 |[],_,us,h=>by simp only[hA]at h;subst h;simp
 |x::xs,F,us,h=>by
  simp only[hA]at h;obtain⟨u,a6,e2,e3,rfl,_,⟨_,aa,_⟩,bb⟩:=h;have:u.cells.toList.length=sz:=by simpa using aa
  rw[jA,this,Is bb,lN,Nat.succ_mul];omega
def lS(w:World)(F:Nat->Prop)(b c:Nat)(e:(Nat->Nat)->List (aq×cq))(R:aD->Prop):Prop:=∃(ε:Nat->Nat) (ω:Nat->aV (Nat×Value)),pX F ω b c/\qL w ω (e ε)/\∀μ:aD,(∀m x,ω m=some x->μ.ow (.obj m)=some x)->R μ
theorem lS.flat{w:World}{F:Nat->Prop}{b:Nat}{R:aD->Prop}(h:∀μ,R μ):lS w F b b (fun _=>[]) R:=⟨fun _=>0,fun _=>none,pX.nil F b,fun _ _ k o J=>by simp[look]at J,fun μ _=>h μ⟩
mutual
theorem BI{ε ε':Nat->Nat}:∀(p:ab) (b:Nat),(∀m,b<=m->m<b+bZ p->ε m=ε' m)->cR ε b p=cR ε' b p
 | .slice sz t (x::xs),b,h=>by simp only[bZ]at h;simp only[cR];rw[h b Ω Ω,BI x (b+1) fun m I aa=>h m Ω Ω,yW xs (b+1+bZ x) fun m I aa=>h m Ω Ω]
 | .agg cs,b,h=>by simp only[cR,bZ]at h⊢;exact yW cs b h
 | .slice _ _ [],_,_=>rfl
 | .int _ _,_,_=>rfl
 | .bool _,_,_=>rfl
 | .str _,_,_=>rfl
 | .junk,_,_=>rfl
 | .ptr _ _,_,_=>rfl
 | .eptr _,_,_=>rfl
 | .iface _ _,_,_=>rfl
 | .nilp,_,_=>rfl
 | .tuple _,_,_=>rfl
 | .func _ _,_,_=>rfl
 | .gmap _,_,_=>rfl
 | .row _ _ _,_,_=>rfl
 | .rptr _ _ _ _ _,_,_=>rfl
 | .hdm _ _,_,_=>rfl
 | .hdi _ _ _,_,_=>rfl
 | .cst _,_,_=>rfl
theorem yW{ε ε':Nat->Nat}:∀(aZ:List ab) (b:Nat),(∀m,b<=m->m<b+cz aZ->ε m=ε' m)->fu ε b aZ=fu ε' b aZ
 |[],_,_=>rfl
 |x::xs,b,h=>by simp only[cz]at h;simp only[fu];rw[BI x b fun m I aa=>h m Ω Ω,yW xs (b+bZ x) fun m I aa=>h m Ω Ω]
end
theorem lS.two{w:World}{F e2 e3:Nat->Prop}{x:ab}{xs:List ab}{b:Nat}{Gu B7 R:aD->Prop}(I:lS w e2 b (b+bZ x) (fun ε=>cR ε b x) Gu)(aa:lS w e3 (b+bZ x) (b+bZ x+cz xs) (fun ε=>fu ε (b+bZ x) xs) B7)
  (f1:∀b,e2 b->F b) (f2:∀b,e3 b->F b) (aF:∀b,e2 b->¬e3 b) (bF:∀μ,Gu μ->B7 μ->R μ):lS w F b (b+(bZ x+cz xs)) (fun ε=>cR ε b x++fu ε (b+bZ x) xs) R:=by
 obtain⟨ε1,oM,bt,a2,a3⟩:=I;obtain⟨ε2,oN,cM,c2,c3⟩:=aa;refine⟨fun m=>if m<b+bZ x then ε1 m else ε2 m,rf (b+bZ x) oM oN,by rw[<-Nat.add_assoc];exact bt.join cM Ω Ω f1 f2 aF,?_,fun μ mI=>bF μ (a3 μ fun m y bk=>mI m y (J1 bt bk)) (c3 μ fun m y bk=>mI m y (J2 cM bk))⟩;refine qL.app ?_ ?_
 ·rw[BI (ε':=ε1) x b fun m I aa=>by rw[if_pos aa]];exact a2.sub fun m y bk=>J1 bt bk
 ·rw[yW (ε':=ε2) xs (b+bZ x) fun m I aa=>by rw[be Ω]];exact c2.sub fun m y bk=>J2 cM bk
mutual
theorem FM{w:World}{A:Nat->Nat->Prop}:∀(p:ab) (F:Nat->Prop) (v:Value) (b:Nat),bQ true w A F p v->lS w F b (b+bZ p) (fun ε=>cR ε b p) fun μ=>aw w μ (eP b p) v
 | .int k n,F,v,b,h=>lS.flat fun μ=>by simpa only[bQ,eP,aw]using h
 | .bool _,F,v,b,h=>lS.flat fun μ=>by simpa only[bQ,eP,aw]using h
 | .str s,F,v,b,h=>lS.flat fun μ=>by simpa only[bQ,eP,aw]using h
 | .slice sz tag [],F,v,b,h=>lS.flat fun μ=>by simp only[bQ]at h;obtain⟨a,cap,I,aa,ak,_⟩:=h;simp only[eP,aw];exact⟨⟨a,cap,I,aa,ak,.inl trivial⟩,fun e=>(by cases e),fun _ e=>(by cases e),fun _ _ e=>(by cases e),fun _ e=>(by cases e)⟩
 | .agg cs,F,v,b,h=>by simp only[bQ]at h;obtain⟨us,rfl,aa⟩:=h;obtain⟨ε,ω,bt,a2,a3⟩:=Mi cs F us.toList b aa;exact⟨ε,ω,bt,a2,fun μ mI=>by simp only[eP,aw];exact⟨us,rfl,a3 μ mI⟩⟩
 | .slice sz tag (x::xs),F,v,b,h=>by
  simp only[bQ]at h;obtain⟨a,cap,I,aa,ak,aK⟩:=h;rcases aK with aK|⟨g,off,us,G,rfl,aE,bg,cB,hc,e0⟩
  ·cases aK
  obtain⟨rfl,fN,el,fq⟩:=hc trivial;obtain⟨ε,ω,bt,a2,a3⟩:=Mh sz (x::xs) G us (b+1) e0;have hlen:=Is e0;have Jg:¬G g:=fun aP=>(bg g aP).2 trivial rfl;have q1:∃cur,w.heap[g]? =some (.cells cur el (0,0))/\cur.size=cap*sz:=by
   unfold shape at fq;split at fq
   ·rename_i cur dQ fz az;simp only[dv,hx]at fq;obtain⟨bJ,rfl,rfl⟩:=fq;exact⟨cur,az,bJ⟩
   ·cases fq
  obtain⟨cur,az,ch⟩:=q1;have hle:(x::xs).length*sz<=cur.size:=by rw[ch];exact Nat.mul_le_mul_right _ aa
  have yc:cur.toList.take ((x::xs).length*sz)=us:=by
   apply List.ext_getElem?;intro i;rw[List.getElem?_take];by_cases aB:i<(x::xs).length*sz
   ·rw[if_pos aB];obtain⟨u,hu⟩:∃u,us[i]? =some u:=⟨_,eh (by rw[hlen];exact aB)⟩;have l1:=(qk cB hu).2;simp only[World.cell?,Nat.zero_add,az,qF,ia,if_false]at l1;rw[hu];simpa using l1
   ·rw[be aB,List.getElem?_eq_none (by rw[hlen];omega)]
  have Ri:∀m y,ω m=some y->m≠b:=fun m y hm e=>by have:=(bt.dom m).1 (by rw[hm];rfl);omega
  refine⟨fun m=>if m=b then el else ε m,fun m=>if m=b then some ((x::xs).length,v)else ω m,?_,?_,?_⟩
  ·refine⟨fun m=>?_,fun m n u hm=>?_,fun m lb n n' u dw bl hm fc af dR=>?_⟩
   ·simp only[bZ];by_cases e:m=b
    ·subst e;simp;omega
    ·rw[be e,bt.dom];simp only[cz];omega
   ·split at hm
    ·cases hm;exact⟨g,by rw[I];rfl,aE⟩
    ·obtain⟨bl,bJ,cj⟩:=bt.blk m n u hm;exact⟨bl,bJ,(bg bl cj).1⟩
   ·split at hm<;>split at fc
    ·rename_i bJ cj;rw[bJ,cj]
    ·cases hm;obtain⟨_,bJ,cj⟩:=bt.blk lb n' dw fc;rw[dR]at bJ;cases bJ;rw[I]at af;cases af;exact absurd cj Jg
    ·cases fc;obtain⟨_,bJ,cj⟩:=bt.blk m n u hm;rw[af]at bJ;cases bJ;rw[I]at dR;cases dR;exact absurd cj Jg
    ·exact bt.inj m lb n n' u dw bl hm fc af dR
  ·intro μ mI k o J;have JK:∀m y,ω m=some y->μ.ow (.obj m)=some y:=fun m y hm=>mI m y ((be (Ri m y hm)).trans hm);simp only[cR,look]at J;split at J
   ·rename_i Oi;subst Oi;cases J;refine⟨v,us,?_,⟨by rw[hlen];rfl,.inr ⟨g,cap,cur,I,Nat.zero_le _,by simpa using az,aa,ak.1,ch,yc⟩⟩,_,rfl,by simp[sf],?_⟩
    ·exact mI b _ Ψ
    ·exact(a3 μ JK)
   ·have DL:(cR (fun m=>if m=b then el else ε m) (b+1) x++fu (fun m=>if m=b then el else ε m) (b+1+bZ x) xs)=fu ε (b+1) (x::xs):=by simp only[fu];rw[BI (ε':=ε) x (b+1) fun m I _=>by rw[be Ω],yW (ε':=ε) xs (b+1+bZ x) fun m I _=>by rw[be Ω]]
    rw[DL]at J;exact a2 μ JK k o J
  ·intro μ mI;simp only[eP,aw];exact⟨⟨g,cap,I⟩,ak.2,(x::xs).length,v,mI b _ Ψ,cE _,fun _=>rfl⟩
 | .junk,_,_,_,h=>by simp[bQ]at h
 | .ptr _ _,_,_,_,h=>by simp[bQ]at h
 | .eptr _,_,_,_,h=>by simp[bQ]at h
 | .iface _ _,_,_,_,h=>by simp[bQ]at h
 | .nilp,_,_,_,h=>by simp[bQ]at h
 | .tuple _,_,_,_,h=>by simp[bQ]at h
 | .func _ _,_,_,_,h=>by simp[bQ]at h
 | .gmap _,_,_,_,h=>by simp[bQ]at h
 | .row _ _ _,_,_,_,h=>by simp[bQ]at h
 | .rptr _ _ _ _ _,_,_,_,h=>by simp[bQ]at h
 | .hdm _ _,_,_,_,h=>by simp[bQ]at h
 | .hdi _ _ _,_,_,_,h=>by simp[bQ]at h
 | .cst _,_,_,_,h=>by simp[bQ]at h
theorem Mi{w:World}{A:Nat->Nat->Prop}:∀(cs:List ab) (F:Nat->Prop) (us:List Value) (b:Nat),h1 true w A F cs us->lS w F b (b+cz cs) (fun ε=>fu ε b cs) fun μ=>bV w μ (gE b cs) us
 |[],F,us,b,h=>lS.flat fun μ=>by simpa only[h1,gE,bV]using h
 |c::cs,F,us,b,h=>by simp only[h1]at h;obtain⟨u,a6,e2,e3,rfl,⟨f1,f2,f3⟩,⟨g1,g2⟩,g3⟩:=h;simp only[cz,fu,gE];exact(FM c e2 u b g1).two (Mi cs e3 a6 (b+bZ c) g3) f1 f2 (f3 trivial) fun μ eH fB=>by simp only[bV];exact⟨u,a6,rfl,⟨eH,g2⟩,fB⟩
theorem Mh{w:World}{A:Nat->Nat->Prop}(sz:Nat):∀(cs:List ab) (F:Nat->Prop) (us:List Value) (b:Nat),hA true w A F sz cs us->lS w F b (b+cz cs) (fun ε=>fu ε b cs) fun μ=>b4 w μ sz (gE b cs) us
 |[],F,us,b,h=>lS.flat fun μ=>by simpa only[hA,gE,b4]using h
 |c::cs,F,us,b,h=>by simp only[hA]at h;obtain⟨u,a6,e2,e3,rfl,⟨f1,f2,f3⟩,⟨g1,g2,g4⟩,g3⟩:=h;simp only[cz,fu,gE];exact(FM c e2 u b g1).two (Mh sz cs e3 a6 (b+bZ c) g3) f1 f2 (f3 trivial) fun μ eH fB=>by simp only[b4];exact⟨u,a6,rfl,⟨eH,g2,g4⟩,fB⟩
end
mutual
def cb:ab->Prop
 | .int _ _=>True
 | .bool _=>True
 | .str _=>True
 | .slice sz _ xs=>0<sz/\dtL xs
 | .agg cs=>dtL cs
 |_=>cw
def dtL:List ab->Prop
 |[]=>True
 |x::xs=>cb x/\dtL xs
end
mutual
theorem CE{w:World}{ν:aD}{F:Nat->Prop}(ez:∀b o,ν.A b o->F b):∀(p:ab) (v:Value),aw w ν p v->cb p->bQ false w ν.A F (bC p) v
 | .int k n,v,h,_=>by simpa only[aw,bC,bQ]using h
 | .bool b,v,h,_=>by simpa only[aw,bC,bQ]using h
 | .str s,v,h,_=>by simpa only[aw,bC,bQ]using h
 | .slice sz tag xs,v,h,aF=>by
  simp only[aw]at h;simp only[cb]at aF;obtain⟨⟨a,cap,I,aa,ak,aK⟩,_⟩:=h;simp only[bC,bQ,kf];refine⟨a,cap,I,aa,ak,?_⟩;rcases aK with rfl|⟨b,off,us,ah,aE,bg⟩
  ·exact .inl rfl
  ·cases xs with
   |nil=>exact .inl rfl
   |cons x xs=>
    have aA:=nI bg;have af:F b:=by
     cases us with
     |nil=>have bb:0<(x::xs).length*sz:=Nat.mul_pos Ψ aF.1;rw[<-aA]at bb;simp at bb
     |cons u us=>exact ez b _ aE.1.1
    exact .inr ⟨b,off,us,F,ah,af,fun c az=>⟨az,fun e=>(by cases e)⟩,aE,fun e=>(by cases e),HV ez sz _ us bg aF.2⟩
 | .agg cs,v,h,aF=>by simp only[aw,cb,bC,bQ]at h aF⊢;obtain⟨us,I,aa⟩:=h;exact⟨us,I,HW ez cs _ aa aF⟩
 | .junk,_,_,aF=>by simp[cb]at aF
 | .ptr _ _,_,_,aF=>by simp[cb]at aF
 | .eptr _,_,_,aF=>by simp[cb]at aF
 | .iface _ _,_,_,aF=>by simp[cb]at aF
 | .nilp,_,_,aF=>by simp[cb]at aF
 | .tuple _,_,_,aF=>by simp[cb]at aF
 | .func _ _,_,_,aF=>by simp[cb]at aF
 | .gmap _,_,_,aF=>by simp[cb]at aF
 | .row _ _ _,_,_,aF=>by simp[cb]at aF
 | .rptr _ _ _ _ _,_,_,aF=>by simp[cb]at aF
 | .hdm _ _,_,_,aF=>by simp[cb]at aF
 | .hdi _ _ _,_,_,aF=>by simp[cb]at aF
 | .cst _,_,_,aF=>by simp[cb]at aF
theorem HW{w:World}{ν:aD}{F:Nat->Prop}(ez:∀b o,ν.A b o->F b):∀(cs:List ab) (us:List Value),bV w ν cs us->dtL cs->h1 false w ν.A F (bz cs) us
 |[],us,h,_=>by simpa only[bV,bz,h1]using h
 |c::cs,us,h,aF=>by simp only[bV,dtL,bz,h1]at h aF⊢;obtain⟨u,a6,I,⟨aa,ak⟩,aK⟩:=h;exact⟨u,a6,F,F,I,⟨fun _ h=>h,fun _ h=>h,fun e=>(by cases e)⟩,⟨CE ez c u aa aF.1,ak⟩,HW ez cs a6 aK aF.2⟩
theorem HV{w:World}{ν:aD}{F:Nat->Prop}(ez:∀b o,ν.A b o->F b)(sz:Nat):∀(cs:List ab) (us:List Value),b4 w ν sz cs us->dtL cs->hA false w ν.A F sz (bz cs) us
 |[],us,h,_=>by simpa only[b4,bz,hA]using h
 |c::cs,us,h,aF=>by simp only[b4,dtL,bz,hA]at h aF⊢;obtain⟨u,a6,I,⟨aa,ak⟩,aK⟩:=h;exact⟨u,a6,F,F,I,⟨fun _ h=>h,fun _ h=>h,fun e=>(by cases e)⟩,⟨CE ez c u aa aF.1,ak⟩,HV ez sz cs a6 aK aF.2⟩
end
theorem Kq{w:World}{μ:aD}{k:aq}{sz:Nat}{tag:jZ}{ys:List ab}{v:Value}(h:bQ false w μ.A (μ.tr k 0) (.slice sz tag ys) v)(bk:bz ys=ys):aw w μ (.slice sz (.lo k) ys) v:=by have I:=zV (ν:=μ) (fun _ _ h=>h) _ _ _ h;simp only[bC,bk]at I;simp only[aw]at I⊢;refine⟨I.1,fun e=>(by cases e),fun _ e=>(by cases e),fun _ _ e=>(by cases e),fun aX e=>?_⟩;cases e;simp only[bQ]at h⊢;exact h
mutual
def iJ:ab->ab
 | .int k n=>.int k n
 | .bool b=>.bool b
 | .str s=>.str s
 | .slice sz _ xs=>.slice sz (.lo cV) (bz xs)
 | .agg cs=>.agg (td cs)
 | .ptr k o=>.ptr k o
 | .nilp=>.nilp
 |_=>.junk
def td:List ab->List ab
 |[]=>[]
 |x::xs=>iJ x::td xs
end
mutual
def te:ab->Prop
 | .slice sz _ xs=>0<sz/\dtL xs
 | .agg cs=>uQ cs
 |_=>True
def uQ:List ab->Prop
 |[]=>True
 |x::xs=>te x/\uQ xs
end
def wN(ν:aD):aD:={ν with tr:=fun k j b=>k=cV/\j=0/\∃o,ν.A b o}
mutual
theorem LS{w:World}{ν:aD}:∀(p:ab) (v:Value),aw w ν p v->te p->aw w (wN ν) (iJ p) v
 | .int k n,v,h,_=>by simpa only[aw,iJ]using h
 | .bool b,v,h,_=>by simpa only[aw,iJ]using h
 | .str s,v,h,_=>by simpa only[aw,iJ]using h
 | .slice sz tag xs,v,h,aF=>by have I:=CE (F:=fun b=> ∃o,ν.A b o) (fun b o h=>⟨o,h⟩) _ v h (by simpa only[cb,te]using aF);simp only[iJ];refine Kq (μ:=wN ν) (tag:= .no) ?_ (pL xs);simp only[bC]at I;exact p5 (fun _ _ h=>⟨h,rfl⟩) (fun _ _ _=>rfl) _ _ _ v (fun b af=>⟨rfl,rfl,af⟩) I
 | .agg cs,v,h,aF=>by simp only[aw,iJ,te]at h aF⊢;obtain⟨us,I,aa⟩:=h;exact⟨us,I,Fy cs _ aa aF⟩
 | .ptr k o,v,h,_=>by simp only[aw,iJ]at h⊢;exact h
 | .nilp,v,h,_=>by simp only[aw,iJ]at h⊢;exact h
 | .junk,_,_,_=>by simp[iJ,aw]
 | .eptr _,_,_,_=>by simp[iJ,aw]
 | .iface _ _,_,_,_=>by simp[iJ,aw]
 | .tuple _,_,_,_=>by simp[iJ,aw]
 | .func _ _,_,_,_=>by simp[iJ,aw]
 | .gmap _,_,_,_=>by simp[iJ,aw]
 | .row _ _ _,_,_,_=>by simp[iJ,aw]
 | .rptr _ _ _ _ _,_,_,_=>by simp[iJ,aw]
 | .hdm _ _,_,_,_=>by simp[iJ,aw]
 | .hdi _ _ _,_,_,_=>by simp[iJ,aw]
 | .cst _,_,_,_=>by simp[iJ,aw]
theorem Fy{w:World}{ν:aD}:∀(cs:List ab) (us:List Value),bV w ν cs us->uQ cs->bV w (wN ν) (td cs) us
 |[],us,h,_=>by simpa only[bV,td]using h
 |c::cs,us,h,aF=>by simp only[bV,td,uQ]at h aF⊢;obtain⟨u,a6,I,⟨aa,ak⟩,aK⟩:=h;exact⟨u,a6,I,⟨LS c u aa aF.1,ak⟩,Fy cs a6 aK aF.2⟩
end
def BP(l:List (Nat×ab)):List (Nat×ab):=l.map fun x=>(x.1,iJ x.2)
def y0(l:List (aq×List ab)):List (aq×List ab):=l.map fun x=>(x.1,td x.2)
def qv(st:aN):aN:=⟨BP st.t,y0 st.b,[],st.n,cV::st.o⟩
def BO:List (Nat×ab)->Prop
 |[]=>True
 |(_,p)::r=>te p/\BO r
def BN:List (aq×List ab)->Prop
 |[]=>True
 |(_,cs)::r=>(fm cs=true/\uQ cs)/\BN r
def BM(st:aN):Prop:=cV∉st.o/\BO st.t/\BN st.b
theorem C0{f:ab->ab}(av:f .junk= .junk)(i:Nat):∀l:List (Nat×ab),get i (l.map fun x=>(x.1,f x.2))=f (get i l)
 |[]=>by simp[get,av]
 |(j,p)::r=>by
  simp only[gZ,get];split
  ·rfl
  ·exact C0 av i r
theorem AV{f:List ab->List ab}(k:aq):∀l:List (aq×List ab),look k (l.map fun x=>(x.1,f x.2))=(look k l).map f
 |[]=>rfl
 |(j,p)::r=>by
  simp only[gZ,look];split
  ·rfl
  ·exact AV k r
theorem LR:∀{l:List (Nat×ab)} (i:Nat),BO l->te (get i l)
 |[],_,_=>by simp[get,te]
 |(j,p)::r,i,h=>by
  simp only[get];split
  ·exact h.1
  ·exact LR i h.2
theorem LQ:∀{l:List (aq×List ab)} {k:aq} {cs:List ab},BN l->look k l=some cs->fm cs=true/\uQ cs
 |[],_,_,_,h=>by simp[look]at h
 |(j,p)::r,k,cs,h,J=>by
  simp only[look]at J;split at J
  ·cases J;exact h.1
  ·exact LQ h.2 J
theorem Ve{C:dh}{st:aN}{a:Act}{w:World}{ν:aD}(h:bH C st a w ν)(hex:C.ex=[])(az:BM st):bH C (qv st) a w (wN ν):=by
 obtain⟨cM,c2,c3⟩:=az;obtain⟨ft,eM,_⟩:=h.new cV ⟨trivial,cM⟩;have fV:∀k cs,look k (y0 st.b)=some cs->∃cn,look k st.b=some cn/\cs=td cn:=fun k cs J=>by
  rw[y0,AV]at J;cases aA:look k st.b with
  |none=>rw[aA]at J;cases J
  |some cn=>rw[aA]at J;cases J;exact⟨cn,rfl,rfl⟩
 have nt:∀k,(look k (y0 st.b)).isSome->(look k st.b).isSome:=fun k J=>by obtain⟨cs,ch⟩:=ei.1 J;obtain⟨cn,e,_⟩:=fV k cs ch;simp[e]
 refine⟨⟨h.good.alt,fun k cs J=>?_,fun k aX bl I aa=>h.good.inj k aX bl (nt k I) (nt aX aa),fun g o aP=>by simp[qv,look]at aP,fun g dH n n' v v' bl aP=>by simp[qv,look]at aP,fun g k n v bl aP=>by simp[qv,look]at aP,h.good.one,fun bl au k j af=>?_⟩,
  ⟨h.fr.os,h.fr.tape,h.fr.output,h.fr.size,h.fr.block,h.fr.keep,h.fr.fresh,h.fr.obj,h.fr.obn,h.fr.row,h.fr.obr,fun k j aX dj b I aa=>⟨I.1.trans aa.1.symm,I.2.1.trans aa.2.1.symm⟩,fun k j b af=>⟨.inl af.1,?_⟩,fun k j b af=>by rw[af.1];exact⟨ft,eM⟩,h.fr.sh,h.fr.nrow⟩,h.defers,h.size,fun i=>?_,fun k J=>?_,fun x ad=>(by rw[hex]at ad;cases ad),fun m hm aH=>h.obk m hm (oh (cE _) (fun _ h=>by simp[qv,h]) aH)⟩
 ·obtain⟨cn,ah,rfl⟩:=fV k cs J;obtain⟨bl,us,el,g1,g2,g3,g4,g5⟩:=h.good.box k cn ah;obtain⟨gy,gz⟩:=LQ c3 ah;rw[lk gy]at g5;rw[lJ gy]at g4;have g6:=Fy cn _ g5 gz;have mP:=qu g6;exact⟨bl,us,el,g1,g2,g3,by rw[lJ mP];exact g4,by rw[lk mP];exact g6⟩
 ·obtain⟨_,_,o,ag⟩:=af;rcases au with⟨aX,ah,aE⟩|⟨g,n,v,ah,_⟩
  ·obtain⟨cn,fJ⟩:=ei.1 (nt aX ah);obtain⟨fC,us,el,g1,g2,g3,_⟩:=h.good.box aX cn fJ;rw[show(wN ν).bx aX=ν.bx aX from rfl,g1]at aE;cases aE;exact g3 o ag
  ·simp[qv,look]at ah
 ·obtain⟨_,_,o,ag⟩:=af;exact h.good.alt b o ag
 ·show aw w (wN ν) (get i (BP st.t)) _;rw[BP,C0 (by simp[iJ])];exact LS _ _ (h.slot i) (LR i c2)
 ·obtain⟨bJ,cj⟩:=J;have de:k≠cV/\k∉st.o:=by simpa[qv]using cj
  obtain⟨m1,m2,_⟩:=h.new k ⟨bJ,de.2⟩;exact⟨m1,m2,fun j b af=>de.1 af.1⟩
end
section
open Go Go.RowKit
theorem Kn{w:World}{A A':Nat->Nat->Prop}{b:Nat}(aT:∀o,A b o->A' b o):∀(us:List Value) (off:Nat),h5 w A b off us->h5 w A' b off us
 |[],_,_=>trivial
 |_::us,off,h=>⟨⟨aT _ h.1.1,h.1.2⟩,Kn aT us (off+1) h.2⟩
mutual
theorem zU{t:Bool}{w:World}{A A':Nat->Nat->Prop}:∀(p:ab) (F:Nat->Prop) (v:Value),(∀b o,F b->A b o->A' b o)->bQ t w A F p v->bQ t w A' F p v
 | .int k n,_,_,_,h=>by simp only[bQ]at h⊢;exact h
 | .bool b,_,_,_,h=>by simp only[bQ]at h⊢;exact h
 | .str s,_,_,_,h=>by simp only[bQ]at h⊢;exact h
 | .slice sz tag xs,F,v,aT,h=>by
  simp only[bQ]at h⊢;obtain⟨a,cap,I,aa,ak,aK⟩:=h;refine⟨a,cap,I,aa,ak,?_⟩;rcases aK with aK|⟨b,off,us,G,ah,aE,bg,cB,hc,e0⟩
  ·exact .inl aK
  ·exact .inr ⟨b,off,us,G,ah,aE,bg,Kn (fun o=>aT b o aE) _ _ cB,hc,Iw sz xs G us (fun c o az=>aT c o (bg c az).1) e0⟩
 | .agg cs,F,v,aT,h=>by simp only[bQ]at h⊢;obtain⟨us,I,aa⟩:=h;exact⟨us,I,Ix cs F _ aT aa⟩
 | .junk,_,_,_,h=>by simp[bQ]at h
 | .ptr _ _,_,_,_,h=>by simp[bQ]at h
 | .eptr _,_,_,_,h=>by simp[bQ]at h
 | .iface _ _,_,_,_,h=>by simp[bQ]at h
 | .nilp,_,_,_,h=>by simp[bQ]at h
 | .tuple _,_,_,_,h=>by simp[bQ]at h
 | .func _ _,_,_,_,h=>by simp[bQ]at h
 | .gmap _,_,_,_,h=>by simp[bQ]at h
 | .row _ _ _,_,_,_,h=>by simp[bQ]at h
 | .rptr _ _ _ _ _,_,_,_,h=>by simp[bQ]at h
 | .hdm _ _,_,_,_,h=>by simp[bQ]at h
 | .hdi _ _ _,_,_,_,h=>by simp[bQ]at h
 | .cst _,_,_,_,h=>by simp[bQ]at h
theorem Ix{t:Bool}{w:World}{A A':Nat->Nat->Prop}:∀(cs:List ab) (F:Nat->Prop) (us:List Value),(∀b o,F b->A b o->A' b o)->h1 t w A F cs us->h1 t w A' F cs us
 |[],_,_,_,h=>by simp only[h1]at h⊢;exact h
 |c::cs,F,us,aT,h=>by simp only[h1]at h⊢;obtain⟨u,a6,e2,e3,I,⟨aa,ak,aK⟩,⟨bb,ct⟩,dZ⟩:=h;exact⟨u,a6,e2,e3,I,⟨aa,ak,aK⟩,⟨zU c e2 u (fun b o af=>aT b o (aa b af)) bb,ct⟩,Ix cs e3 a6 (fun b o af=>aT b o (ak b af)) dZ⟩
theorem Iw{t:Bool}{w:World}{A A':Nat->Nat->Prop}(sz:Nat):∀(cs:List ab) (F:Nat->Prop) (us:List Value),(∀b o,F b->A b o->A' b o)->hA t w A F sz cs us->hA t w A' F sz cs us
 |[],_,_,_,h=>by simp only[hA]at h⊢;exact h
 |c::cs,F,us,aT,h=>by simp only[hA]at h⊢;obtain⟨u,a6,e2,e3,I,⟨aa,ak,aK⟩,⟨bb,ct⟩,dZ⟩:=h;exact⟨u,a6,e2,e3,I,⟨aa,ak,aK⟩,⟨zU c e2 u (fun b o af=>aT b o (aa b af)) bb,ct⟩,Iw sz cs e3 a6 (fun b o af=>aT b o (ak b af)) dZ⟩
end
mutual
def hR(N:List (aq×Nat)):ab->ab
 | .int k n=>.int k n
 | .bool b=>.bool b
 | .str s=>.str s
 | .slice sz tag xs=>match tag with
  | .tr k j=>if(k,j)∈N then .junk else .slice sz (.tr k j) (bz xs)
  | .lo k=>if(k,0)∈N then .junk else .slice sz (.lo k) (bz xs)
  | .nil=>.slice sz .nil []
  |_=>match xs with
   |[]=>.slice sz .no []
   |_=>.junk
 | .agg cs=>.agg (lV N cs)
 | .tuple cs=>.tuple (lV N cs)
 | .ptr k o=>.ptr k o
 | .nilp=>.nilp
 |_=>.junk
def lV(N:List (aq×Nat)):List ab->List ab
 |[]=>[]
 |x::xs=>hR N x::lV N xs
end
def iK(ν:aD)(N:List (aq×Nat))(ω:Nat->aV (Nat×Value)):aD:={A:=fun b o=>ν.A b o/\¬iG ν N b,bx:=ν.bx,ow:=fun k=>match k with| .obj m=>(match ω m with|some x=>some x|none=>ν.ow k)|k=>ν.ow k,tr:=fun k j b=>ν.tr k j b/\(k,j)∉N}
section
variable {w:World} {ν:aD} {N:List (aq×Nat)} {ω:Nat->aV (Nat×Value)} (eF:∀k j aX dj b,ν.tr k j b->ν.tr aX dj b->k=aX/\j=dj)
include eF
theorem Mg{k:aq}{j:Nat}(aR:(k,j)∉N){b o:Nat}(af:ν.tr k j b)(aT:ν.A b o):(iK ν N ω).A b o:=by refine⟨aT,?_⟩;rintro⟨aX,dj,I,aa⟩;obtain⟨rfl,rfl⟩:=eF k j aX dj b af aa;exact aR I
mutual
theorem Cf:∀(p:ab) (v:Value),aw w ν p v->aw w (iK ν N ω) (hR N p) v
 | .int k n,v,h=>by simpa only[aw,hR]using h
 | .bool b,v,h=>by simpa only[aw,hR]using h
 | .str s,v,h=>by simpa only[aw,hR]using h
 | .slice sz tag xs,v,h=>by
  simp only[aw]at h;obtain⟨⟨a,cap,I,aa,ak,aK⟩,bb,_,dZ,hS⟩:=h;have ph:xs=[]->aw w (iK ν N ω) (.slice sz .no []) v:=fun e=>by subst e;simp only[aw];exact⟨⟨a,cap,I,aa,ak,.inl trivial⟩,fun e=>(by cases e),fun _ e=>(by cases e),fun _ _ e=>(by cases e),fun _ e=>(by cases e)⟩
  simp only[hR];cases tag with
  |tr k j=>
   simp only;split
   ·simp[aw]
   ·rename_i aR;refine BY (tag:= .no) ?_ (pL xs);refine p5 (A:=(iK ν N ω).A) (fun _ _ h=>⟨h,rfl⟩) (fun _ _ _=>rfl) _ (ν.tr k j) _ v (fun b af=>⟨af,aR⟩) ?_;exact zU _ _ v (fun b o af aT=>Mg eF aR af aT) (xE .no v (dZ k j rfl))
  |lo k=>
   simp only;split
   ·simp[aw]
   ·rename_i aR;refine Kq (tag:= .no) ?_ (pL xs);refine p5 (A:=(iK ν N ω).A) (fun _ _ h=>⟨h,rfl⟩) (fun _ _ _=>rfl) _ (ν.tr k 0) _ v (fun b af=>⟨af,aR⟩) ?_;exact zU _ _ v (fun b o af aT=>Mg eF aR af aT) (xE .no v (hS k rfl))
  |nil=>have e:=bb rfl;subst e;simp only[aw];exact⟨⟨none,0,rfl,Ψ,Ψ,Ψ⟩,Ψ,fun _ e=>(by cases e),fun _ _ e=>(by cases e),fun _ e=>(by cases e)⟩
  |no=>
   simp only;split
   ·exact ph rfl
   ·simp[aw]
  |own g=>
   simp only;split
   ·exact ph rfl
   ·simp[aw]
 | .agg cs,v,h=>by simp only[aw,hR]at h⊢;obtain⟨us,I,aa⟩:=h;exact⟨us,I,Cg cs _ aa⟩
 | .tuple cs,v,h=>by simp only[aw,hR]at h⊢;obtain⟨us,I,aa⟩:=h;exact⟨us,I,GH cs _ aa⟩
 | .ptr k o,v,h=>by simp only[aw,hR]at h⊢;exact h
 | .nilp,v,h=>by simp only[aw,hR]at h⊢;exact h
 | .junk,_,_=>by simp[hR,aw]
 | .eptr _,_,_=>by simp[hR,aw]
 | .iface _ _,_,_=>by simp[hR,aw]
 | .func _ _,_,_=>by simp[hR,aw]
 | .gmap _,_,_=>by simp[hR,aw]
 | .row _ _ _,_,_=>by simp[hR,aw]
 | .rptr _ _ _ _ _,_,_=>by simp[hR,aw]
 | .hdm _ _,_,_=>by simp[hR,aw]
 | .hdi _ _ _,_,_=>by simp[hR,aw]
 | .cst _,_,_=>by simp[hR,aw]
theorem Cg:∀(cs:List ab) (us:List Value),bV w ν cs us->bV w (iK ν N ω) (lV N cs) us
 |[],us,h=>by simpa only[bV,lV]using h
 |c::cs,us,h=>by simp only[bV,lV]at h⊢;obtain⟨u,a6,I,⟨aa,ak⟩,aK⟩:=h;exact⟨u,a6,I,⟨Cf c u aa,ak⟩,Cg cs a6 aK⟩
theorem GH:∀(cs:List ab) (us:List Value),bP w ν cs us->bP w (iK ν N ω) (lV N cs) us
 |[],us,h=>by simpa only[bP,lV]using h
 |c::cs,us,h=>by simp only[bP,lV]at h⊢;obtain⟨u,a6,I,aa,aK⟩:=h;exact⟨u,a6,I,Cf c u aa,GH cs a6 aK⟩
end
end
end
end Go.Pv
