/- A tree of blocks under a name taken back: its blocks are rows of the frame's own from here on. -/
import Derived.Deep.LoopGhost
import Derived.Test.YtlnndmgfngfeiaaGreatDoorZp3
set_option linter.all false
set_option maxHeartbeats 4000000
set_option maxRecDepth 4000
open Array renaming getD_eq_getD_getElem?->oC,getElem?_eq_getElem->oD,replicate->p8
open Bool renaming and_eq_true->bM,false_eq_true->kk,not_eq_true'->q0
open Go renaming Program->bK,TypeId->fI
open Go.Region renaming binds->sy,ready->sA
open Go.Result renaming andThen_ok->e4
open Go.Sem renaming run_bind->e2,run_pure->fH
open Go.Value renaming cells->oF
open List renaming all_eq_true->jy,append_assoc->kE,cons_append->dm,drop_eq_getElem_cons->pd,eq_nil_of_length_eq_zero->q1,getElem?_append_left->qa,getElem?_drop->k2,getElem?_eq_getElem->cF,getElem?_eq_some_iff->e3,length_append->j2,length_cons->lx,map_cons->gY,mem_append->hv,mem_append_left->lY,mem_append_right->j3,mem_cons->gp,mem_map->lZ,nil_append->ef,nodup_append->qb
open List.Nodup renaming length_le_of_subset->aeS
open List.cons renaming injEq->Ai
open Nat renaming le_refl->cq,lt_or_ge->ly
open Option renaming getD_some->pf,isSome_iff_exists->e5,isSome_none->sD,map_eq_some_iff->ij,map_some->kF
open Option.some renaming inj->gq,injEq->dZ
open Prod.mk renaming injEq->gA
open _root_ renaming False->cZ,Option->aT,UInt8->al,beq_iff_eq->ej,decide_eq_true_eq->fK,if_neg->bq
namespace Go.Pv
section
open Go Go.RowKit
mutual
def fT(N:List aC):ae->ae
 | .slice sz (.tr k j) xs=>if k∈N\/k=dv then .slice sz .no (fh N xs)else .slice sz (.tr k j) (bz xs)
 | .slice sz (.own k) xs=>.slice sz (.own k) (fh N xs)
 | .slice sz .nil xs=>.slice sz .nil (fh N xs)
 | .slice sz .no xs=>.slice sz .no (fh N xs)
 | .slice sz (.lo _) xs=>.slice sz .no (fh N xs)
 | .agg cs=>.agg (fh N cs)
 | .eptr x=>.eptr (fT N x)
 | .iface t x=>.iface t (fT N x)
 | .tuple vs=>.tuple (fh N vs)
 | .func f ds=>.func f (fh N ds)
 |p=>p
def fh(N:List aC):List ae->List ae
 |[]=>[]
 |x::xs=>fT N x::fh N xs
end
theorem w7(N:List aC):∀xs,(fh N xs).length=xs.length
 |[]=>rfl
 |x::xs=>by simp[fh,w7 N xs]
section
variable {w:World} {ν μ:aP} {N:List aC} (aW:∀b o,ν.A b o->μ.A b o) (ah:μ.bx=ν.bx) (ak:μ.ow=ν.ow) (aD:∀k,k∉N->∀j b,ν.tr k j b->μ.tr k j b)
 (fo:∀k j bb eo b,ν.tr k j b->ν.tr bb eo b->k=bb/\j=eo)
include aW ah ak aD fo
mutual
theorem zT:∀(p:ae) (v:Value),aH w ν p v->aH w μ (fT N p) v
 | .junk,_,_=>by simp[fT,aH]
 | .int _ _,_,h=>by simpa only[fT,aH]using h
 | .bool _,_,h=>by simpa only[fT,aH]using h
 | .str _,_,h=>by simpa only[fT,aH]using h
 | .slice sz tag xs,v,h=>by
  have hw:=h;simp only[aH]at h;obtain⟨I,J,ao,aO,bp⟩:=h;obtain⟨a0,Mi,bR,cA,dE,dM⟩:=I;have fX:∃a cap,v= .slice a (fh N xs).length cap/\(fh N xs).length<=cap/\(cap<=maxLen/\(fh N xs).length<=bN)/\(fh N xs=[]\/ ∃b off us,a=some ⟨b,off,none⟩/\jI w μ.A b off us/\cC w μ sz (fh N xs) us):=by
   refine⟨a0,Mi,by rw[w7];exact bR,by rw[w7];exact cA,by rw[w7];exact dE,?_⟩;rcases dM with aO|⟨b,off,us,aj,aJ,bs⟩
   ·exact .inl (by rw[aO];rfl)
   ·exact .inr ⟨b,off,us,aj,v7 (fun b o h=>⟨aW b o h,rfl⟩) _ _ aJ,JM sz xs us bs⟩
  cases tag with
  |no=>simp only[fT,aH];exact⟨fX,fun e=>(by cases e),fun _ e=>(by cases e),fun _ _ e=>(by cases e),fun _ e=>(by cases e)⟩
  |lo k=>simp only[fT,aH];exact⟨fX,fun e=>(by cases e),fun _ e=>(by cases e),fun _ _ e=>(by cases e),fun _ e=>(by cases e)⟩
  |nil=>simp only[fT,aH];exact⟨fX,fun _=>J rfl,fun _ e=>(by cases e),fun _ _ e=>(by cases e),fun _ e=>(by cases e)⟩
  |own k=>simp only[fT,aH];refine⟨fX,fun e=>(by cases e),fun g e=>?_,fun _ _ e=>(by cases e),fun _ e=>(by cases e)⟩;rw[ak,w7];exact ao g e
  |tr k j=>
   simp only[fT];by_cases aa:k∈N\/k=dv
   ·rw[if_pos aa];simp only[aH];exact⟨fX,fun e=>(by cases e),fun _ e=>(by cases e),fun _ _ e=>(by cases e),fun _ e=>(by cases e)⟩
   ·rw[bq aa];have gw:=not_or.1 aa;have aL:=ES fo _ v hw (by simp only[dU];exact gw.2) (by simp[tn]);have iL:=sT (A':=μ.A) (fun b o h=>⟨aW b o h,rfl⟩) (fun _ _ _=>rfl) _ _ (μ.tr k j) _ (fun b ah=>by obtain⟨bb,i,hm,ah⟩:=ah;simp only[tn,List.mem_singleton,gA]at hm;obtain⟨rfl,rfl⟩:=hm;exact aD _ gw.1 _ _ ah) aL
    simp only[bC]at iL;exact FH iL (sg xs)
 | .agg cs,v,h=>by simp only[aH,fT]at h⊢;obtain⟨us,I,J⟩:=h;exact⟨us,I,JO cs _ J⟩
 | .ptr key off,v,h=>by simp only[aH,fT]at h⊢;rw[ah];exact h
 | .eptr x,v,h=>by simp only[aH,fT]at h⊢;obtain⟨b,off,u,I,J,ao⟩:=h;exact⟨b,off,u,I,zT x u J,v7 (fun b o h=>⟨aW b o h,rfl⟩) _ _ ao⟩
 | .iface t x,v,h=>by simp only[aH,fT]at h⊢;obtain⟨u,I,J⟩:=h;exact⟨u,I,zT x u J⟩
 | .nilp,_,h=>by simpa only[fT,aH]using h
 | .tuple vs,v,h=>by simp only[aH,fT]at h⊢;obtain⟨us,I,J⟩:=h;exact⟨us,I,Cn vs _ J⟩
 | .func f ds,v,h=>by simp only[aH,fT]at h⊢;obtain⟨us,I,J⟩:=h;exact⟨us,I,Cn ds _ J⟩
 | .gmap key,v,h=>by simp only[aH,fT]at h⊢;rw[ah];exact h
 | .row sz k n,v,h=>by simp only[aH,fT]at h⊢;rw[ak];exact h
 | .rptr sz k n i f,v,h=>by simp only[aH,fT]at h⊢;rw[ak];exact h
 | .hdm _ _,_,h=>by simp only[aH]at h
 | .hdi _ _ _,_,h=>by simp only[aH]at h
 | .cst _,_,h=>by simpa only[fT,aH]using h
theorem JO:∀(cs:List ae) (us:List Value),cl w ν cs us->cl w μ (fh N cs) us
 |[],_,h=>by simpa only[fh,cl]using h
 |c::cs,us,h=>by simp only[cl,fh]at h⊢;obtain⟨u,br,I,J,ao⟩:=h;exact⟨u,br,I,⟨zT c u J.1,J.2⟩,JO cs br ao⟩
theorem Cn:∀(cs:List ae) (us:List Value),cc w ν cs us->cc w μ (fh N cs) us
 |[],_,h=>by simpa only[fh,cc]using h
 |c::cs,us,h=>by simp only[cc,fh]at h⊢;obtain⟨u,br,I,J,ao⟩:=h;exact⟨u,br,I,zT c u J,Cn cs br ao⟩
theorem JM(sz:Nat):∀(cs:List ae) (us:List Value),cC w ν sz cs us->cC w μ sz (fh N cs) us
 |[],_,h=>by simpa only[fh,cC]using h
 |c::cs,us,h=>by simp only[cC,fh]at h⊢;obtain⟨u,br,I,⟨J,ua⟩,ao⟩:=h;exact⟨u,br,I,⟨zT c u J,ua⟩,JM sz cs br ao⟩
end
theorem acL{cs:List ae}{us:List Value}(h:hM w ν cs us):hM w μ (fh N cs) us:=by
 have bI:∀c:ae,(∀a b,c≠ .hdm a b)->(∀a b d,c≠ .hdi a b d)->(∀a b,fT N c≠ .hdm a b)/\(∀a b d,fT N c≠ .hdi a b d):=by
  intro c I J;cases c with
  |slice sz tag xs=>cases tag<;>simp only[fT]<;>first|(split<;>simp)|simp
  |hdm a b=>exact absurd rfl (I a b)
  |hdi a b d=>exact absurd rfl (J a b d)
  |_=>simp[fT]
 unfold hM at h;split at h
 ·simp only[fh,fT,hM];exact⟨Cn aW ah ak aD fo _ _ h.1,⟨by rw[w7];exact h.2.len,h.2.inc,h.2.lt⟩⟩
 ·simp only[fh,fT,hM];exact Cn aW ah ak aD fo _ _ h
 ·rename_i gy fx;have hr:=JO aW ah ak aD fo _ _ h;rw[na]
  ·exact hr
  ·exact tq hr
end
theorem Uz(N:List aC)(cs:List ae)(us:Array Value)(el:fI):ix (fh N cs) us el=ix cs us el:=by
 cases cs with
 |nil=>rfl
 |cons c r=>
  cases c with
  |slice sz tag xs=>
   cases tag with
   |tr k j=>by_cases aa:k∈N\/k=dv<;>simp[fh,fT,ix,aa]
   |_=>rfl
  |_=>rfl
def AL(N:List aC)(l:List (Nat×ae)):List (Nat×ae):=l.map fun x=>(x.1,fT N x.2)
def AJ(N:List aC)(l:List (aC×List ae)):List (aC×List ae):=l.map fun x=>(x.1,fh N x.2)
def C7(N:List aC)(o:cV):cV:=⟨o.n,o.el,o.sz,o.xs.map (fh N)⟩
def yB(N:List aC)(rw:List aC)(l:List (aC×cV)):List (aC×cV):=(l.filter fun x=>decide (x.1∉rw)).map fun x=>(x.1,C7 N x.2)
theorem NP(N:List aC)(i:Nat):∀l,get i (AL N l)=fT N (get i l)
 |[]=>by simp[AL,get,fT]
 |(j,p)::r=>by
  have bo:=NP N i r;simp only[AL,gY,get]at bo⊢;split
  ·rfl
  ·exact bo
theorem IJ(N:List aC)(k:aC):∀l,look k (AJ N l)=(look k l).map (fh N)
 |[]=>rfl
 |(j,p)::r=>by
  have bo:=IJ N k r;simp only[AJ,gY,look]at bo⊢;split
  ·rfl
  ·exact bo
theorem IK(N rw:List aC)(k:aC):∀l,look k (yB N rw l)=if k∈rw then none else(look k l).map (C7 N)
 |[]=>by simp[yB,look]
 |(j,p)::r=>by
  have bo:=IK N rw k r;simp only[yB]at bo⊢;by_cases aw:j∈rw
  ·rw[List.filter_cons_of_neg (by simpa using aw),bo];simp only[look];by_cases aa:k∈rw
   ·simp[aa]
   ·have:j≠k:=fun e=>aa (e▸aw);simp[aa,this]
  ·rw[List.filter_cons_of_pos (by simpa using aw)];simp only[gY,look];by_cases e:j=k
   ·subst e;simp[aw]
   ·rw[bq e,bo,bq e]
def yR(st:aS)(p:ae):List aC:=(cp st.e p).map (·.1)
def vv(st:aS)(s:Nat):aS:=⟨put s (fold st.n st.e 0 (get s st.t)) (AL (yR st (get s st.t)) st.t),AJ (yR st (get s st.t)) st.b,yB (yR st (get s st.t)) (bY (get s st.t)) st.e,st.n+1,st.o⟩
def xf(ob:List aC)(st:aS)(s:Nat):Prop:=cH st.e (get s st.t)/\(cp st.e (get s st.t)).Nodup/\(bY (get s st.t)).Nodup/\ .loc st.n∉st.o/\(∀k∈yR st (get s st.t),k∉ob)/\∀k∈bY (get s st.t),∃j,k= .loc j
def aP.fd(ν:aP)(R:Nat->Prop)(rw:List aC)(e:List (aC×cV))(T:List (Nat->Prop))(N:List aC)(n:Nat):aP:=
 {A:=fun b o=>ν.A b o\/ ∃k,k∈rw/\∃own,look k e=some own/\kd ν k b/\o<own.n*own.sz,
  bx:=ν.bx,ow:=ν.ow,
  tr:=fun k j b=>(k∉N/\ν.tr k j b)\/(k= .loc n/\∃S,T[j]? =some S/\S b)}
theorem Nj{C:ek}{st:aS}{a:Act}{w:World}{ν:aP}(h:bX C st a w ν){s:Nat}(aE:xf C.ob st s):∃ν',bX C (vv st s) a w ν':=by
 obtain⟨ok,nd,rd,rI,OG,Oz⟩:=aE;unfold vv;generalize aU:get s st.t=p at ok nd rd OG Oz⊢;have pK:aH w ν p (a.tmps.getD s undef):=by rw[<-aU];exact h.slot s
 let R:Nat->Prop:=fun b=> ∃k,k∈bY p/\kd ν k b
 have Eg:=h.new (.loc st.n) ⟨cq _,rI⟩;have fu:∀k b,k∈bY p->kd ν k b->∃own,look k st.e=some own/\C.w0.heap.size<=b/\b<w.heap.size/\(∀k j,¬ν.tr k j b)/\(∀bb,(look bb st.b).isSome->ν.bx bb≠some b)/\∀g n v,(look g st.e).isSome->ν.ow g=some (n,v)->v.ownBlock=some b->g=k:=by rintro k b aa ⟨n,v,I,J⟩;obtain⟨own,lf⟩:=B0 _ ok k aa;obtain⟨j,rfl⟩:=Oz k aa;exact⟨own,lf,h.fr.nrow j n v b I J,h.good.ownLt lf I J,h.good.otr b (.inr ⟨_,_,_,by simp[lf],I,J⟩),fun bb gw iI=>h.good.obx _ bb _ _ b (by simp[lf]) gw I J iI,fun g n' v' aR aj aJ=>h.good.oinj g _ n' n v' v b aR (by simp[lf]) aj I aJ J⟩
 have xr:ym ν R (bY p):=by refine⟨h.fr.trd,fun k bb b aa gw I J=>?_,fun k b aa h=>⟨k,aa,h⟩⟩;obtain⟨n,v,bB,a2⟩:=I;obtain⟨_,cN,_⟩:=fu k b aa ⟨n,v,bB,a2⟩;obtain⟨_,_,_,_,_,_,c2⟩:=fu bb b gw J;exact c2 k n v (by simp[cN]) bB a2
 let N:=yR st p
 let μ:aP:=ν.fd R (bY p) st.e (e1 ν R st.e p) N st.n
 have aW:∀b o,ν.A b o->μ.A b o:=fun b o h=>.inl h;have fo:∀k,k∉N->∀j b,ν.tr k j b->μ.tr k j b:=fun k aa j b ah=>.inl ⟨aa,ah⟩;have xp:∀q v,aH w ν q v->aH w μ (fT N q) v:=zT aW rfl rfl fo h.fr.trd;have X6:∀sz q v,cC w ν sz q v->cC w μ sz (fh N q) v:=fun sz=>JM aW rfl rfl fo h.fr.trd sz;have Eb:∀(j:Nat) (S:Nat->Prop) (b:Nat),(e1 ν R st.e p)[j]? =some S->S b->(∃k∈bY p,kd ν k b)\/ ∃k i,(k,i)∈cp st.e p/\ν.tr k i b:=by
  intro j S b aw gC;rcases zZ _ j S aw b gC with⟨k,aa,I⟩|⟨⟨k,i,I,J⟩,_⟩
  ·exact .inl ⟨k,aa,I⟩
  ·exact .inr ⟨k,i,I,J⟩
 have vM:∀k,(look k (AJ N st.b)).isSome->(look k st.b).isSome:=fun k aa=>by rw[IJ]at aa;simpa using aa
 have xv:∀k,(look k (yB N (bY p) st.e)).isSome->k∉bY p/\(look k st.e).isSome:=fun k aa=>by
  rw[IK]at aa;split at aa
  ·cases aa
  ·rename_i e;exact⟨e,by simpa using aa⟩
 have OH:∀g n v b,g∉bY p->(look g st.e).isSome->ν.ow g=some (n,v)->v.ownBlock=some b->∀k∈bY p,¬kd ν k b:=by intro g n v b aR aG aj aJ k aa hr;obtain⟨_,_,_,_,_,_,c⟩:=fu k b aa hr;exact aR (c g n v aG aj aJ▸aa)
 have Yu:aH w μ (fold st.n st.e 0 p) (a.tmps.getD s undef):=by refine DA (μ:=μ) h.good xr (fun b bu=>?_) aW (fun k aa own lf b eT o ak=>.inr ⟨k,aa,own,lf,eT,ak⟩) p _ 0 pK ok nd (fun k aa=>aa) (fun i S az b gC=>.inr ⟨rfl,S,by simpa using az,gC⟩);obtain⟨k,aa,eT⟩:=bu;obtain⟨_,_,_,_,aO,_⟩:=fu k b aa eT;exact aO
 refine⟨μ,⟨fun bl o aW=>?_,fun k cs aa=>?_,fun k bb bl I J=>h.good.inj k bb bl (vM k I) (vM bb J),fun g o aR=>?_,fun g eM n n' v v' bl I J=>h.good.oinj g eM n n' v v' bl (xv g I).2 (xv eM J).2,fun g k n v bl I J=>h.good.obx g k n v bl (xv g I).2 (vM k J),h.good.one,fun bl aD k j Zr=>?_⟩,
  ⟨h.fr.os,h.fr.tape,h.fr.output,h.fr.size,h.fr.block,fun b o bF=>⟨.inl (h.fr.keep b o bF).1,(h.fr.keep b o bF).2⟩,fun b o bF=>?_,h.fr.obj,h.fr.obn,h.fr.row,h.fr.obr,fun k j bb eo b I J=>?_,fun k j b ah=>?_,fun k j b ah=>?_,h.fr.sh,h.fr.nrow⟩,
  h.defers,h.size,fun i=>?_,fun k aa=>?_,fun x af=>?_,fun m hm aL=>h.obk m hm (qu (Nat.le_succ _) (fun _ h=>h) aL)⟩
 ·rcases aW with aW|⟨k,aa,own,_,eT,_⟩
  ·exact h.good.alt bl o aW
  ·obtain⟨_,_,_,ao,_⟩:=fu k bl aa eT;exact ao
 ·simp only at aa;rw[IJ]at aa;cases aG:look k st.b with
  |none=>rw[aG]at aa;cases aa
  |some c1=>
   rw[aG]at aa;simp only[kF,dZ]at aa;subst aa;obtain⟨bl,us,el,aj,aJ,bs,ch,fa⟩:=h.good.box k c1 aG;refine⟨bl,us,el,aj,aJ,fun o bF=>?_,by rw[Uz];exact ch,acL aW rfl rfl fo h.fr.trd fa⟩;rcases bF with bF|⟨bb,gw,own,_,eT,_⟩
   ·exact bs o bF
   ·obtain⟨_,_,_,_,_,bp,_⟩:=fu bb bl gw eT;exact bp k (by simp[aG]) aj
 ·simp only at aR;have Hu:=xv g (by rw[aR];rfl);rw[IK,bq Hu.1]at aR;cases aG:look g st.e with
  |none=>rw[aG]at aR;cases aR
  |some mY=>
   rw[aG]at aR;simp only[kF,dZ]at aR;subst aR;obtain⟨v,us,aj,aJ,bs,ch⟩:=h.good.own g mY aG;have gQ:∀bl,v.ownBlock=some bl->∀j,μ.A bl j->ν.A bl j:=by
    intro bl ah j bF;rcases bF with bF|⟨bb,gw,own,_,eT,_⟩
    ·exact bF
    ·exact absurd eT (OH g _ v bl Hu.1 Hu.2 aj ah bb gw)
   refine⟨v,us,aj,aJ,fun bl ah=>⟨(bs bl ah).1,fun j bF=>(bs bl ah).2 j (gQ bl ah j bF)⟩,fun xs af=>?_⟩;simp only[C7]at af;cases nv:mY.xs with
   |none=>rw[nv]at af;cases af
   |some ys=>rw[nv]at af;simp only[kF,dZ]at af;subst af;obtain⟨f1,f2,f3⟩:=ch ys nv;exact⟨by rw[w7];exact f1,X6 _ _ _ f2,fun bl ah j bF=>f3 bl ah j (gQ bl ah j bF)⟩
 ·have hold:∀k j,¬ν.tr k j bl:=by refine h.good.otr bl (aD.imp (fun⟨k,bB,a2⟩=>⟨k,vM k bB,a2⟩) fun⟨g,n,v,bB,a2,a3⟩=>⟨g,n,v,(xv g bB).2,a2,a3⟩)
  rcases Zr with⟨_,ah⟩|⟨_,S,gC,ah⟩
  ·exact hold k j ah
  ·rcases Eb j S bl gC ah with⟨bb,gw,hr⟩|⟨bb,i,_,eT⟩
   ·rcases aD with⟨dr,bB,a2⟩|⟨g,n,v,bB,a2,a3⟩
    ·obtain⟨_,_,_,_,_,bp,_⟩:=fu bb bl gw hr;exact bp dr (vM dr bB) a2
    ·exact OH g n v bl (xv g bB).1 (xv g bB).2 a2 a3 bb gw hr
   ·exact hold bb i eT
 ·rcases bF with bF|⟨k,aa,own,_,eT,_⟩
  ·exact h.fr.fresh b o bF
  ·obtain⟨_,_,J,_⟩:=fu k b aa eT;exact .inr (.inr J)
 ·have mixed:∀(k:aC) (j eo:Nat) (S:Nat->Prop),k∉N->ν.tr k j b->(e1 ν R st.e p)[eo]? =some S->S b->cZ:=by
   intro k j eo S aa ah gC eT;rcases Eb eo S b gC eT with⟨bb,gw,hr⟩|⟨bb,i,hm,je⟩
   ·obtain⟨_,_,_,_,aO,_⟩:=fu bb b gw hr;exact aO k j ah
   ·obtain⟨rfl,_⟩:=h.fr.trd k j bb i b ah je;exact aa (lZ.2 ⟨_,hm,rfl⟩)
  rcases I with⟨gy,cb⟩|⟨rfl,S,s1,cb⟩<;>rcases J with⟨fx,cn⟩|⟨rfl,ko,s2,cn⟩
  ·exact h.fr.trd k j bb eo b cb cn
  ·exact(mixed k j eo ko gy cb s2 cn).elim
  ·exact(mixed bb eo j S fx cn s1 cb).elim
  ·exact⟨rfl,J8 xr p nd rd (fun k aa=>aa) j eo S ko s1 s2 b cb cn⟩
 ·rcases ah with⟨_,ah⟩|⟨_,S,gC,ah⟩
  ·exact h.fr.trb k j b ah
  ·rcases Eb j S b gC ah with⟨bb,gw,hr⟩|⟨bb,i,hm,je⟩
   ·obtain⟨_,_,J,ao,_⟩:=fu bb b gw hr;exact⟨.inr J,ao⟩
   ·have:=h.fr.trb bb i b je;exact⟨.inr (this.1.resolve_left (Jj _ ok _ hm)),this.2⟩
 ·rcases ah with⟨_,ah⟩|⟨rfl,_⟩
  ·exact h.fr.trn k j b ah
  ·exact⟨Eg.1,Eg.2.1⟩
 ·simp only[get_put];split
  ·rename_i e;subst e;exact Yu
  ·rw[NP];exact xp _ _ (h.slot i)
 ·have aL:fresh st.n st.o k:=qu (Nat.le_succ _) (fun _ h=>h) aa;obtain⟨gy,fx,iR⟩:=h.new k aL;refine⟨gy,fx,fun j b ah=>?_⟩;rcases ah with⟨_,ah⟩|⟨rfl,_⟩
  ·exact iR j b ah
  ·have:=aa.1;simp only at this;omega
 ·obtain⟨aj,aJ⟩:=h.ext x af;refine⟨qM (S:=fun k=>k∉N) (w:=w) (ν:=ν) (w':=w) (ν':=μ) ⟨fun b o h=>⟨.inl h,rfl⟩,fun _ _ _ h=>h,fun g n u _ h=>⟨n,u,h,.inl ⟨rfl,rfl⟩⟩,fun _ _ _=>rfl,fun k j b aa ah=>.inl ⟨aa,ah⟩⟩ _ _ (nB (fun k aa aK=>OG k aK aa) _ aJ) aj,aJ⟩
end
section
open Go Go.RowKit
def z6(m:Nat)(ops:Array Oper):Bool:=(List.range (ops.size-m)).all fun j=>(List.range (m+j)).all fun i=>((nC [] ops.toList).getD (m+j) 0).testBit i
theorem Sj{m:Nat}{ops:Array Oper}(h:z6 m ops=true){k i:Nat}(aa:m<=k)(gh:k<ops.size)(az:i<k):((nC [] ops.toList).getD k 0).testBit i=true:=by unfold z6 at h;simp only[jy,List.mem_range]at h;have:=h (k-m) Ω i Ω;rwa[show m+(k-m)=k by omega]at this
theorem Fe{ops:Array Oper}{listed:Array Bool}(dq:listed.size=ops.size){i:Nat}(az:i∈sA .any ops listed):∃h:i<ops.size,listed.getD i false=false/\∀e∈(ops[i]'h).after.toList,sy .any e=true->listed.getD e.on false=true:=by
 unfold sA at az;simp only[List.mem_filter,List.mem_range,bM,q0]at az;obtain⟨I,J,ao⟩:=az;refine⟨I,?_,fun e he ah=>?_⟩
 ·simp only[oC]at J⊢;rw[oD Ω]at J⊢;simpa using J
 ·rw[oD I]at ao;simp only[kF,pf]at ao;rw[<-Array.all_toList,jy]at ao;simpa[ah]using ao e he
theorem u9.set{ops:Array Oper}{listed:Array Bool}{i:Nat}(az:i<listed.size)(aF:u9 ops listed)(vH:∀o,ops[i]? =some o->∀e∈o.after.toList,sy .any e=true->listed.getD e.on false=true):u9 ops (listed.setIfInBounds i true):=by
 intro k o aa aG e he ah;rw[vy az]at aG⊢;split
 ·rfl
 ·by_cases kO:i=k
  ·subst kO;exact vH o aa e he ah
  ·rw[bq kO]at aG;exact aF k o aa aG e he ah
theorem adB{P:bK}{ops:Array Oper}{m0:Nat}(ux:z6 m0 ops=true)(sW:tW 0 ops.toList=true){Q:Exit->Act->World->Prop}:∀(fuel m:Nat) (listed:Array Bool) (a:Act) (w:World),m0<=m->listed.size=ops.size->u9 ops listed->(∀j,j<m->j<ops.size->listed.getD j false=true)->(∀j,m<=j->listed.getD j false=false)->ops.size<=m+fuel->
  wpOps P ops Q (List.range' m (ops.size-m)) a w->wpAny P .any ops Q fuel listed a w:=by
 intro fuel;induction fuel with
 |zero=>
  intro m listed a w hm dq aF aG aK aL hw;have e:ops.size-m=0:=Ω
  rw[e]at hw;refine⟨?_,hw⟩;rw[List.eq_nil_iff_forall_not_mem];intro i az;obtain⟨I,J,_⟩:=Fe dq az;rw[aG i Ω I]at J;cases J
 |succ fuel bo=>
  intro m listed a w hm dq aF aG aK aL hw;by_cases agV:ops.size<=m
  ·have e:ops.size-m=0:=Ω
   rw[e]at hw;refine⟨fun _=>hw,fun i az=>?_⟩;obtain⟨I,J,_⟩:=Fe dq az;rw[aG i Ω I]at J;cases J
  ·have h2:m<ops.size:=Ω
   have jg:m∈sA .any ops listed:=by
    unfold sA;simp only[List.mem_filter,List.mem_range,bM,q0];refine⟨h2,?_,?_⟩
    ·have:=aK m (cq _);simp only[oC]at this⊢;rw[oD Ω]at this⊢;simpa using this
    ·rw[oD h2];simp only[kF,pf];rw[<-Array.all_toList,jy];intro e he;by_cases ah:sy .any e=true
     ·have bS:=Dl sW m ops[m] (by simp[h2]) e he ah;have:=aG e.on Ω Ω;simp[this]
     ·simp[ah]
   refine⟨fun h=>(by rw[h]at jg;simp at jg),fun i az=>?_⟩;obtain⟨I,J,ao⟩:=Fe dq az;have Ow:ops[i]? =some ops[i]:=oD I;have YG:i=m:=by
    rcases Nat.lt_trichotomy i m with h|h|h
    ·rw[aG i h I]at J;cases J
    ·exact h
    ·have:=EC aF i ops[i] Ow ao m (Sj ux Ω I h);rw[aK m (cq _)]at this;cases this
   subst YG;rw[show ops.size-i=(ops.size-(i+1))+1 by omega,List.range'_succ,wpOps_cons]at hw;refine wpOp_mono (fun bU w' oh=>?_) hw;exact bo (i+1) _ bU w' Ω (by simpa using dq) (aF.set Ω fun o ak=>(by rw[Ow]at ak;cases ak;exact ao)) (fun j aw hA=>(by
     rw[vy Ω];split
     ·rfl
     ·exact aG j Ω hA)) (fun j aw=>(by rw[vy Ω,bq Ω];exact aK j Ω)) Ω oh
theorem Tz{P:bK}{aZ:List (Nat×cJ)}(aD:ez P aZ=true){C:ek}{q:Bool}{n0:Nat}{ops:Array Oper}{gs ts:List cy}(gg:ic C.N aZ ops.toList (gs++ts) ops.toList=true)(sW:tW 0 ops.toList=true)(Bu:wm [] gs (nC [] ops.toList)=true)
  (ux:z6 gs.length ops=true) {K:cL->Prop} {Q:Exit->Act->World->Prop}
  (hS:∀A a w,K A->sG C A a w->wpOps P ops Q (List.range' gs.length (ops.size-gs.length)) a w):
  ∀(fuel:Nat) (listed:Array Bool) (A:cL) (a:Act) (w:World),listed.size=ops.size->u9 ops listed->(∀j,gs.length<=j->listed.getD j false=false)->(rem listed 0 gs).length+ts.length<=fuel->sL P q n0 K (rem listed 0 gs) A->sG C A a w->wpAny P .any ops Q fuel listed a w:=by
 have hlen:gs.length+ts.length=ops.size:=by simpa using A1 gg
 have iK:∀(fuel:Nat) (listed:Array Bool) (A:cL) (a:Act) (w:World),listed.size=ops.size->u9 ops listed->(∀j,gs.length<=j->listed.getD j false=false)->rem listed 0 gs=[]->ts.length<=fuel->sL P q n0 K (rem listed 0 gs) A->sG C A a w->wpAny P .any ops Q fuel listed a w:=by
  intro fuel listed A a w dq aF aK rL aL jf hr;have k9:∀j,j<gs.length->listed.getD j false=true:=fun j aw=>by
   cases ah:listed.getD j false with
   |true=>rfl
   |false=>obtain⟨l0,mA,g,_,aJ,_⟩:=Ck Ω ah gs 0 Ω Ω;rw[rL]at aJ;simp at aJ
  rw[rL]at jf;exact adB ux sW fuel gs.length listed a w (cq _) dq aF (fun j aw _=>k9 j aw) aK Ω (hS A a w jf hr)
 intro fuel;induction fuel with
 |zero=>intro listed A a w dq aF aK aL jf hr;exact iK 0 listed A a w dq aF aK (q1 Ω) Ω jf hr
 |succ fuel bo=>
  intro listed A a w dq aF aK aL jf hr;by_cases rL:rem listed 0 gs=[]
  ·exact iK _ listed A a w dq aF aK rL (by rw[rL]at aL;simpa using aL) jf hr
  have y4:∃i g,i<gs.length/\gs[i]? =some g/\listed.getD i false=false/\∀j,j<i->listed.getD j false=true:=by
   rcases JH (l:=listed) gs 0 with h|⟨i,g,I,J,ao,aO⟩
   ·exact absurd h rL
   ·exact⟨i,g,I,J,by simpa using ao,fun j aw=>by simpa using aO j aw⟩
  refine⟨fun h=>?_,fun i az=>?_⟩
  ·exfalso;obtain⟨i,g,I,J,ao,aO⟩:=y4;have az:i<ops.size:=Ω
   have jg:i∈sA .any ops listed:=by
    unfold sA;simp only[List.mem_filter,List.mem_range,bM,q0];refine⟨az,?_,?_⟩
    ·simp only[oC]at ao⊢;rw[oD Ω]at ao⊢;simpa using ao
    ·rw[oD az];simp only[kF,pf];rw[<-Array.all_toList,jy];intro e he;by_cases ah:sy .any e=true
     ·have bS:=Dl sW i ops[i] (by simp[az]) e he ah;have:=aO e.on Ω;simp[this]
     ·simp[ah]
   rw[h]at jg;simp at jg
  ·obtain⟨I,lI,vH⟩:=Fe dq az;have ak:ops[i]? =some ops[i]:=oD I;have gZ:i<gs.length:=by
    rcases ly i gs.length with h|h
    ·exact h
    ·obtain⟨j,g,ml,kU,xI,ahh⟩:=y4;have:=EC aF i ops[i] ak vH j (Sj ux h I Ω);rw[xI]at this;cases this
   obtain⟨l0,mA,g,aj,aJ,bs,ch⟩:=Ck Ω lI gs 0 Ω Ω;simp only[Nat.sub_zero]at aj ch;rw[aJ]at jf;obtain⟨x,af,Hk⟩:=F4 l0 mA A (fun y bA=>by
    obtain⟨f1,f2,f3,f4⟩:=ch y bA;rcases Jr Bu i g aj y.1 y.2 (by simpa using f3) (by simpa using f1)with h|h
    ·have:=EC aF i ops[i] ak vH y.1 h;rw[f4]at this;cases this
    ·exact h) jf
   obtain⟨o',g1,g2⟩:=Hc gg i g (by rw[qa gZ];exact aj);have:o'=ops[i]:=by rw[Array.getElem?_toList,ak]at g1;exact(gq g1).symm
   subst this;refine K0 aD ak g2 af hr fun bU w' bW=>?_;refine bo (listed.setIfInBounds i true) (A.do x) bU w' (by simpa using dq) (aF.set Ω fun o aa=>(by rw[ak]at aa;cases aa;exact vH)) (fun j aw=>(by rw[vy Ω,bq Ω];exact aK j aw)) ?_ (by rw[bs];exact Hk) bW;rw[bs];rw[aJ]at aL;simp at aL⊢;omega
theorem VE{P:bK}(hm:P.follows .mixedOrders=true){aZ:List (Nat×cJ)}(aD:ez P aZ=true){C:ek}{q:Bool}{nw:List Nat}{id:Nat}{ops:Array Oper}{gs ts:List cy}(gg:ic C.N aZ ops.toList (gs++ts) ops.toList=true)(sW:tW 0 ops.toList=true)(Bu:wm [] gs (nC [] ops.toList)=true)
  (ux:z6 gs.length ops=true) (gP:vp C.N gs=true)
  {K1:aS->Prop} {Q:Exit->Act->World->Prop}
  (hS:∀st' bU w' ν',K1 st'->bX C st' bU w' ν'->wpOps P ops Q (List.range' gs.length (ops.size-gs.length)) bU w')
  {st:aS} {a:Act} {w:World} {ν:aP} (HJ:∀j∈nw,.obj j∉st.o) (he:gO P q nw st.n gs st (oH (st.n+C.N) (nw.map aC.obj++st.o) K1)) (hr:bX C st a w ν):(Code.region id ops true).wp P Q a w:=by
 refine wp_region_any hm ?_;have bW:bX C st a {w with drawn:=w.drawn+1} ν:=hr.drawn _;let A:cL:=⟨fun i=>get i st.t,fun k=>look k st.b,fun k=>look k st.e,fresh st.n st.o⟩
 have hT:qc nw st.n C.N st.o st A:=⟨⟨fun _=>rfl,fun _=>rfl,fun _=>rfl⟩,rfl,fun k aa _=>aa,fun k aa=>.inl aa⟩;have jf:=yL gs 0 gP st A hT (fun j aw _ _=>⟨trivial,HJ j aw⟩) he;have jh:∀j,(p8 ops.size false).getD j false=false:=fun j=>by simp[oC,Array.getElem?_replicate];split<;>rfl
 refine Tz aD gg sW Bu ux (q:=q) (n0:=st.n) (K:=fun A'=> ∃st',oH (st.n+C.N) (nw.map aC.obj++st.o) K1 st'/\qc nw st.n C.N st.o st' A') ?_ ops.size _ A a _ Ψ ?_ (fun j _=>jh j) ?_ (by rw[Cj gs _ 0 jh];exact jf) ⟨st,ν,hT.like,fun k aa=>aa,bW⟩
 ·rintro A' bU w' ⟨st',aa,bF⟩ ⟨adp,ν',hl,Hf,jX⟩;refine hS _ bU w' ν' aa ⟨jX.good.like (fun k=>by rw[hl.b,<-bF.like.b]) (fun k=>by rw[hl.e,<-bF.like.e]),jX.fr,jX.defers,jX.size,fun i=>?_,fun k pH=>?_,jX.ext,fun m hm aL=>bW.obk m hm (qu (Nat.le_add_right _ _) (fun _ h=>j3 _ h) aL)⟩
  ·have:=jX.slot i;rw[hl.t,<-bF.like.t]at this;exact this
  ·refine jX.new k (Hf k (bF.F k ?_ fun j aw e=>pH.2 (by subst e;exact lY _ (List.mem_map_of_mem aw))));simp only at pH;refine⟨(qu (Nat.le_add_right st.n C.N) (fun _ h=>h) pH).1,fun jg=>?_⟩;rcases bF.o k jg with h|⟨d,aF,rfl⟩|⟨j,aw,rfl⟩;rotate_left 2
   ·exact pH.2 (lY _ (List.mem_map_of_mem aw))
   ·exact pH.2 (j3 _ h)
   ·have:=pH.1;simp at this;omega
 ·intro k o aa aG;rw[jh]at aG;cases aG
 ·rw[Cj gs _ 0 jh];have:∀(gs:List cy) k,(u7 k gs).length=gs.length:=by
   intro gs;induction gs with
   |nil=>intro k;rfl
   |cons g r bo=>intro k;simp[u7,bo]
  rw[this];have:=A1 gg;simp at this;omega
def ja:List ae->Prop
 |[]=>True
 |p::a6=>(match p with| .slice _ _ xs=>xs.length<=bN| .str s=>s.length<=bN|_=>True)/\ja a6
def js:ae->Prop
 | .slice _ _ xs=>xs.length<=bN
 | .str s=>s.length<=bN
 | .agg cs=>ja cs
 |_=>True
def iZ:List ae->Prop
 |[]=>True
 |p::r=>js p/\iZ r
theorem JN{w:World}{ν:aP}:∀{cs:List ae} {us:List Value},cl w ν cs us->ja cs
 |[],_,_=>trivial
 |c::cs,us,h=>by
  simp only[cl]at h;obtain⟨u,br,_,I,J⟩:=h;refine⟨?_,JN J⟩;cases c<;>simp only<;>have ao:=I.1<;>simp only[aH]at ao
  ·exact ao.2
  ·obtain⟨⟨a,cap,_,_,aO,_⟩,_⟩:=ao;exact aO.2
theorem JJ{w:World}{ν:aP}{cs:List ae}{us:List Value}(h:hM w ν cs us):gn cs=true->ja cs:=fun aU=>by rw[na aU]at h;exact JN h
theorem RK{w:World}{ν:aP}{p:ae}{v:Value}(h:aH w ν p v):js p:=by
 cases p<;>simp only[js]<;>simp only[aH]at h
 ·exact h.2
 ·obtain⟨⟨a,cap,_,_,aO,_⟩,_⟩:=h;exact aO.2
 ·obtain⟨us,_,J⟩:=h;exact JN J
theorem JQ{w:World}{ν:aP}:∀{cs:List ae} {us:List Value},cc w ν cs us->iZ cs
 |[],_,_=>trivial
 |c::cs,us,h=>by simp only[cc]at h;obtain⟨u,br,_,I,J⟩:=h;exact⟨RK I,JQ J⟩
inductive C where
 |skip
 |region (gs:List cy)
 |drawn (q:Bool) (N:Nat) (gs:List cy)
 |drawnW (nw:List Nat) (N:Nat) (gs:List cy)
 |drawnL (q:Bool) (N:Nat) (gs ts:List cy)
 |seq (a b:C)
 |cond (x:cM) (t e:C)
 |block (id:Nat) (c:C)
 |loop (c:C)
 |exit (id:Nat)
 |ret
 |pub (s:Nat) (c:C)
 |pubB (s:Nat) (c:C)
 |fg (oZ:Bool) (s:Nat) (c:C)
 |fz (agg:Bool) (s:Nat) (c:C)
 |fd (s:Nat) (c:C)
 |no
def Ca(st:aS):ae->aT (ae×List (aC×cV))
 | .row sz k n=>match look k st.e with
  |some ⟨n',el,dn,some xs⟩=>if n'=n/\dn=sz then some (.slice sz (.own k) xs,cT k ⟨n,el,sz,none⟩ st.e)else none
  |_=>none
 |_=>none
def wq(st:aS)(s:Nat):aT aS:=
 match Ca st (get s st.t)with
 |some (p,e)=>some {st with t:=put s p st.t,e:=e}
 |none=>none
def zE(st:aS)(s:Nat):aT aS:=
 match get (s%1000) st.t with
 | .ptr k off=>match look k st.b with
  |some cs=>match cs[off+s/1000]? with
   |some p=>match Ca st p with
    |some (lS,e)=>if gn cs then some {st with b:=cT k (cs.set (off+s/1000) lS) st.b,e:=e}else none
    |none=>none
   |none=>none
  |none=>none
 |_=>none
theorem Ff{C:ek}{st:aS}{a:Act}{w:World}{ν:aP}(h:bX C st a w ν){s:Nat}{p:ae}(aq:aH w ν p (a.tmps.getD s undef)):bX C {st with t:=put s p st.t} a w ν:=by
 refine⟨h.good,h.fr,h.defers,h.size,fun i=>?_,h.new,h.ext,h.obk⟩;have:=h.slot i;simp only[get_put];split
 ·rename_i e;subst e;exact aq
 ·exact this
theorem QZ{C:ek}{st:aS}{a:Act}{w:World}{ν:aP}(h:bX C st a w ν){p lS:ae}{e:List (aC×cV)}{v:Value}(aU:aH w ν p v)(he:Ca st p=some (lS,e)):
  ∃ν',bX C {st with e:=e} a w ν'/\aH w ν' lS v/\l1 w ν w ν':=by
 unfold Ca at he;split at he
 ·rename_i sz k n;split at he
  ·rename_i n' el dn xs aa;split at he
   ·rename_i aE;obtain⟨rfl,rfl⟩:=aE;cases he;simp only[aH]at aU;obtain⟨_,aG,n0,u,I,J,ao⟩:=aU;obtain⟨v0,eY,bR,cA,dE,dM⟩:=h.good.own k _ aa;rw[I]at bR;simp only[dZ,gA]at bR;obtain⟨rfl,rfl⟩:=bR;have aM:v=u:=ao rfl;subst aM;obtain⟨cP,_,_⟩:=dM xs rfl;simp only at cP;obtain⟨g1,g2⟩:=h.publish aa rfl I (by rw[cP];exact aG);refine⟨_,g1,g2,⟨fun b o aW=>⟨.inl aW,rfl⟩,fun j b _ aw=>aw,fun g n u _ im=>⟨n,u,?_,.inl ⟨rfl,rfl⟩⟩,fun _ _ _=>rfl,fun _ _ _ _ h=>h⟩⟩;simp only[aP.withRowOf];split
    ·rename_i e;subst e;rw[I]at im;exact im
    ·exact im
   ·cases he
  ·cases he
 ·cases he
def yS(oZ:Bool):ae->ae
 | .slice sz tag xs=>.slice sz (if oZ then tag else .no) (bz xs)
 |p=>bC p
theorem WN{w:World}{ν:aP}{oZ:Bool}{p:ae}{v:Value}(h:aH w ν p v):aH w ν (yS oZ p) v:=by
 have I:=wx p v h;cases p with
 |slice sz tag xs=>
  simp only[yS];cases oZ with
  |false=>simpa only[kk,if_false,bC]using I
  |true=>
   simp only[if_true];simp only[aH,bC]at h I⊢;refine⟨I.1,fun e=>h.2.1 e,fun g e=>?_,fun k j e=>?_,fun k e=>?_⟩
   ·obtain⟨n,u,aj,aJ,bs⟩:=h.2.2.1 g e;exact⟨n,u,aj,by rw[lT];exact aJ,by rw[lT];exact bs⟩
   ·exact AY _ _ (h.2.2.2.1 k j e)
   ·exact AY _ _ (h.2.2.2.2 k e)
 |_=>exact I
theorem ab2{C:ek}{st st':aS}{a:Act}{w:World}{ν:aP}(h:bX C st a w ν){s:Nat}(he:wq st s=some st'):∃ν',bX C st' a w ν':=by
 unfold wq at he;split at he
 ·rename_i p e aU;cases he;obtain⟨ν',I,J,_⟩:=QZ h (h.slot s) aU;exact⟨_,Ff I J⟩
 ·cases he
theorem RG{w:World}{ν:aP}:∀{cs:List ae} {us:List Value} {i:Nat} {p q:ae} {v:Value},cl w ν cs us->cs[i]? =some p->us[i]? =some v->aH w ν q v->cl w ν (cs.set i q) us
 |[],_,_,_,_,_,_,h,_,_=>by simp at h
 |c::cs,us,0,p,q,v,h,_,aM,bn=>by simp only[cl]at h;obtain⟨u,br,rfl,I,J⟩:=h;simp only[List.getElem?_cons_zero,dZ]at aM;subst aM;simp only[List.set_cons_zero,cl];exact⟨_,_,rfl,⟨bn,I.2⟩,J⟩
 |c::cs,us,i+1,p,q,v,h,aU,aM,bn=>by simp only[cl]at h;obtain⟨u,br,rfl,I,J⟩:=h;simp only[List.set_cons_succ,cl];exact⟨_,_,rfl,I,RG J (by simpa using aU) (by simpa using aM) bn⟩
theorem ab1{C:ek}{st st':aS}{a:Act}{w:World}{ν:aP}(h:bX C st a w ν){s:Nat}(he:zE st s=some st'):∃ν',bX C st' a w ν':=by
 unfold zE at he;split at he
 ·rename_i k aa2 aa;generalize aa2+s/1000=off at he;split at he
  ·rename_i cs cO;split at he
   ·rename_i p aU;split at he
    ·rename_i lS e HN;split at he
     ·rename_i fm;cases he;obtain⟨bl,us,el,g1,g2,g3,g4,g5⟩:=h.good.box k cs cO;rw[na fm]at g5;have bS:off<us.toList.length:=by rw[o7 g5];exact(e3.1 aU).1
      obtain⟨v,aM⟩:∃v,us.toList[off]? =some v:=⟨_,cF bS⟩;have HU:aH w ν p v:=by have:=zP off g5;rw[pd (e3.1 aU).1,pd bS]at this;simp only[cl]at this;obtain⟨u,br,aj,aJ,_⟩:=this;rw[(e3.1 aU).2]at aJ;rw[(e3.1 aM).2]at aj;cases aj;exact aJ.1
      obtain⟨ν',I,J,ao⟩:=QZ h HU HN;have qz:cl w ν' (cs.set off lS) us.toList:=RG (RF ao g5) aU aM J;have OP:=tq qz;refine⟨ν',⟨I.good.alt,fun j c1 aw=>?_,fun j eo b aw ld=>I.good.inj j eo b ?_ ?_,I.good.own,I.good.oinj,fun g j n v b aR aw=>I.good.obx g j n v b aR ?_,I.good.one,fun bl ah=>I.good.otr bl (ah.imp (fun⟨bb,bB,a2⟩=>⟨bb,by rw[iQ]at bB;split at bB;(rename_i e;subst e;simp[cO]);exact bB,a2⟩) id)⟩,I.fr,I.defers,I.size,I.slot,I.new,I.ext,I.obk⟩
      ·simp only at aw;rw[iQ]at aw;split at aw
       ·rename_i e;subst e;cases aw;obtain⟨gH,br,eS,f1,f2,f3,f4,f5⟩:=I.good.box k cs cO;have:gH=bl:=by have:=ao.bx k bl trivial g1;rw[this]at f1;cases f1;rfl
        subst this;rw[nD fm]at g4 f4;rw[g4]at f4;injection f4 with f4;injection f4 with f4 f6 f7;refine⟨gH,us,el,f1,f2,f3,by rw[nD OP];exact g4,by rw[na OP];exact qz⟩
       ·exact I.good.box j c1 aw
      ·simp only at aw;rw[iQ]at aw;split at aw
       ·rename_i e;subst e;simp[cO]
       ·exact aw
      ·simp only at ld;rw[iQ]at ld;split at ld
       ·rename_i e;subst e;simp[cO]
       ·exact ld
      ·simp only at aw;rw[iQ]at aw;split at aw
       ·rename_i e;subst e;simp[cO]
       ·exact aw
     ·cases he
    ·cases he
   ·cases he
  ·cases he
 ·cases he
def sN{α:Type}(k:aC)(l:List (aC×α)):List (aC×α):=match l with
 |[]=>[]
 |(i,x)::r=>if i=k then sN k r else(i,x)::sN k r
theorem IL{α:Type}(k j:aC):∀l:List (aC×α),look j (sN k l)=if j=k then none else look j l
 |[]=>by simp[sN,look]
 |(i,x)::r=>by
  simp only[sN];by_cases h:i=k
  ·subst h;rw[if_pos rfl,IL i j r];by_cases J:j=i
   ·simp[J]
   ·have:¬i=j:=fun e=>J e.symm;simp[look,J,this]
  ·rw[bq h];simp only[look];by_cases J:i=j
   ·subst J;simp[h]
   ·simp only[J,if_false];exact IL k j r
def G8(agg:Bool):List ae->aT ae
 |[p]=>if agg then some (.agg [p])else some p
 |cs=>if agg then some (.agg cs)else none
def vw(st:aS)(agg:Bool)(s:Nat):aT aS:=
 match get s st.t with
 | .ptr k 0=>match look k st.b with
  |some cs=>if gn cs then match G8 agg cs with
    |some x=>some {st with t:=put s (.eptr x) st.t,b:=sN k st.b}
    |none=>none
   else none
  |none=>none
 |_=>none
theorem abP{u:Value}(h:u.oneCell'=true):u.cells.toList=[u]:=by cases u<;>first|rfl|(simp[Value.oneCell']at h)
theorem PX{w:World}{A:Nat->Nat->Prop}{b:Nat}{us:Array Value}{el:fI}(ah:w.heap[b]? =some (.cells us el))(aW:∀o,o<us.size->A b o):∀(vs:List Value) (off:Nat),us.toList.drop off=vs->jI w A b off vs
 |[],_,_=>trivial
 |v::vs,off,h=>by
  have bS:off<us.toList.length:=by
   rcases ly off us.toList.length with I|I
   ·exact I
   ·rw[List.drop_eq_nil_of_le I]at h;cases h
  have J:=pd bS;rw[h]at J;injection J with J ao;refine⟨⟨aW off (by simpa using bS),?_⟩,PX ah aW vs (off+1) ao.symm⟩;have YZ:off<us.size:=by simpa using bS
  simp only[World.cell?,ah,sD,kk,if_false];rw[J];simp[YZ]
theorem W2{C:ek}{st st':aS}{a:Act}{w:World}{ν:aP}(h:bX C st a w ν){agg:Bool}{s:Nat}(he:vw st agg s=some st'):∃ν',bX C st' a w ν':=by
 unfold vw at he;split at he
 ·rename_i k aa;split at he
  ·rename_i cs cO;split at he
   ·rename_i fm;split at he
    ·rename_i x af;cases he;obtain⟨bl,us,el,g1,g2,g3,g4,g5⟩:=h.good.box k cs cO;rw[na fm]at g5;rw[nD fm]at g4;have bS:bl<w.heap.size:=by
      rcases ly bl w.heap.size with I|I
      ·exact I
      ·rw[Array.getElem?_eq_none I]at g4;cases g4
     let ν':aP:={ν with A:=fun b o=>ν.A b o\/(b=bl/\o<us.size)}
     have ak:l1 w ν w ν':=⟨fun b o aW=>⟨.inl aW,rfl⟩,fun j b _ aw=>aw,fun g n u _ im=>⟨n,u,im,.inl ⟨rfl,rfl⟩⟩,fun _ _ _=>rfl,fun _ _ _ _ h=>h⟩;have ha:∀j c1,look j (sN k st.b)=some c1->j≠k/\look j st.b=some c1:=fun j c1 aw=>by
      rw[IL]at aw;split at aw
      ·cases aw
      ·rename_i e;exact⟨e,aw⟩
     have pI:∀j,(look j (sN k st.b)).isSome->(look j st.b).isSome:=fun j aw=>by obtain⟨c1,gP⟩:=e5.1 aw;simp[(ha j c1 gP).2]
     have np:∀(g:aC) (n:Nat) (v:Value),(look g st.e).isSome->ν.ow g=some (n,v)->v.ownBlock=some bl->cZ:=fun g n v I J ao=>h.good.obx g k n v bl I (by simp[cO]) J ao g1;have mi:aH w ν' (.eptr x) (a.tmps.getD s undef):=by
      have aq:=h.slot s;rw[aa]at aq;simp only[aH]at aq⊢;obtain⟨fY,bR,cA⟩:=aq;rw[g1]at bR;cases bR;have aG:jI w ν'.A bl 0 us.toList:=PX g4 (fun o ak=>.inr ⟨rfl,ak⟩) _ 0 rfl;have g6:cl w ν' cs us.toList:=RF ak g5;unfold G8 at af;split at af
      ·rename_i p;simp only[cl]at g6;obtain⟨u,br,aj,aJ,bs⟩:=g6;subst bs;split at af
       ·cases af;exact⟨bl,0,.agg us,cA,by simp only[aH];exact⟨us,rfl,by rw[aj];simp only[cl];exact⟨u,[],rfl,aJ,rfl⟩⟩,by simpa[oF]using aG⟩
       ·cases af;refine⟨bl,0,u,cA,aJ.1,?_⟩;rw[abP aJ.2,<-aj];exact aG
      ·split at af
       ·cases af;exact⟨bl,0,.agg us,cA,by simp only[aH];exact⟨us,rfl,g6⟩,by simpa[oF]using aG⟩
       ·cases af
     refine⟨ν',Ff (ν:=ν') (st:={st with b:=sN k st.b}) ⟨⟨fun b o aW=>?_,fun j c1 aw=>?_,fun j eo b I J=>h.good.inj j eo b (pI j I) (pI eo J),fun g o aR=>?_,h.good.oinj,fun g j n v b I J=>h.good.obx g j n v b I (pI j J),h.good.one,fun b aD=>h.good.otr b (aD.imp (fun⟨j,bB,a2⟩=>⟨j,pI j bB,a2⟩) id)⟩,⟨h.fr.os,h.fr.tape,h.fr.output,h.fr.size,h.fr.block,fun b o aW=>⟨.inl (h.fr.keep b o aW).1,(h.fr.keep b o aW).2⟩,fun b o aW=>?_,h.fr.obj,h.fr.obn,h.fr.row,h.fr.obr,h.fr.trd,h.fr.trb,h.fr.trn,h.fr.sh,h.fr.nrow⟩,h.defers,h.size,fun i=>uU ak (h.slot i),h.new,fun x af=>⟨uU ak (h.ext x af).1,(h.ext x af).2⟩,h.obk⟩ mi⟩
     ·rcases aW with aW|⟨rfl,_⟩
      ·exact h.good.alt b o aW
      ·exact bS
     ·obtain⟨b4,ld⟩:=ha j c1 aw;obtain⟨gH,br,eS,f1,f2,f3,f4,f5⟩:=h.good.box j c1 ld;refine⟨gH,br,eS,f1,f2,fun o aW=>?_,f4,pZ ak f5⟩;rcases aW with aW|⟨rfl,_⟩
      ·exact f3 o aW
      ·exact b4 (h.good.inj j k _ (by simp[ld]) (by simp[cO]) f1 g1)
     ·obtain⟨v0,eY,aj,aJ,bs,ch⟩:=h.good.own g o aR;have vC:∀b,v0.ownBlock=some b->∀j,ν'.A b j->ν.A b j:=fun b ah j aW=>by
       rcases aW with aW|⟨rfl,_⟩
       ·exact aW
       ·exact(np g _ v0 (by simp[aR]) aj ah).elim
      exact⟨v0,eY,aj,aJ,fun b ah=>⟨(bs b ah).1,fun j aW=>(bs b ah).2 j (vC b ah j aW)⟩,se ak vC ch⟩
     ·rcases aW with aW|⟨rfl,_⟩
      ·exact h.fr.fresh b o aW
      ·exact .inr g2
    ·cases he
   ·cases he
  ·cases he
 ·cases he
def sc(st:aS)(x:cM)(b:Bool):aS:=match x with
 | .t i=>{st with t:=put i (.bool b) st.t}
 | .c _=>st
def pT(nw:List Nat)(o:List aC):List Nat:=nw.filter fun j=>decide (aC.obj j∉o)
theorem aaS{nw:List Nat}{o:List aC}:∀j∈pT nw o,aC.obj j∉o:=fun j aw=>by have:=(List.mem_filter.1 aw).2;simpa using this
def ct(P:bK)(ob:List aC):C->(Exit->aS->Prop)->aS->Prop
 | .skip,Q,st=>Q .normal st
 | .region gs,Q,st=>gv P ob gs st (Q .normal)
 | .drawn q N gs,Q,st=>gO P q [] st.n gs st (oH (st.n+N) st.o (Q .normal))
 | .drawnW nw N gs,Q,st=>gO P false (pT nw st.o) st.n gs st (oH (st.n+N) ((pT nw st.o).map aC.obj++st.o) (Q .normal))
 | .drawnL q N gs ts,Q,st=>gO P q [] st.n gs st (oH (st.n+N) st.o (fun st'=>gv P ob ts st' (Q .normal)))
 | .seq a b,Q,st=>ct P ob a (fun e st'=>match e with| .normal=>ct P ob b Q st'|e=>Q e st') st
 | .cond x t e,Q,st=>match bG st.t x with
  | .bool b=>(b=true->ct P ob t Q (sc st x true))/\(b=false->ct P ob e Q (sc st x false))
  |_=>cZ
 | .block id c,Q,st=>ct P ob c (fun e st'=>match e with| .exit j=>if j=id then Q .normal st' else Q (.exit j) st'|e=>Q e st') st
 | .loop c,Q,st=> ∃(jo:Nat->aS->Prop) (m:Nat) (wB:aS),hH ob st wB/\jo m wB/\
   ∀k s,jo k s->(∀i,js (get i s.t))->(∀j cs,look j s.b=some cs->gn cs=true->ja cs)->ct P ob c (fun e ai=>match e with| .normal=> ∃bb oz,bb<k/\hH ob ai oz/\jo bb oz|e=>Q e ai) s
 | .exit id,Q,st=>Q (.exit id) st
 | .ret,Q,st=>Q .ret st
 | .pub s c,Q,st=>match wq st s with
  |some st'=>ct P ob c Q st'
  |none=>cZ
 | .pubB s c,Q,st=>match zE st s with
  |some st'=>ct P ob c Q st'
  |none=>cZ
 | .fg oZ s c,Q,st=>ct P ob c Q {st with t:=put s (yS oZ (get s st.t)) st.t}
 | .fd s c,Q,st=>xf ob st s/\ct P ob c Q (vv st s)
 | .fz eR s c,Q,st=>match vw st eR s with
  |some st'=>ct P ob c Q st'
  |none=>cZ
 | .no,_,_=>cZ
def fZ(N:Nat)(aZ:List (Nat×cJ)):C->Code->Bool
 | .skip,.skip=>true
 | .region gs,.region _ ops false=>ic N aZ ops.toList gs ops.toList
 | .drawn _ N' gs,.region _ ops true=>N'==N&&ic N aZ ops.toList gs ops.toList&&Ay gs ops.toList&&vp N gs
 | .drawnW _ N' gs,.region _ ops true=>N'==N&&ic N aZ ops.toList gs ops.toList&&Ay gs ops.toList&&vp N gs
 | .drawnL _ N' gs ts,.region _ ops true=>N'==N&&ic N aZ ops.toList (gs++ts) ops.toList&&tW 0 ops.toList&&wm [] gs (nC [] ops.toList)&&vp N gs&&z6 gs.length ops
 | .seq a b,.seq x y=>fZ N aZ a x&&fZ N aZ b y
 | .cond x t e,.cond o t' gr=>ed x o&&fZ N aZ t t'&&fZ N aZ e gr
 | .block id c,.block BM hh=>id==BM&&fZ N aZ c hh
 | .loop c,.loop hh=>fZ N aZ c hh
 | .exit id,.exit BM=>id==BM
 | .ret,.ret=>true
 | .pub _ c,hh=>fZ N aZ c hh
 | .pubB _ c,hh=>fZ N aZ c hh
 | .fg _ _ c,hh=>fZ N aZ c hh
 | .fz _ _ c,hh=>fZ N aZ c hh
 | .fd _ c,hh=>fZ N aZ c hh
 | .no,_=>true
 |_,_=>false
theorem Hd{N:Nat}{aZ:List (Nat×cJ)}{ops:List Oper}:∀{gs:List cy} {os:List Oper},ic N aZ ops gs os=true->gs.length=os.length
 |[],[],_=>rfl
 |[],_::_,h=>by simp[ic]at h
 |_::_,[],h=>by simp[ic]at h
 |g::gs,o::os,h=>by simp only[ic,bM]at h;simp[Hd h.2]
theorem N2{N:Nat}{aZ:List (Nat×cJ)}{ops:List Oper}{ts:List cy}:∀(gs:List cy) (os:List Oper),ic N aZ ops (gs++ts) os=true->ic N aZ ops ts (os.drop gs.length)=true
 |[],os,h=>by simpa using h
 |_::_,[],h=>by simp[ic]at h
 |g::gs,o::os,h=>by simp only[dm,ic,bM]at h;simpa using N2 gs os h.2
def FN(P:bK)(C:ek)(c:Code)(Q:Exit->aS->Prop)(st:aS):Prop:= ∀a w ν,bX C st a w ν->c.wp P (fun e bU w'=> ∃st' ν',Q e st'/\bX C st' bU w' ν') a w
theorem nn{P:bK}(hm:P.follows .mixedOrders=true){aZ:List (Nat×cJ)}(aD:ez P aZ=true){X:ek}:∀(c:C) (code:Code) (Q:Exit->aS->Prop) (st:aS),fZ X.N aZ c code=true->ct P X.ob c Q st->FN P X code Q st
 | .skip,code,Q,st,ak,he=>by
  cases code<;>simp only[fZ]at ak<;>try cases ak
  intro a w ν hr;exact wp_skip ⟨st,ν,he,hr⟩
 | .region gs,code,Q,st,ak,he=>by
  cases code<;>try(simp[fZ]at ak;done)
  rename_i id ops draw;cases draw<;>simp only[fZ]at ak
  ·intro a w ν hr;refine wp_region ?_;have aG:gs.length=ops.size:=by simpa using Hd ak
   rw[List.range_eq_range',<-aG];exact G2 aD (K:=Q .normal) (fun st' bU w' ν' I J=>⟨st',ν',I,J⟩) gs ops.toList 0 Ψ ak st a w ν he hr
  ·cases ak
 | .drawn q N gs,code,Q,st,ak,he=>by
  cases code<;>try(simp[fZ]at ak;done)
  rename_i id ops draw;cases draw<;>simp only[fZ]at ak
  ·cases ak
  ·simp only[bM,ej]at ak;obtain⟨⟨⟨rfl,I⟩,J⟩,ao⟩:=ak;intro a w ν hr;exact MY hm aD I J ao (nw:=[]) (K:=Q .normal) (fun st' bU w' ν' I J=>⟨st',ν',I,J⟩) Ψ he hr
 | .drawnW nw N gs,code,Q,st,ak,he=>by
  cases code<;>try(simp[fZ]at ak;done)
  rename_i id ops draw;cases draw<;>simp only[fZ]at ak
  ·cases ak
  ·simp only[bM,ej]at ak;obtain⟨⟨⟨rfl,I⟩,J⟩,ao⟩:=ak;intro a w ν hr;exact MY hm aD I J ao (nw:=pT nw st.o) (K:=Q .normal) (fun st' bU w' ν' I J=>⟨st',ν',I,J⟩) aaS he hr
 | .drawnL q N gs ts,code,Q,st,ak,he=>by
  cases code<;>try(simp[fZ]at ak;done)
  rename_i id ops draw;cases draw<;>simp only[fZ]at ak
  ·cases ak
  ·simp only[bM,ej]at ak;obtain⟨⟨⟨⟨⟨rfl,I⟩,J⟩,ao⟩,aO⟩,bp⟩:=ak;intro a w ν hr;have aG:gs.length+ts.length=ops.size:=by simpa using Hd I
   refine VE hm aD I J ao bp aO (nw:=[]) (K1:=fun st'=>gv P X.ob ts st' (Q .normal)) (fun st' bU w' ν' aa bW=>?_) Ψ he hr;rw[show ops.size-gs.length=ts.length by omega];exact G2 aD (K:=Q .normal) (fun st' bU w' ν' I J=>⟨st',ν',I,J⟩) ts (ops.toList.drop gs.length) gs.length (fun j=>by rw[k2];simp) (N2 gs ops.toList I) st' bU w' ν' aa bW
 | .seq x y,code,Q,st,ak,he=>by
  cases code<;>try(simp[fZ]at ak;done)
  rename_i qq kq;simp only[fZ,bM]at ak;intro a w ν hr;refine wp_seq ?_;have I:=nn hm aD x qq _ st ak.1 he a w ν hr;refine wp_mono I fun e bU w' bI=>?_;obtain⟨st',ν',bn,bW⟩:=bI;cases e with
  |normal=>exact nn hm aD y kq Q st' ak.2 bn bU w' ν' bW
  |_=>exact⟨st',ν',bn,bW⟩
 | .cond x t e,code,Q,st,ak,he=>by
  cases code<;>try(simp[fZ]at ak;done)
  rename_i o UF ce;simp only[fZ,bM]at ak;intro a w ν hr;simp only[ct]at he;have af:=ee hr ak.1.1;split at he
  ·rename_i b ah;rw[ah]at af;simp only[aH]at af;have By:bX X (sc st x b) a w ν:=by
    unfold sc;split
    ·exact JF hr (by simpa[bG]using ah)
    ·exact hr
   refine wp_cond af ?_;cases b
   ·exact nn hm aD e ce Q _ ak.2 (he.2 rfl) a w ν By
   ·exact nn hm aD t UF Q _ ak.1.2 (he.1 rfl) a w ν By
  ·exact he.elim
 | .block id c,code,Q,st,ak,he=>by
  cases code<;>try(simp[fZ]at ak;done)
  rename_i BM hh;simp only[fZ,bM,ej]at ak;obtain⟨rfl,ak⟩:=ak;intro a w ν hr;refine wp_block ?_;refine wp_mono (nn hm aD c hh _ st ak he a w ν hr) fun e bU w' bI=>?_;obtain⟨st',ν',bn,bW⟩:=bI;cases e with
  |exit j=>
   simp only[Exit.inBlock]at bn⊢;by_cases aw:j=id
   ·rw[if_pos aw]at bn⊢;exact⟨st',ν',bn,bW⟩
   ·rw[bq aw]at bn⊢;exact⟨st',ν',bn,bW⟩
  |_=>exact⟨st',ν',bn,bW⟩
 | .loop c,code,Q,st,ak,he=>by
  cases code<;>try(simp[fZ]at ak;done)
  rename_i hh;simp only[fZ]at ak;intro a w ν hr;simp only[ct]at he;obtain⟨jo,m,wB,hw,az,rR⟩:=he;refine wp_loop_ghost (fun k a w=> ∃s ν,jo k s/\bX X s a w ν) m ⟨wB,_,az,hr.weaker hw⟩ ?_;intro k a w ub;obtain⟨s,ν,aq,ju⟩:=ub;have I:=rR k s aq (fun i=>RK (ju.slot i)) (fun j cs aw=>by obtain⟨bl,us,el,_,_,_,_,g5⟩:=ju.good.box j cs aw;exact JJ g5);refine wp_mono (nn hm aD c hh _ s ak I a w ν ju) fun e bU w' bI=>?_;obtain⟨st',ν',bn,bW⟩:=bI;cases e with
  |normal=>obtain⟨bb,oz,aj,aJ,bs⟩:=bn;exact⟨bb,aj,oz,_,bs,bW.weaker aJ⟩
  |_=>exact⟨st',ν',bn,bW⟩
 | .exit id,code,Q,st,ak,he=>by
  cases code<;>try(simp[fZ]at ak;done)
  rename_i BM;simp only[fZ,ej]at ak;subst ak;intro a w ν hr;exact wp_exit ⟨st,ν,he,hr⟩
 | .ret,code,Q,st,ak,he=>by
  cases code<;>try(simp[fZ]at ak;done)
  intro a w ν hr;exact wp_ret ⟨st,ν,he,hr⟩
 | .pub s c,code,Q,st,ak,he=>by
  simp only[fZ]at ak;simp only[ct]at he;split at he
  ·rename_i st' aq;intro a w ν hr;obtain⟨ν',I⟩:=ab2 hr aq;exact nn hm aD c code Q st' ak he a w ν' I
  ·exact he.elim
 | .pubB s c,code,Q,st,ak,he=>by
  simp only[fZ]at ak;simp only[ct]at he;split at he
  ·rename_i st' aq;intro a w ν hr;obtain⟨ν',I⟩:=ab1 hr aq;exact nn hm aD c code Q st' ak he a w ν' I
  ·exact he.elim
 | .fg oZ s c,code,Q,st,ak,he=>by simp only[fZ]at ak;simp only[ct]at he;intro a w ν hr;exact nn hm aD c code Q _ ak he a w ν (Ff hr (WN (hr.slot s)))
 | .fd s c,code,Q,st,ak,he=>by simp only[fZ]at ak;simp only[ct]at he;intro a w ν hr;obtain⟨ν',I⟩:=Nj hr he.1;exact nn hm aD c code Q _ ak he.2 a w ν' I
 | .fz eR s c,code,Q,st,ak,he=>by
  simp only[fZ]at ak;simp only[ct]at he;intro a w ν hr;split at he
  ·rename_i st' eI;obtain⟨ν',I⟩:=W2 hr eI;exact nn hm aD c code Q st' ak he a w ν' I
  ·exact he.elim
 | .no,code,Q,st,ak,he=>by simp only[ct]at he
inductive cr where
 |tmp (i:Nat)
 |cell (i:Nat) (agg:Bool) (sz:Nat)
def be(st:aS):cr->aT (Prop×ae)
 | .tmp i=>some (True,get i st.t)
 | .cell i agg sz=>mn st.b st.e agg sz (get i st.t)
def a1(st:aS):List cr->aT (Prop×List ae)
 |[]=>some (True,[])
 |r::di=>match be st r,a1 st di with
  |some (c,p),some (hh,a6)=>some (c/\hh,p::a6)
  |_,_=>none
def ox(aZ:List (Nat×cJ)):List cr->List ResultVar->Bool
 |[],[]=>true
 | .tmp i::di,.tmp j::os=>i==j&&ox aZ di os
 | .cell i agg sz::di,.cell j t::os=>i==j&&(match dO aZ t with|some f=>f.size==sz&&f.kind.isAgg==agg|none=>false)&&ox aZ di os
 |_,_=>false
def aV:List ae->ae
 |[p]=>p
 |a6=>.tuple a6
def Fu(tmps:Array Value):ResultVar->Sem Value
 | .tmp t=>pure (tmps.getD t undef)
 | .cell x t=>do loadVar t (<-asAddr (tmps.getD x undef))
theorem JT(fn:Func)(tmps:Array Value):results fn tmps=(do let vs<-fn.results.mapM (Fu tmps);pure (if h:vs.size=1 then vs[0]else .tuple vs)):=by unfold results;congr 2
theorem Co{P:bK}{aZ:List (Nat×cJ)}(aD:ez P aZ=true){X:ek}{st:aS}{a:Act}{w:World}{ν:aP}(hr:bX X st a w ν):
  ∀(di:List cr) (os:List ResultVar) (c:Prop) (a6:List ae),ox aZ di os=true->a1 st di=some (c,a6)->c->
  ∃vs,(os.mapM (Fu a.tmps)).run P w= .ok vs w/\cc w ν a6 vs
 |[],[],c,a6,_,he,_=>by simp only[a1]at he;cases he;exact⟨[],Ψ,by simp[cc]⟩
 |[],_::_,_,_,ak,_,_=>by simp[ox]at ak
 | .tmp _::_,[],_,_,ak,_,_=>by simp[ox]at ak
 | .cell _ _ _::_,[],_,_,ak,_,_=>by simp[ox]at ak
 |r::di,o::os,c,a6,ak,he,aE=>by
  simp only[a1]at he;split at he
  ·rename_i cN p c2 QY I J;cases he;cases r with
   |tmp i=>
    cases o with
    |cell _ _=>simp[ox]at ak
    |tmp j=>simp only[ox,bM,ej]at ak;obtain⟨rfl,ak⟩:=ak;simp only[be]at I;cases I;obtain⟨vs,g1,g2⟩:=Co aD hr di os c2 QY ak J aE.2;refine⟨a.tmps.getD i undef::vs,?_,by simp only[cc];exact⟨_,_,rfl,hr.slot i,g2⟩⟩;simp only[List.mapM_cons,e2,Fu,fH,e4,g1]
   |cell i agg sz=>
    cases o with
    |tmp _=>simp[ox]at ak
    |cell j t=>
     simp only[ox,bM,ej]at ak;obtain⟨⟨rfl,ao⟩,ak⟩:=ak;split at ao
     ·rename_i f aL;simp only[bM,ej]at ao;obtain⟨rfl,rfl⟩:=ao;simp only[be]at I;obtain⟨vs,g1,g2⟩:=Co aD hr di os c2 QY ak J aE.2;obtain⟨v,f1,f2⟩:=Ez aD hr.good aL (hr.slot i) I aE.1;have Bw:∃lA,a.tmps.getD i undef= .pointer (some lA):=by
       have aq:=hr.slot i;unfold mn at I;split at I
       ·rename_i dn k n kS hK aa;rw[aa]at aq;simp only[aH]at aq;obtain⟨⟨b,o,e⟩,_⟩:=aq;exact⟨_,e⟩
       ·rename_i k off aa;rw[aa]at aq;simp only[aH]at aq;obtain⟨b,_,e⟩:=aq;exact⟨_,e⟩
       ·rename_i q aa;rw[aa]at aq;simp only[aH]at aq;obtain⟨b,off,u,e,_⟩:=aq;exact⟨_,e⟩
       ·cases I
      obtain⟨lA,Oc⟩:=Bw;rw[Oc]at f1;simp only[Instr.loadAt,Instr.sureAddr,e2,fH,e4]at f1;refine⟨v::vs,?_,by simp only[cc];exact⟨_,_,rfl,f2,g2⟩⟩;have XX:(asAddr (.pointer (some lA)):Sem Addr).run P w= .ok lA w:=rfl;simp only[List.mapM_cons,e2,Fu,fH,e4,g1,Oc,XX,f1]
     ·cases ao
  ·cases he
theorem uS{w:World}{ν:aP}:∀{a6:List ae} {vs:List Value},cc w ν a6 vs->vs.length=a6.length
 |[],vs,h=>by simp only[cc]at h;subst h;rfl
 |p::a6,vs,h=>by simp only[cc]at h;obtain⟨u,br,rfl,_,J⟩:=h;simp[uS J]
def h6:Nat->List ae->List (Nat×ae)
 |_,[]=>[]
 |i,p::a6=>(i,p)::h6 (i+1) a6
theorem yV:∀(a6:List ae) (i j:Nat),get j (h6 i a6)=if i<=j/\j<i+a6.length then a6.getD (j-i) .junk else .junk
 |[],i,j=>by simp[h6,get]
 |p::a6,i,j=>by
  simp only[h6,get];by_cases h:i=j
  ·subst h;simp
  ·rw[bq h,yV a6 (i+1) j];by_cases J:i<=j/\j<i+(p::a6).length
   ·rw[if_pos J,if_pos (by simp at J⊢;omega)];have:j-i=(j-(i+1))+1:=Ω
    rw[this];simp
   ·rw[bq J,bq (by simp at J⊢;omega)]
def mm{α:Type}(ai:dD):List (aC×α)->Prop
 |[]=>True
 |(k,_)::r=>au ai k/\mm ai r
theorem xJ{α:Type}{ai:dD}:∀{l:List (aC×α)},mm ai l->∀k,(look k l).isSome->au ai k
 |[],_,k,h=>by simp[look]at h
 |(i,x)::r,aa,k,h=>by
  simp only[mm]at aa;simp only[look]at h;split at h
  ·rename_i e;subst e;exact aa.1
  ·exact xJ aa.2 k h
def cW(di:List cr)(s:dD)(Q:ae->dD->Prop)(e:Exit)(st:aS):Prop:=
 (e= .ret\/e= .normal)/\match a1 st di with
  |some (c,a6)=>c/\∃ai,mm ai s.b/\mm ai s.e/\o9 (au ai) ai.b st.b/\p3 (au ai) ai.e st.e/\hd ai/\kin (au ai) (bC (aV a6))/\Q (bC (aV a6)) ai
  |none=>cZ
theorem b7.ofW{P:bK}{aZ:List (Nat×cJ)}(aD:ez P aZ=true){f:FuncId}{fn:Func}(aL:P.funcs[f]? =some fn){code:Code}(ah:fn.body=some code)(ft:(fn.name== "runtime.NumGoroutine")=false){di:List cr}(ju:ox aZ di fn.results.toList=true)
  {args:List ae} (aG:args.length<=fn.ntmps) {s:dD} (kx:hd s) {Q:ae->dD->Prop} (he:∀X:ek,X.N=fn.ntmps->X.ob=ec s->X.ex=[]->(∀b o,X.ν0.A b o->b<X.w0.heap.size)->iZ args->(∀j cs,look j s.b=some cs->gn cs=true->ja cs)->FN P X code (cW di s Q) ⟨h6 0 args,s.b,s.e,0,ec s⟩):b7 P f args s Q:=by
 intro w ν vs gl aR af hr;refine .inl ⟨⟨fn,aL,by simp[ah],ft⟩,?_⟩;have mj:=uS hr;have gj:vs.size=args.length:=by simpa using mj
 let X:ek:=⟨w,ν,fv ν s,fn.ntmps,ec s,gl,[]⟩
 have jh:∀k,fresh 0 (ec s) k->ν.bx k=none/\ν.ow k=none/\∀j b,¬ν.tr k j b:=by
  intro k aa;cases k with
  |loc m=>exact⟨(af _).1 (kx.1 m),(af _).2.1 (kx.2 m),(af _).2.2⟩
  |obj m=>
   simp only[fresh,true_and]at aa;refine⟨?_,?_,(af _).2.2⟩
   ·refine(af _).1 ?_;cases h:look (.obj m) s.b with
    |none=>rfl
    |some x=>exact absurd (uM (.inl (by simp[h]))) aa
   ·refine(af _).2.1 ?_;cases h:look (.obj m) s.e with
    |none=>rfl
    |some x=>exact absurd (uM (.inr (by simp[h]))) aa
 have lb:∀m,(ν.bx (.obj m)≠none\/ν.ow (.obj m)≠none)-> .obj m∈ec s:=by
  intro m hm;refine Classical.byContradiction fun aE=>?_;obtain⟨I,J,_⟩:=jh (.obj m) ⟨trivial,aE⟩;rcases hm with hm|hm
  ·exact hm I
  ·exact hm J
 have mR:bX X ⟨h6 0 args,s.b,s.e,0,ec s⟩ {tmps:=vs++p8 (fn.ntmps-vs.size) undef,defers:=[]} w ν:=by
  refine⟨⟨aR.alt,fun k cs aa=>?_,aR.inj,fun g o eO=>?_,aR.oinj,aR.obx,aR.one,aR.otr⟩,⟨rfl,rfl,rfl,cq _,fun _ _ _=>rfl,fun b o h=>⟨h,rfl⟩,fun b o h=>.inl h,fun n b h=>h,fun n b h=>lb n (.inl (by rw[h];simp)),fun m n u h=>⟨n,u,h,.inl ⟨rfl,rfl⟩⟩,fun m n u h=>lb m (.inr (by rw[h];simp)),fun k j _ _ b h=>absurd h ((af k).2.2 j b),fun k j b h=>absurd h ((af k).2.2 j b),fun k j b h=>absurd h ((af k).2.2 j b),fun _ _ _=>rfl,fun j n u b aj _=>(by rw[(af _).2.1 (kx.2 j)]at aj;cases aj)⟩,rfl,?_,fun i=>?_,jh,fun _ af=>(by cases af),fun m hm aL=>aL.2 hm⟩
  ·obtain⟨bl,us,el,g1,g2,g3⟩:=aR.box k cs aa;exact⟨bl,us,el,g1,.inl g2,g3⟩
  ·obtain⟨v,us,g1,g2,g3,g4⟩:=aR.own g o eO;exact⟨v,us,g1,g2,fun bl fl=>⟨.inl (g3 bl fl).1,(g3 bl fl).2⟩,g4⟩
  ·show(vs++p8 (fn.ntmps-vs.size) undef).size=fn.ntmps;simp;omega
  ·rw[yV];by_cases az:i<args.length
   ·rw[if_pos Ω];have oc:args[i]? =some args[i]:=cF az;obtain⟨v,aj,aJ⟩:=zR i hr oc;have aM:(vs++p8 (fn.ntmps-vs.size) undef).getD i undef=v:=by
     have vq:vs[i]? =some v:=by simpa using aj
     rw[oC,Array.getElem?_append_left Ω,vq];rfl
    show aH w ν _ ((vs++p8 (fn.ntmps-vs.size) undef).getD i undef);rw[aM];simpa[List.getD,oc]using aJ
   ·rw[bq Ω];simp[aH]
 have BL:=he X rfl rfl rfl aR.alt (JQ hr) (fun j cs aw=>by obtain⟨bl,us,el,_,_,_,_,g5⟩:=aR.box j cs aw;exact JJ g5) _ w ν mR;refine calls_of_wp aL ah (wp_mono BL fun e bU w' bI=>?_);obtain⟨st',ν',⟨ik,bn⟩,bW⟩:=bI;cases hn:a1 st' di with
 |none=>simp[hn]at bn
 |some x=>
  obtain⟨hh,a6⟩:=x;simp only[hn]at bn;obtain⟨kK,ai,kb,ke,bR,cA,dE,dM,cP⟩:=bn;obtain⟨h5,g1,g2⟩:=Co aD bW di fn.results.toList hh a6 ju hn kK;have HS:=uS g2;have la:bU.defers=[]/\∃v,(results fn bU.tmps).run P w'= .ok v w'/\(fun(e:Ending) w'=> ∃v r ai ν',e= .returned v/\Q r ai/\aH w' ν' r v/\Good (fun bl=>fv ν s bl\/w.heap.size<=bl) w' ν' ai.b ai.e/\pD ν' ai/\hd ai/\ni ⟨w,ν,fv ν s,0,ec s,gl,[]⟩ w' ν') (.returned v) w':=by
   refine⟨bW.defers,?_⟩;have gD:(results fn bU.tmps).run P w'= .ok (if h:h5.toArray.size=1 then h5.toArray[0]else .tuple h5.toArray) w':=by rw[JT];simp only[e2,Array.mapM_eq_mapM_toList,Sem.run_map,g1,e4,fH]
   refine⟨_,gD,_,bC (aV a6),ai,ν'.cut (au ai),rfl,cP,?_,bW.good.cut bR cA (fun bl h _=>h),?_,dE,?_⟩
   ·have jt:aH w' ν' (aV a6) (if h:h5.toArray.size=1 then h5.toArray[0]else .tuple h5.toArray):=by
     match a6,h5,g2,HS with
     |[p],[v],g2,_=>simp only[cc]at g2;obtain⟨u,br,aj,aJ,_⟩:=g2;cases aj;simpa[aV]using aJ
     |[],[],g2,_=>simp[aV,aH,cc]
     |p::fN::a6,v::v2::h5,g2,_=>rw[dif_neg Ψ];simp only[aV,aH];exact⟨_,rfl,by simpa using g2⟩
     |[_],[],_,h=>simp at h
     |[],_::_,_,h=>simp at h
     |[_],_::_::_,_,h=>simp at h
     |_::_::_,[],_,h=>simp at h
     |_::_::_,[_],_,h=>simp at h
    exact qM (mB.cut _ w' ν') _ _ dM (wx _ _ jt)
   ·intro k;refine⟨?_,?_,?_⟩;rotate_left 2
    ·rintro j b ⟨aq,ah⟩;obtain⟨t1,t2⟩:=bW.fr.trn k j b ah;rcases aq with aq|aq<;>obtain⟨x,pL⟩:=e5.1 aq
     ·obtain⟨bl,br,el,aj,_⟩:=bW.good.box k x (bR k x pL).1;rw[t1]at aj;cases aj
     ·obtain⟨v',br,aj,_⟩:=bW.good.own k x (cA k x pL).1;rw[t2]at aj;cases aj
    ·intro aa;by_cases aq:au ai k
     ·rw[aP.cut_bx aq];rcases aq with aq|aq
      ·rw[aa]at aq;cases aq
      ·obtain⟨x,pL⟩:=e5.1 aq;obtain⟨v',br,aj,_⟩:=bW.good.own k x (cA k x pL).1;rcases bW.good.one k with I|I
       ·exact I
       ·rw[I]at aj;cases aj
     ·exact(aP.cut_no aq).1
    ·intro aa;by_cases aq:au ai k
     ·rw[aP.cut_ow aq];rcases aq with aq|aq
      ·obtain⟨x,pL⟩:=e5.1 aq;obtain⟨bl,br,el,aj,_⟩:=bW.good.box k x (bR k x pL).1;rcases bW.good.one k with I|I
       ·rw[I]at aj;cases aj
       ·exact I
      ·rw[aa]at aq;cases aq
     ·exact(aP.cut_no aq).2.1
   ·refine⟨bW.fr.os,bW.fr.tape,bW.fr.output,bW.fr.size,bW.fr.block,bW.fr.keep,bW.fr.fresh,fun n b h=>?_,fun n b h=>lb n (.inl (by rw[h];simp)),fun m n u h=>?_,fun m n u h=>lb m (.inr (by rw[h];simp)),fun k j bb eo b I J=>bW.fr.trd k j bb eo b I.2 J.2,fun k j b ah=>bW.fr.trb k j b ah.2,fun k j b ah=>(by rw[aP.cut_bx ah.1,aP.cut_ow ah.1];exact bW.fr.trn k j b ah.2),bW.fr.sh,fun j n u b aj aJ=>bW.fr.nrow j n u b (aP.cut_someO aj).2 aJ⟩
    ·have aq:au ai (.obj n):=by
      cases aG:look (.obj n) s.b with
      |none=>rw[(af _).1 aG]at h;cases h
      |some x=>exact xJ kb _ (by simp[aG])
     rw[aP.cut_bx aq];exact bW.fr.obj n b h
    ·have aq:au ai (.obj m):=by
      cases aG:look (.obj m) s.e with
      |none=>rw[(af _).2.1 aG]at h;cases h
      |some x=>exact xJ ke _ (by simp[aG])
     rw[aP.cut_ow aq];exact bW.fr.row m n u h
  rcases ik with rfl|rfl<;>exact la
theorem b7.of{P:bK}(hm:P.follows .mixedOrders=true){aZ:List (Nat×cJ)}(aD:ez P aZ=true){f:FuncId}{fn:Func}(aL:P.funcs[f]? =some fn){code:Code}(ah:fn.body=some code)(ft:(fn.name== "runtime.NumGoroutine")=false){c:C}(aE:fZ fn.ntmps aZ c code=true){di:List cr}(ju:ox aZ di fn.results.toList=true)
  {args:List ae} (aG:args.length<=fn.ntmps) {s:dD} (kx:hd s) {Q:ae->dD->Prop} (he:iZ args->(∀j cs,look j s.b=some cs->gn cs=true->ja cs)->ct P (ec s) c (cW di s Q) ⟨h6 0 args,s.b,s.e,0,ec s⟩):b7 P f args s Q:=
 b7.ofW aD aL ah ft ju aG kx fun X lE j9 _ _ I J=>nn hm aD c code _ _ (by rw[lE];exact aE) (by rw[j9];exact he I J)
def c8(aZ:List (Nat×cJ))(c:C)(di:List cr)(I8:Nat)(fn:Func):Bool:=
 match fn.body with
 |some code=>fZ fn.ntmps aZ c code&&ox aZ di fn.results.toList&& !(fn.name== "runtime.NumGoroutine")&&decide (I8<=fn.ntmps)
 |none=>false
theorem b7.mk{P:bK}(hm:P.follows .mixedOrders=true){aZ:List (Nat×cJ)}(aD:ez P aZ=true){f:FuncId}{fn:Func}(aL:P.funcs[f]? =some fn){c:C}{di:List cr}{n:Nat}(dS:c8 aZ c di n fn=true)
  {args:List ae} (aG:args.length<=n) {s:dD} (kx:hd s) {Q:ae->dD->Prop} (he:iZ args->(∀j cs,look j s.b=some cs->gn cs=true->ja cs)->ct P (ec s) c (cW di s Q) ⟨h6 0 args,s.b,s.e,0,ec s⟩):b7 P f args s Q:=by
 unfold c8 at dS;split at dS
 ·rename_i code ah;simp only[bM,q0,fK]at dS;obtain⟨⟨⟨I,J⟩,ao⟩,aO⟩:=dS;exact b7.of hm aD aL ah ao I J (Nat.le_trans aG aO) kx he
 ·cases dS
theorem qI:hd ⟨[],[]⟩:=⟨fun _=>rfl,fun _=>rfl⟩
def cg(di:List cr)(r:ae)(e:Exit)(st:aS):Prop:=
 (e= .ret\/e= .normal)/\match a1 st di with
  |some (c,a6)=>c/\bC (aV a6)=r
  |none=>cZ
theorem K5{di:List cr}{r:ae}(hr:kin (fun _=>cZ) r):cg di r=cW di ⟨[],[]⟩ (fun cE ai=>cE=r/\ai=⟨[],[]⟩):=by
 funext e st;unfold cg cW;apply propext;refine and_congr_right fun _=>?_;cases a1 st di with
 |none=>exact Iff.rfl
 |some x=>
  obtain⟨c,a6⟩:=x;refine and_congr_right fun _=>?_;constructor
  ·intro h;refine⟨⟨[],[]⟩,trivial,trivial,fun k cs aa=>by simp[look]at aa,fun k cs aa=>by simp[look]at aa,qI,?_,h,rfl⟩;rw[h];exact nB (fun k aa=>aa.elim) r hr
  ·rintro⟨ai,_,_,_,_,_,_,h,_⟩;exact h
theorem b6.mk{P:bK}(hm:P.follows .mixedOrders=true){aZ:List (Nat×cJ)}(aD:ez P aZ=true){f:FuncId}{fn:Func}(aL:P.funcs[f]? =some fn){c:C}{di:List cr}{n:Nat}(dS:c8 aZ c di n fn=true)
  {args:List ae} (aG:args.length<=n) {r:ae} (hr:kin (fun _=>cZ) r) (he:iZ args->ct P [] c (cg di r) ⟨h6 0 args,[],[],0,[]⟩):b6 P f args r:=by
 refine b7.mk hm aD aL dS aG qI fun I _=>?_;rw[<-K5 hr];exact he I
theorem Ae{α:Type}{β:Type}:∀l:List (aC×α),bg ([]:List (aC×β)) l=l
 |[]=>rfl
 |(k,x)::r=>by simp[bg,look,Ae r]
theorem CallDo.val{P:bK}{n:Nat}{args:List ae}{st:aS}{d:aT Nat}{K:aS->Prop}{r:ae}(aa:kinL (fun _=>cZ) args)(aL:b6 P n args r)(h:K {st with t:=fk d r st.t}):CallDo P n args st d K:=by
 refine .inl ⟨⟨[],[]⟩,_,fun k cs aa=>by simp[look]at aa,fun k cs aa=>by simp[look]at aa,qI,nA (fun _ h=>h.elim) _ aa,aL,?_⟩;rintro cE ai ⟨rfl,rfl⟩;refine⟨⟨fun m h=>by simp[look]at h,fun m h=>by simp[look]at h⟩,?_⟩;have:after st ⟨[],[]⟩ ⟨[],[]⟩ d cE={st with t:=fk d cE st.t}:=by simp[after,Ae,ec]
 rw[this];exact h
@[reducible,simp] def da(n:Int):cM:= .c (.int .i64 n)
@[reducible,simp] def ab(a b:Nat):cy:=⟨none,.s (.v a (.mov (.t b)))⟩
@[reducible,simp] def bk(a:Nat)(i:fO):cy:=⟨none,.s (.v a i)⟩
@[reducible,simp] def dY(i:dP):cy:=⟨none,.s i⟩
@[reducible,simp] def kC(a f:Nat)(l:List cM):cy:=⟨none,.call (some a) (.c (.func f [])) l⟩
@[reducible,simp] def bP(j:Nat)(w:Bool)(a b:Nat):cy:=⟨some (j,w),.s (.v a (.mov (.t b)))⟩
@[reducible,simp] def lv(j:Nat)(w:Bool)(a:Nat)(i:fO):cy:=⟨some (j,w),.s (.v a i)⟩
@[reducible,simp] def ys(j:Nat)(w:Bool)(i:dP):cy:=⟨some (j,w),.s i⟩
@[reducible,simp] def cQ(d s a b:Nat):cy:=bk d (.iaddr s (.t a) (.t b))
@[reducible,simp] def bf(d s a:Nat):cy:=bk d (.load false s (.t a))
@[reducible,simp] def ck(d s a:Nat):cy:=bk d (.load true s (.t a))
@[reducible,simp] def bm(d o s a:Nat):cy:=bk d (.faddr o false s (.t a))
@[reducible,simp] def nb(d o s a:Nat):cy:=bk d (.faddr o true s (.t a))
@[reducible,simp] def cz(d:Nat)(o:BinOp)(a b:Nat):cy:=bk d (.bin o false (.t a) (.t b))
@[reducible,simp] def bc(d:Nat)(o:BinOp)(a:Nat)(n:Int):cy:=bk d (.bin o false (.t a) (da n))
@[reducible,simp] def c7(d a:Nat):cy:=bk d (.len (.t a))
@[reducible,simp] def dB(d a:Nat):cy:=bk d (.notB (.t a))
@[reducible,simp] def dN(d i a:Nat):cy:=bk d (.ext i (.t a))
@[reducible,simp] def dk(d a b:Nat):cy:=bk d (.pick (.t a) (.c (.bool true)) (.t b))
@[reducible,simp] def e7(d a b:Nat):cy:=bk d (.pick (.t a) (.t b) (.c (.bool false)))
@[reducible,simp] def bD(d:Nat)(b:Bool):cy:=bk d (.mov (.c (.bool b)))
@[reducible,simp] def cd(d:Nat)(n:Int):cy:=bk d (.mov (da n))
@[reducible,simp] def bE(s a b:Nat):cy:=dY (.store s (.t a) (.t b))
@[reducible,simp] def aI(j:Nat)(w:Bool)(x:cy):cy:=⟨some (j,w),x.i⟩
@[reducible,simp] def ag(l:List cy)(c:C):C:= .seq (.region l) c
@[reducible,simp] def bh(n:Nat)(a b:C):C:= .cond (.t n) a b
@[reducible,simp] def Tc(d a:Nat)(l:List cM):cy:=⟨none,.call (some d) (.t a) l⟩
@[reducible,simp] def cK(d f a:Nat):cy:=kC d f [.t a]
@[reducible,simp] def eZ(d f a b:Nat):cy:=kC d f [.t a,.t b]
@[reducible,simp] def cU:List ae:=[.int .i64 0,.int .i64 0,.str [],.slice 4 .nil []]
@[reducible,simp] def gb(a b:Nat):cy:=dY (.box a none (.t b))
@[reducible,simp] def ht(a:Nat)(l:List ae):cy:=dY (.alloc a none (.agg l))
@[reducible,simp] def nI(a n:Nat):cy:=bk a (.mov (.c (.slice n .nil [])))
@[reducible,simp] def lW(a b c d e:Nat):cy:=dY (.app a b c (.t d) (.t e))
@[reducible,simp] def hE(a b c:Nat)(l:List cM):cy:=dY (.bsl a b c l)
@[reducible,simp] def hf(a b:Nat):cy:=bk a (.nck (.t b))
@[reducible,simp] def p7(d s a:Nat)(n:Int):cy:=bk d (.iaddr s (.t a) (da n))
@[reducible,simp] def kB(d:Nat)(l:List ae)(m:List (Nat×Nat×cM)):cy:=bk d (.build l m)
@[reducible,simp] def lX(a b c:Nat)(x:C):C:= .block 0 (.loop (ag [cz a .lss b c] (.seq (bh a .skip (.exit 0)) x)))
end
section
open Go Go.RowKit
theorem hj{α:Type}{l:List α}{i:Nat}(h:i<l.length):∃b,l[i]? =some b/\∀h,(l[i]'h)=b:=⟨l[i],cF h,fun _=>rfl⟩
def J0(st:aS)(i:dP):Prop:=match lr st i with|some (c,_)=>c|none=>cZ
def J1(st:aS)(i:dP):aS:=match lr st i with|some (_,s)=>s|none=>st
def vd(P:bK)(ob:List aC)(r:List cy)(K:aS->Prop)(st:aS):Prop:=gv P ob r st K
def wU(P:bK)(ob:List aC)(c:C)(Q:Exit->aS->Prop)(st:aS):Prop:=ct P ob c Q st
def pB(P:bK)(ob:List aC)(v:ae)(s:Nat)(w:Bool)(i:dQ)(r:List cy)(st:aS)(K:aS->Prop):Prop:=
 match v with
 | .bool b=>(b=w->gv P ob (⟨none,i⟩::r) {st with t:=put s (.bool w) st.t} K)/\(b= !w->gv P ob r {st with t:=fk i.dst (.tuple []) (put s (.bool !w) st.t)} K)
 | .tuple []=>gv P ob r {st with t:=fk i.dst (.tuple []) st.t} K
 |_=>cZ
def tY(P:bK)(ob:List aC)(v:ae)(x:cM)(t e:C)(Q:Exit->aS->Prop)(st:aS):Prop:=
 match v with
 | .bool b=>(b=true->ct P ob t Q (sc st x true))/\(b=false->ct P ob e Q (sc st x false))
 |_=>cZ
def GZ(P:bK)(ob:List aC)(v:ae)(d:aT Nat)(xs:List ae)(r:List cy)(st:aS)(K:aS->Prop):Prop:=
 match v with
 | .func n ds=>CallDo P n (bz (xs++ds)) st d (vd P ob r K)
 |_=>cZ
section
variable {P:bK} {ob:List aC} {st:aS} {K:aS->Prop} {r:List cy} {Q:Exit->aS->Prop} {a b c t e:C}
theorem VU:gv P ob [] st K=K st:=rfl
theorem VW{i:dP}:gv P ob (⟨none,.s i⟩::r) st K=(J0 st i/\gv P ob r (J1 st i) K):=by
 simp only[gv,pz,J0,J1];cases lr st i with
 |none=>simp
 |some x=>rfl
theorem VQ{d:aT Nat}{f:cM}{xs:List cM}:gv P ob (⟨none,.call d f xs⟩::r) st K=GZ P ob (bG st.t f) d (xs.map (bG st.t)) r st K:=by simp only[gv,pz,GZ];rfl
def G1(P:bK)(ob:List aC)(v:ae)(d:aT Nat)(xs:List ae)(r:List cy)(st:aS)(K:aS->Prop):Prop:=
 match v with
 | .func n ds=>kn P ob n (xs++ds) st d (vd P ob r K)
 |_=>cZ
theorem VV{d:aT Nat}{f:cM}{xs:List cM}:gv P ob (⟨none,.opn d f xs⟩::r) st K=G1 P ob (bG st.t f) d (xs.map (bG st.t)) r st K:=by simp only[gv,pz,G1];rfl
theorem VO{n:Nat}{ds xs:List ae}{d:aT Nat}:G1 P ob (.func n ds) d xs r st K=kn P ob n (xs++ds) st d (vd P ob r K):=rfl
def G0(P:bK)(ob:List aC)(v:ae)(d:aT Nat)(r:List cy)(st:aS)(K:aS->Prop):Prop:=
 match v with
 | .func n ds=> ¬n<1000000/\CallDo P (u3 n) (bz ds) st d (vd P ob r K)
 |_=>cZ
theorem VR{d:aT Nat}{f:cM}:gv P ob (⟨none,.callb d f⟩::r) st K=G0 P ob (bG st.t f) d r st K:=by simp only[gv,pz,G0];rfl
theorem VN{n:Nat}{ds:List ae}{d:aT Nat}:G0 P ob (.func n ds) d r st K=(¬n<1000000/\CallDo P (u3 n) (bz ds) st d (vd P ob r K)):=rfl
theorem adQ(n:Nat):u3 n=n-1000000:=rfl
theorem VT{d:Nat}{x:cM}:gv P ob (⟨none,.next d x⟩::r) st K=xa st d (bG st.t x) (vd P ob r K):=by simp only[gv,pz];rfl
def yp(P:bK)(ob:List aC)(c:C)(Q:Exit->aS->Prop):aT aS->Prop
 |some st=>ct P ob c Q st
 |none=>cZ
theorem Tn:yp P ob c Q (some st)=ct P ob c Q st:=rfl
theorem Vp{s:Nat}:ct P ob (.pub s c) Q st=yp P ob c Q (wq st s):=by simp only[ct];cases wq st s<;>rfl
theorem Vl{oZ:Bool}{s:Nat}:ct P ob (.fg oZ s c) Q st=ct P ob c Q {st with t:=put s (yS oZ (get s st.t)) st.t}:=rfl
theorem Vm{oZ:Bool}{s:Nat}{d:C}:ct P ob (.seq (.fg oZ s c) d) Q st=ct P ob (.seq c d) Q {st with t:=put s (yS oZ (get s st.t)) st.t}:=rfl
theorem Vn{eR:Bool}{s:Nat}:ct P ob (.fz eR s c) Q st=yp P ob c Q (vw st eR s):=by simp only[ct];cases vw st eR s<;>rfl
theorem Vo{eR:Bool}{s:Nat}{d:C}:ct P ob (.seq (.fz eR s c) d) Q st=yp P ob (.seq c d) Q (vw st eR s):=by simp only[ct];cases vw st eR s<;>rfl
theorem Vj{s:Nat}:ct P ob (.fd s c) Q st=(xf ob st s/\ct P ob c Q (vv st s)):=rfl
theorem Vk{s:Nat}{d:C}:ct P ob (.seq (.fd s c) d) Q st=(xf ob st s/\ct P ob (.seq c d) Q (vv st s)):=rfl
theorem Vq{s:Nat}:ct P ob (.pubB s c) Q st=yp P ob c Q (zE st s):=by simp only[ct];cases zE st s<;>rfl
theorem VP{n:Nat}{ds:List ae}{d:aT Nat}{xs:List ae}:GZ P ob (.func n ds) d xs r st K=CallDo P n (bz (xs++ds)) st d (vd P ob r K):=rfl
theorem VS{s:Nat}{w:Bool}{i:dQ}:gv P ob (⟨some (s,w),i⟩::r) st K=pB P ob (get s st.t) s w i r st K:=by simp only[gv,pB];try rfl
theorem V1{s:Nat}{i:dQ}:pB P ob (.bool true) s true i r st K=gv P ob (⟨none,i⟩::r) {st with t:=put s (.bool true) st.t} K:=by simp[pB]
theorem VX{s:Nat}{i:dQ}:pB P ob (.bool false) s false i r st K=gv P ob (⟨none,i⟩::r) {st with t:=put s (.bool false) st.t} K:=by simp[pB]
theorem V0{s:Nat}{i:dQ}:pB P ob (.bool true) s false i r st K=gv P ob r {st with t:=fk i.dst (.tuple []) (put s (.bool true) st.t)} K:=by simp[pB]
theorem VY{s:Nat}{i:dQ}:pB P ob (.bool false) s true i r st K=gv P ob r {st with t:=fk i.dst (.tuple []) (put s (.bool false) st.t)} K:=by simp[pB]
theorem VZ{s:Nat}{w:Bool}{i:dQ}:pB P ob (.tuple []) s w i r st K=gv P ob r {st with t:=fk i.dst (.tuple []) st.t} K:=by simp[pB]
theorem dJ{x:Bool}{s:Nat}{w:Bool}{i:dQ}(I:x=w->gv P ob (⟨none,i⟩::r) {st with t:=put s (.bool w) st.t} K)(J:x= !w->gv P ob r {st with t:=fk i.dst (.tuple []) (put s (.bool !w) st.t)} K):pB P ob (.bool x) s w i r st K:=⟨I,J⟩
theorem U6:ct P ob (.seq (.seq a b) c) Q st=ct P ob (.seq a (.seq b c)) Q st:=by simp only[ct];congr 1;funext e st';cases e<;>rfl
theorem Vv:ct P ob (.seq .skip c) Q st=ct P ob c Q st:=rfl
theorem Vt:ct P ob (.seq .ret c) Q st=Q .ret st:=rfl
theorem Vh{n:Nat}:ct P ob (.seq (.exit n) c) Q st=Q (.exit n) st:=rfl
theorem Vw:ct P ob .skip Q st=Q .normal st:=rfl
theorem Vu:ct P ob .ret Q st=Q .ret st:=rfl
theorem Vi{n:Nat}:ct P ob (.exit n) Q st=Q (.exit n) st:=rfl
theorem Vr{gs:List cy}:ct P ob (.seq (.region gs) c) Q st=gv P ob gs st (wU P ob c Q):=rfl
theorem Vs{gs:List cy}:ct P ob (.region gs) Q st=gv P ob gs st (Q .normal):=rfl
theorem U9{x:cM}:ct P ob (.seq (.cond x t e) c) Q st=tY P ob (bG st.t x) x (.seq t c) (.seq e c) Q st:=by simp only[ct,tY];try rfl
theorem Va{x:cM}:ct P ob (.cond x t e) Q st=tY P ob (bG st.t x) x t e Q st:=by simp only[ct,tY];try rfl
theorem Vy{x:cM}:tY P ob (.bool true) x t e Q st=ct P ob t Q (sc st x true):=by simp[tY]
theorem Vx{x:cM}:tY P ob (.bool false) x t e Q st=ct P ob e Q (sc st x false):=by simp[tY]
theorem dG{v:Bool}{x:cM}(I:v=true->ct P ob t Q (sc st x true))(J:v=false->ct P ob e Q (sc st x false)):tY P ob (.bool v) x t e Q st:=⟨I,J⟩
def yl(P:bK)(ob:List aC)(id:Nat)(c:C)(Q:Exit->aS->Prop)(e:Exit)(st:aS):Prop:=
 match e with
 | .normal=>ct P ob c Q st
 | .exit j=>if j=id then ct P ob c Q st else Q (.exit j) st
 |e=>Q e st
theorem U7{id:Nat}:ct P ob (.seq (.block id a) c) Q st=ct P ob a (yl P ob id c Q) st:=by
 simp only[ct];congr 1;funext e st';cases e with
 |exit j=>rfl
 |_=>rfl
theorem U8{id:Nat}:ct P ob (.block id a) Q st=ct P ob a (yl P ob id .skip Q) st:=by
 simp only[ct];congr 1;funext e st';cases e with
 |exit j=>simp only[yl];by_cases aw:j=id<;>simp[aw,ct]
 |_=>rfl
theorem Tf{id:Nat}:yl P ob id c Q .normal st=wU P ob c Q st:=rfl
theorem Te{id j:Nat}:yl P ob id c Q (.exit j) st=if j=id then wU P ob c Q st else Q (.exit j) st:=rfl
theorem Tg{id:Nat}:yl P ob id c Q .ret st=Q .ret st:=rfl
def b9(ob:List aC)(jo:Nat->aS->Prop)(k:Nat)(Q:Exit->aS->Prop)(e:Exit)(st:aS):Prop:=
 match e with
 | .normal=> ∃bb oz,bb<k/\hH ob st oz/\jo bb oz
 |e=>Q e st
theorem Tl{jo:Nat->aS->Prop}{k:Nat}:b9 ob jo k Q .normal st= ∃bb oz,bb<k/\hH ob st oz/\jo bb oz:=rfl
theorem Tk{jo:Nat->aS->Prop}{k n:Nat}:b9 ob jo k Q (.exit n) st=Q (.exit n) st:=rfl
theorem Tm{jo:Nat->aS->Prop}{k:Nat}:b9 ob jo k Q .ret st=Q .ret st:=rfl
theorem Dp(jo:Nat->aS->Prop)(m:Nat)(wB:aS)(hw:hH ob st wB)(bL:jo m wB)(h:∀k s,jo k s->(∀i,js (get i s.t))->(∀j cs,look j s.b=some cs->gn cs=true->ja cs)->ct P ob a (b9 ob jo k Q) s):ct P ob (.loop a) Q st:=by
 simp only[ct];refine⟨jo,m,wB,hw,bL,fun k s I J ao=>?_⟩;have:=h k s I J ao;have bn:(b9 ob jo k Q)=(fun e ai=>match e with| .normal=> ∃bb oz,bb<k/\hH ob ai oz/\jo bb oz|e=>Q e ai):=by funext e ai;cases e<;>rfl
 rw[bn]at this;exact this
end
/-Regions bV draw ig order. -/
def JY(n0:Nat)(st:aS)(i:dP):Prop:=match ep (nl n0 i) st.n (nl n0 i::st.o) st i with|some (c,_)=>c|none=>cZ
def JZ(n0:Nat)(st:aS)(i:dP):aS:=match ep (nl n0 i) st.n (nl n0 i::st.o) st i with|some (_,s)=>s|none=>st
def FR(P:bK)(q:Bool)(nw:List Nat)(n0:Nat)(r:List cy)(K:aS->Prop)(st:aS):Prop:=gO P q nw n0 r st K
def pA(P:bK)(q:Bool)(nw:List Nat)(n0:Nat)(v:ae)(s:Nat)(w:Bool)(i:dQ)(r:List cy)(st:aS)(K:aS->Prop):Prop:=
 match v with
 | .bool b=>(b=w->gO P q nw n0 (⟨none,i⟩::r) {st with t:=put s (.bool w) st.t} K)/\(b= !w->gO P q nw n0 r {st with t:=fk i.dst (.tuple []) (put s (.bool !w) st.t)} K)
 | .tuple []=>gO P q nw n0 r {st with t:=fk i.dst (.tuple []) st.t} K
 |_=>cZ
def GY(P:bK)(q:Bool)(nw:List Nat)(n0:Nat)(v:ae)(d:aT Nat)(xs:List ae)(r:List cy)(st:aS)(K:aS->Prop):Prop:=
 match v with
 | .func n ds=>pg P q nw n (bz (xs++ds)) st d (FR P q nw n0 r K)
 |_=>cZ
section
variable {P:bK} {ob:List aC} {st:aS} {K:aS->Prop} {r:List cy} {Q:Exit->aS->Prop} {c:C} {q:Bool} {nw:List Nat} {n0 N:Nat}
theorem VC:gO P q nw n0 [] st K=K st:=rfl
theorem VD{i:dP}:gO P q nw n0 (⟨none,.s i⟩::r) st K=(kr q nw n0 st i/\JY n0 st i/\gO P q nw n0 r (JZ n0 st i) K):=by
 simp only[gO,iF,JY,JZ];cases ep (nl n0 i) st.n (nl n0 i::st.o) st i with
 |none=>simp
 |some x=>rfl
theorem VA{d:aT Nat}{f:cM}{xs:List cM}:gO P q nw n0 (⟨none,.call d f xs⟩::r) st K=GY P q nw n0 (bG st.t f) d (xs.map (bG st.t)) r st K:=by simp only[gO,iF,GY];rfl
theorem Vz{n:Nat}{ds:List ae}{d:aT Nat}{xs:List ae}:GY P q nw n0 (.func n ds) d xs r st K=pg P q nw n (bz (xs++ds)) st d (FR P q nw n0 r K):=rfl
theorem VB{s:Nat}{w:Bool}{i:dQ}:gO P q nw n0 (⟨some (s,w),i⟩::r) st K=pA P q nw n0 (get s st.t) s w i r st K:=by simp only[gO,pA];try rfl
theorem VK{s:Nat}{i:dQ}:pA P q nw n0 (.bool true) s true i r st K=gO P q nw n0 (⟨none,i⟩::r) {st with t:=put s (.bool true) st.t} K:=by simp[pA]
theorem VF{s:Nat}{i:dQ}:pA P q nw n0 (.bool false) s false i r st K=gO P q nw n0 (⟨none,i⟩::r) {st with t:=put s (.bool false) st.t} K:=by simp[pA]
theorem VJ{s:Nat}{i:dQ}:pA P q nw n0 (.bool true) s false i r st K=gO P q nw n0 r {st with t:=fk i.dst (.tuple []) (put s (.bool true) st.t)} K:=by simp[pA]
theorem VG{s:Nat}{i:dQ}:pA P q nw n0 (.bool false) s true i r st K=gO P q nw n0 r {st with t:=fk i.dst (.tuple []) (put s (.bool false) st.t)} K:=by simp[pA]
theorem VH{s:Nat}{w:Bool}{i:dQ}:pA P q nw n0 (.tuple []) s w i r st K=gO P q nw n0 r {st with t:=fk i.dst (.tuple []) st.t} K:=by simp[pA]
theorem dI{x:Bool}{s:Nat}{w:Bool}{i:dQ}(I:x=w->gO P q nw n0 (⟨none,i⟩::r) {st with t:=put s (.bool w) st.t} K)(J:x= !w->gO P q nw n0 r {st with t:=fk i.dst (.tuple []) (put s (.bool !w) st.t)} K):pA P q nw n0 (.bool x) s w i r st K:=⟨I,J⟩
theorem Vb{gs:List cy}:ct P ob (.seq (.drawn q N gs) c) Q st=gO P q [] st.n gs st (oH (st.n+N) st.o (wU P ob c Q)):=rfl
theorem Vc{gs:List cy}:ct P ob (.drawn q N gs) Q st=gO P q [] st.n gs st (oH (st.n+N) st.o (Q .normal)):=rfl
theorem Vf{gs:List cy}:ct P ob (.seq (.drawnW nw N gs) c) Q st=gO P false (pT nw st.o) st.n gs st (oH (st.n+N) ((pT nw st.o).map aC.obj++st.o) (wU P ob c Q)):=rfl
theorem Vg{gs:List cy}:ct P ob (.drawnW nw N gs) Q st=gO P false (pT nw st.o) st.n gs st (oH (st.n+N) ((pT nw st.o).map aC.obj++st.o) (Q .normal)):=rfl
theorem Vd{gs ts:List cy}:ct P ob (.seq (.drawnL q N gs ts) c) Q st=gO P q [] st.n gs st (oH (st.n+N) st.o (fun st'=>gv P ob ts st' (wU P ob c Q))):=rfl
theorem Ve{gs ts:List cy}:ct P ob (.drawnL q N gs ts) Q st=gO P q [] st.n gs st (oH (st.n+N) st.o (fun st'=>gv P ob ts st' (Q .normal))):=rfl
theorem aaT{o:List aC}:pT [] o=[]:=rfl
theorem aaR{j:Nat}{nw:List Nat}{o:List aC}:pT (j::nw) o=if aC.obj j∈o then pT nw o else j::pT nw o:=by simp only[pT,List.filter_cons,fK,ite_not]
theorem pg.val{n:Nat}{args:List ae}{d:aT Nat}{r:ae}(aa:kinL (fun _=>cZ) args)(aL:b6 P n args r)(h:K {st with t:=fk d r st.t}):pg P q nw n args st d K:=by
 refine .inr ⟨⟨[],[]⟩,⟨[],[]⟩,r,none,fun k cs aa=>by simp[look]at aa,fun k cs aa=>by simp[look]at aa,qI,qI,⟨fun k h=>.inl h,fun k h=>.inl h,fun k h=>h,fun k h=>h,fun k h=>by cases h⟩,nA (fun _ h=>h.elim) _ aa,aL,fun _=>⟨rfl,rfl⟩,?_⟩;have:({after st ⟨[],[]⟩ ⟨[],[]⟩ d r with o:=st.o}:aS)={st with t:=fk d r st.t}:=by simp[after,Ae]
 rw[this];exact h
theorem ba{n:Nat}{args:List ae}{d:aT Nat}{r:ae}(aL:b6 P n args r)(h:K {st with t:=fk d r st.t})(aa:kinL (fun _=>cZ) args:=by simp):pg P q nw n args st d K:=pg.val aa aL h
end
section
variable {k:IntKind} {n:Int} {b:Bool} {s:List al} {sz:Nat} {tag:h9} {xs:List ae} {key:aC} {off f:Nat} {x:ae}
@[simp]theorem aiz:eD (.int k n)=true:=rfl
@[simp]theorem ail:eD (.bool b)=true:=rfl
@[simp]theorem aiJ:eD (.str s)=true:=rfl
@[simp]theorem aiI:eD (.slice sz tag xs)=true:=rfl
@[simp]theorem aij:eD (.agg xs)=true:=rfl
@[simp]theorem aiE:eD (.ptr key off)=true:=rfl
@[simp]theorem ais:eD (.eptr x)=true:=rfl
@[simp]theorem aiy{t:Nat}:eD (.iface t x)=true:=rfl
@[simp]theorem afR{t:Nat}:cells (.iface t x)=[.iface t x]:=rfl
@[simp]theorem aio{a:aT Addr}{n c:Nat}:eD (.cst (.slice a n c))=true:=rfl
@[simp]theorem aip{s}:eD (.cst (.string s))=true:=rfl
@[simp]theorem aiC:eD .nilp=true:=rfl
@[simp]theorem aiu:eD (.func f xs)=true:=rfl
@[simp]theorem aix:eD (.gmap key)=true:=rfl
@[simp]theorem aiH{n:Nat}:eD (.row sz key n)=true:=rfl
@[simp]theorem af1{n:Nat}:cells (.row sz key n)=[.row sz key n]:=rfl
@[simp]theorem afS:cells (.int k n)=[.int k n]:=rfl
@[simp]theorem afH:cells (.bool b)=[.bool b]:=rfl
@[simp]theorem af3:cells (.str s)=[.str s]:=rfl
@[simp]theorem af2:cells (.slice sz tag xs)=[.slice sz tag xs]:=rfl
@[simp]theorem afF:cells (.agg xs)=xs:=rfl
@[simp]theorem afY:cells (.ptr key off)=[.ptr key off]:=rfl
@[simp]theorem afL:cells (.eptr x)=[.eptr x]:=rfl
@[simp]theorem afW:cells .nilp=[.nilp]:=rfl
@[simp]theorem afN:cells (.func f xs)=[.func f xs]:=rfl
@[simp]theorem afQ:cells (.gmap key)=[.gmap key]:=rfl
end
section
variable {b:List (aC×List ae)} {e:List (aC×cV)} {agg:Bool} {sz off:Nat} {k:aC} {p:ae} {cs xs vs:List ae} {hc:IntKind} {n i:Int} {m j:Nat} {tag:h9} {s:List al} {Lm:Bool} {lo az:aT ae}
@[simp]theorem ahG{dn:Nat}{f:Nat}:mn b e agg sz (.rptr dn k m j f)=x0 agg sz dn m j f (look k e):=rfl
@[simp]theorem ahF:mn b e agg sz (.ptr k off)=(match look k b with
  |some cs=>if agg then some (gn cs=true/\off+sz<=cs.length,.agg ((cs.drop off).take sz))else(cs[off]?).map fun p=>(gn cs=true,p)
  |none=>none):=rfl
@[simp]theorem ahE:mn b e agg sz (.eptr p)=if agg then some (isAgg sz p,p)else some (eD p=true/\cells p=[p],p):=rfl
@[simp]theorem agx:AX agg sz (.eptr p)=if agg then some (isAgg sz p,p)else some (eD p=true/\cells p=[p],p):=rfl
@[simp]theorem agm{o:Nat}:n7 off agg sz (.ptr k o)=some (True,.ptr k (o+off)):=rfl
@[simp]theorem ago{dn f:Nat}:n7 off agg sz (.rptr dn k m j f)=some (True,.rptr dn k m j (f+off)):=rfl
@[simp]theorem agd:n7 off agg sz (.eptr (.agg cs))=if agg then some (off+sz<=cs.length,.eptr (.agg ((cs.drop off).take sz)))else(cs[off]?).map fun p=>(eD p=true/\cells p=[p],.eptr p):=rfl
@[simp]theorem agq:rn off agg sz (.agg cs)=if agg then some (off+sz<=cs.length,.agg ((cs.drop off).take sz))else(cs[off]?).map fun p=>(True,p):=rfl
@[simp]theorem ag2{dn:Nat}:zc sz (.slice dn tag xs) (.int hc i)=if dn=sz then some (0<=i/\i<xs.length,.eptr (xs.getD i.toNat .junk))else none:=rfl
@[simp]theorem ag1{dn:Nat}:zc sz (.row dn k m) (.int hc i)=if dn=sz then some (0<=i/\i<m,.rptr dn k m i.toNat 0)else none:=rfl
@[simp]theorem ahD{dn:Nat}:zo (.slice dn tag xs)=some (True,.int .i64 xs.length):=rfl
@[simp]theorem ahC{dn:Nat}:zo (.row dn k m)=some (True,.int .i64 m):=rfl
@[simp]theorem ahB{a:aT Addr}{n c:Nat}:zo (.cst (.slice a n c))=some (True,.int .i64 n):=rfl
@[simp]theorem aih{s}:Cw (.cst (.string s))=some (True,.int .i64 s.size):=rfl
@[simp]theorem aii:Cw (.str s)=some (True,.int .i64 s.length):=rfl
@[simp]theorem agc:Ds j (.tuple vs)=(vs[j]?).map fun p=>(True,p):=rfl
@[simp]theorem ahX:zu (.ptr k off)=some (True,.ptr k off):=rfl
@[simp]theorem ahV:zu (.eptr p)=some (True,.eptr p):=rfl
@[simp]theorem ahW:zu (.func j cs)=some (True,.func j cs):=rfl
@[simp]theorem ah0:EO (.bool Lm)=some (True,.bool (!Lm)):=rfl
@[simp]theorem aif:FA (.str s) (.int hc i)=some (0<=i/\i<s.length,.int .u8 (s.getD i.toNat 0).toNat):=rfl
@[simp]theorem aiK:FC (.str s) lo az=(match qJ 0 lo,qJ s.length az with
  |some l,some h=>some (0<=l/\l<=h/\h<=s.length,.str ((s.take h.toNat).drop l.toNat))
  |_,_=>none):=rfl
@[simp]theorem ahJ{dn:Nat}:EB sz (.slice dn tag xs) lo az=(if dn=sz then match qJ 0 lo,qJ xs.length az with
  |some l,some h=>some (0<=l/\l<=h/\h<=xs.length,.slice sz .no ((xs.take h.toNat).drop l.toNat))
  |_,_=>none else none):=rfl
theorem Qh{f:aC->aT (List ae)}{bT:jO}{z q:ae}{ok:Bool}:o2 f bT z ok (.gmap k) q=(match f k with
  |some (.hdm _ _::kvs)=>if xK bT q=false then none else match tf bT q kvs with
   |some (some v)=>some (True,if ok then .tuple [v,.bool true]else v)
   |some none=>some (True,if ok then .tuple [z,.bool false]else z)
   |none=>none
  |_=>none):=rfl
theorem aaF{f:aC->aT (List ae)}:uJ f (.gmap k)=(match f k with
  |some (.hdm _ borns::_)=>some (True,.int .i64 borns.length)
  |_=>none):=rfl
theorem aaA{f:aC->aT (List ae)}:te f (.ptr k 0)=(match f k with
  |some [.hdi _ seen last,.gmap mk]=>match f mk with
   |some (.hdm clock borns::kvs)=>match seen.getLast? with
    |some n=>(oo n borns kvs).map fun p=>(clock=last,p)
    |none=>none
   |_=>none
  |_=>none):=rfl
@[simp]theorem aid{dn f n' el hO:Nat}:x0 agg sz dn m j f (some ⟨n',el,hO,some xs⟩)=(if n'=m/\hO=dn then
   (match xs[j]? with
    |some p=>if agg then some (eD p=true/\f+sz<=(cells p).length,.agg (((cells p).drop f).take sz))else((cells p)[f]?).map fun q=>(eD p=true,q)
    |none=>none)else none):=rfl
end
attribute [simp] U6 Vr U7 U9 Vv Vt Vh Vw Vu Vi Vs U8 Va wU Tf Te Tg Tk Tm VU VW VQ VP VR VN adQ VS
 V1 VX V0 VY VZ Vy Vx J0 J1 lr gz h6 bG get put iw pN mW mX cT qJ k5 zf FD oB tQ E0 EJ Da EE
 look fk dP.dst dQ.dst sc vd qm bz bC kin kinL
 Vb Vc Vf Vg Vd Ve aaT aaR VC VD VA Vz VB VK VF VJ VG VH JY JZ ep nl kr xh fO.loadO oH FR xH gn l3 VT Vp Vq Vl Vm Vn Vo vw G8 sN yS Tn wq Ca zE qR qN CX ED CU qo
theorem a8{P:bK}{n:Nat}{args:List ae}{st:aS}{d:aT Nat}{K:aS->Prop}{r:ae}(aL:b6 P n args r)(h:K {st with t:=fk d r st.t})(aa:kinL (fun _=>cZ) args:=by simp):CallDo P n args st d K:=CallDo.val aa aL h
theorem aA{a b:Prop}(ah:b)(bF:a:=by first|omega|(unfold aY;omega)|(unfold bN;omega)):a/\b:=⟨bF,ah⟩
theorem ev{p:Prop}(h:cZ:=by first|contradiction|omega):p:=h.elim
theorem cw{p:Prop}(h:p:=by(try simp[*]);(repeat' first|with_reducible refine aA ?_|with_reducible refine a8 (by assumption) ?_|with_reducible refine ba (by assumption) ?_|simp[*]);(all_goals first|done|(simp[cg,a1,be,aV, *];done))):p:=h
attribute [simp] VV VO Vj Vk Az Ek fT fh AL AJ C7 yB vv yR xf
end
section
open Go Go.RowKit
structure h8 (s:dD):Prop where
 obj:hd s
 kb:∀k cs,look k s.b=some cs->kinL (au s) cs
 ke:∀k o,look k s.e=some o->cB (au s) o
structure Same (s ai:dD):Prop where
 b:∀k,(look k s.b).isSome=(look k ai.b).isSome
 e:∀k,(look k s.e).isSome=(look k ai.e).isSome
theorem Same.refl(s:dD):Same s s:=⟨fun _=>rfl,fun _=>rfl⟩
theorem wa{α:Type}{k:aC}{x:α}:∀{l:List (aC×α)},(k,x)∈l->(look k l).isSome
 |(i,y)::r,h=>by
  simp only[look];split
  ·rfl
  ·rename_i b4;rcases gp.1 h with h|h
   ·cases h;exact absurd rfl b4
   ·exact wa h
theorem O7{s:dD}{k:aC}(h:k∈ec s):au s k:=by
 unfold ec at h;rcases hv.1 h with h|h
 ·obtain⟨⟨bb,x⟩,I,rfl⟩:=lZ.1 h;exact .inl (wa I)
 ·obtain⟨⟨bb,x⟩,I,rfl⟩:=lZ.1 h;exact .inr (wa I)
theorem aap{s:dD}(h:hd s)(m:Nat):aC.loc m∉ec s:=fun hm=>by
 rcases O7 hm with I|I
 ·rw[h.1 m]at I;cases I
 ·rw[h.2 m]at I;cases I
theorem CN{α β:Type}(s:List (aC×β)):∀(a b:List (aC×α)),bg s (a++b)=bg s a++bg s b
 |[],b=>rfl
 |(k,x)::r,b=>by
  simp only[dm,bg];cases look k s with
  |none=>simp[CN s r b]
  |some _=>exact CN s r b
theorem S4{α β:Type}(s:List (aC×β)):∀(l:List (aC×α)),(∀k x,(k,x)∈l->(look k s).isSome)->bg s l=[]
 |[],_=>rfl
 |(k,x)::r,h=>by
  have I:=h k x Ψ;simp only[bg];cases aG:look k s with
  |none=>rw[aG]at I;cases I
  |some _=>exact S4 s r fun k x af=>h k x (by simp[af])
theorem wO{α:Type}(s:List (aC×α)):bg s s=[]:=S4 s s fun k x h=>wa h
theorem SE{α:Type}{k:aC}{x:α}:∀{l:List (aC×α)},look k l=none->cT k x l=l++[(k,x)]
 |[],_=>rfl
 |(i,y)::r,h=>by
  simp only[look]at h;split at h
  ·cases h
  ·rename_i b4;simp[cT,b4,SE h]
theorem rY{α:Type}(k:aC):∀(a b:List (aC×α)),look k (a++b)=match look k a with|some x=>some x|none=>look k b
 |[],b=>rfl
 |(i,y)::r,b=>by
  simp only[dm,look];split
  ·rfl
  ·exact rY k r b
theorem CallDo.ob{P:bK}{n:Nat}{args:List ae}{st:aS}{d:aT Nat}{K:aS->Prop}{s:dD}{Q:ae->dD->Prop}(aL:b7 P n args s Q)(aq:h8 s)(ah:∀k cs,look k s.b=some cs->look k st.b=some cs)(he:∀k o,look k s.e=some o->look k st.e=some o)
  (aa:kinL (au s) args) (h:∀r ai,Q r ai->Same s ai/\K ⟨fk d r st.t,bg s.b st.b++ai.b,bg s.e st.e++ai.e,st.n,st.o++ec ai⟩):CallDo P n args st d K:=by
 refine .inl ⟨s,Q,fun k cs aE=>⟨ah k cs aE,.inl (by simp[aE]),aq.kb k cs aE⟩,fun k o ak=>⟨he k o ak,.inr (by simp[ak]),aq.ke k o ak⟩,aq.obj,aa,aL,fun r ai bn=>?_⟩;obtain⟨I,J⟩:=h r ai bn;exact⟨⟨fun m hm=>.inl (by rw[I.b];exact hm),fun m hm=>.inl (by rw[I.e];exact hm)⟩,J⟩
theorem cW.ob{di:List cr}{s ai:dD}{Q:ae->dD->Prop}{e:Exit}{st:aS}{c:Prop}{a6:List ae}(ik:e= .ret\/e= .normal)(hn:a1 st di=some (c,a6))(aE:c)(aq:h8 ai)(e0:Same s ai)(ah:∀k cs,look k ai.b=some cs->look k st.b=some cs)(cm:∀k o,look k ai.e=some o->look k st.e=some o)
  (aa:kin (au ai) (bC (aV a6))) (bn:Q (bC (aV a6)) ai):cW di s Q e st:=by
 refine⟨ik,?_⟩;rw[hn];have DY:∀{α:Type} (l:List (aC×α)),(∀k x,(k,x)∈l->au ai k)->mm ai l:=by
  intro α l;induction l with
  |nil=>intro _;trivial
  |cons x r bo=>obtain⟨k,x⟩:=x;intro h;exact⟨h k x Ψ,bo fun k x af=>h k x (by simp[af])⟩
 exact⟨aE,ai,DY _ fun k x af=>.inl (by rw[<-e0.b];exact wa af),DY _ fun k x af=>.inr (by rw[<-e0.e];exact wa af),fun k cs cO=>⟨ah k cs cO,.inl (by simp[cO]),aq.kb k cs cO⟩,fun k o ak=>⟨cm k o ak,.inr (by simp[ak]),aq.ke k o ak⟩,aq.obj,aa,bn⟩
theorem b7.mono{P:bK}{f:FuncId}{args:List ae}{s:dD}{Q nP:ae->dD->Prop}(h:b7 P f args s Q)(bn:∀r ai,Q r ai->nP r ai):b7 P f args s nP:=by
 intro w ν vs gl I J ao;have hm:∀(e:Ending) (w':World),(∃v r ai ν',e= .returned v/\Q r ai/\aH w' ν' r v/\Good (fun bl=>fv ν s bl\/w.heap.size<=bl) w' ν' ai.b ai.e/\pD ν' ai/\hd ai/\ni ⟨w,ν,fv ν s,0,ec s,gl,[]⟩ w' ν')->(∃v r ai ν',e= .returned v/\nP r ai/\aH w' ν' r v/\Good (fun bl=>fv ν s bl\/w.heap.size<=bl) w' ν' ai.b ai.e/\pD ν' ai/\hd ai/\ni ⟨w,ν,fv ν s,0,ec s,gl,[]⟩ w' ν'):=by rintro e w' ⟨v,r,ai,ν',bB,a2,a3⟩;exact⟨v,r,ai,ν',bB,bn _ _ a2,a3⟩
 rcases h w ν vs gl I J ao with⟨vI,aE⟩|⟨v,w',aE,hr⟩
 ·exact .inl ⟨vI,aE.mono hm⟩
 ·exact .inr ⟨v,w',aE,hm _ _ hr⟩
def du(st:aS)(di:List cr)(R:ae->Prop):Prop:=match a1 st di with
 |some (c,a6)=>c/\R (bC (aV a6))
 |none=>cZ
theorem cW.at{di:List cr}{s:dD}{Q:ae->dD->Prop}{e:Exit}{st:aS}(ai:dD)(ik:e= .ret\/e= .normal)(aq:h8 ai)(e0:Same s ai)(ah:∀k cs,look k ai.b=some cs->look k st.b=some cs)(cm:∀k o,look k ai.e=some o->look k st.e=some o)
  (h:du st di fun r=>kin (au ai) r/\Q r ai):cW di s Q e st:=by
 unfold du at h;split at h
 ·rename_i c a6 hr;exact cW.ob ik hr h.1 aq e0 ah cm h.2.1 h.2.2
 ·exact h.elim
theorem pg.ob{P:bK}{nw:List Nat}{n:Nat}{args:List ae}{st:aS}{d:aT Nat}{K:aS->Prop}{s ai:dD}{r:ae}(aL:b7 P n args s fun cE t'=>cE=r/\t'=ai)(aq:h8 s)(gT:h8 ai)(e0:Same s ai)(ah:∀k cs,look k s.b=some cs->look k st.b=some cs)(he:∀k o,look k s.e=some o->look k st.e=some o)
  (aa:kinL (au s) args) (h:K ⟨fk d r st.t,bg s.b st.b++ai.b,bg s.e st.e++ai.e,st.n,st.o⟩):pg P false nw n args st d K:=
 .inr ⟨s,ai,r,none,fun k cs aE=>⟨ah k cs aE,.inl (by simp[aE]),aq.kb k cs aE⟩,fun k o ak=>⟨he k o ak,.inr (by simp[ak]),aq.ke k o ak⟩,aq.obj,gT.obj,⟨fun k aa=>.inl (by rw[e0.b];exact aa),fun k aa=>.inl (by rw[e0.e];exact aa),fun k aa=>by rw[<-e0.b];exact aa,fun k aa=>by rw[<-e0.e];exact aa,fun k aa=>by cases aa⟩,aa,aL,(fun e=>by cases e),h⟩
theorem h8.of{s:dD}(ak:hd s)(ah:∀x∈s.b,kinL (au s) x.2)(he:∀x∈s.e,∀xs,x.2.xs=some xs->kinL (au s) xs):h8 s:=⟨ak,fun k cs aa=>ah (k,cs) (v8 aa),fun k o aa xs af=>he (k,o) (v8 aa) xs af⟩
@[simp]theorem ah3(b:List (aC×List ae))(e:List (aC×cV)):ec ⟨b,e⟩=b.map (·.1)++e.map (·.1):=rfl
theorem aaj{α:Type}{s b:List (aC×α)}(h:∀p∈s,look p.1 b=some p.2):∀k x,look k s=some x->look k b=some x:=fun k x af=>h (k,x) (v8 af)
theorem cR{S:aC->Prop}{fY b:List (aC×List ae)}(h:∀p∈fY,look p.1 b=some p.2/\S p.1/\kinL S p.2):o9 S fY b:=fun k x af=>h (k,x) (v8 af)
theorem cS{S:aC->Prop}{fY b:List (aC×cV)}(h:∀p∈fY,look p.1 b=some p.2/\S p.1/\cB S p.2):p3 S fY b:=fun k x af=>h (k,x) (v8 af)
theorem aB{α:Type}{s b:List (aC×α)}(h:∀k x,look k s=some x->look k b=some x:=by first|(refine aaj ?_;simp;done)|(intro k x af;first|exact af|(simp[af,wO];done)|(simp[rY,wO,af];done)|(cases k<;>simp_all[rY];done))):∀k x,look k s=some x->look k b=some x:=h
theorem dw{ob:List aC}{st st':aS}(I:∀x∈st'.t,get x.1 st.t=x.2/\kin (fun k=> ¬fresh st'.n st'.o k) x.2:=by simp[fresh,kinL,kin,bt,au,Pv.look])(J:∀p∈st'.b,look p.1 st.b=some p.2/\(¬fresh st'.n st'.o p.1)/\kinL (fun k=> ¬fresh st'.n st'.o k) p.2:=by simp[fresh,kinL,kin,bt,au,Pv.look])(ao:∀p∈st'.e,look p.1 st.e=some p.2/\(¬fresh st'.n st'.o p.1)/\cB (fun k=> ¬fresh st'.n st'.o k) p.2:=by simp[fresh,kinL,kin,cB,au,Pv.look])(aO:∀m∈ob,m∈st'.o:=by simp):hH ob st st':=⟨I,cR J,cS ao,aO⟩
theorem b9.next{ob:List aC}{jo:Nat->aS->Prop}{k:Nat}{Q:Exit->aS->Prop}{st:aS}(bb:Nat){ai:aS}(aa:bb<k)(az:jo bb ai)(hw:hH ob st ai):b9 ob jo k Q .normal st:=⟨bb,ai,aa,hw,az⟩
def flat:List (Int×ae)->List ae
 |[]=>[]
 |(k,v)::r=>.int .i64 k::v::flat r
def lP(l:List (Int×ae)):List ae:= .hdm l.length (List.range l.length)::flat l
def wW(k:Int):List (Int×ae)->aT ae
 |[]=>none
 |(i,v)::r=>if k=i then some v else wW k r
def qn(k:Int)(v:ae):List (Int×ae)->aT (List (Int×ae))
 |[]=>none
 |(i,w)::r=>if k=i then some ((k,v)::r)else match qn k v r with|some cE=>some ((i,w)::cE)|none=>none
def vh(k:Int)(v:ae)(l:List (Int×ae)):List (Int×ae):=match qn k v l with|some c6=>c6|none=>l++[(k,v)]
@[simp]theorem ahL:[ae.hdm 0 []]=lP []:=rfl
theorem Np:∀a b,flat (a++b)=flat a++flat b
 |[],_=>rfl
 |(k,v)::r,b=>by simp[flat,Np r b]
theorem Qe(k:Int):∀l,tf .i (.int .i64 k) (flat l)=some (wW k l)
 |[]=>rfl
 |(i,v)::r=>by
  simp only[flat,tf,uE,wW];by_cases h:k=i
  ·simp[h]
  ·have:(k==i)=false:=by simp[h]
   simp[h,Qe k r,this]
theorem Li{k:Int}{v:ae}:∀{l c6},qn k v l=some c6->c6.length=l.length
 |[],_,h=>by simp[qn]at h
 |(i,w)::r,c6,h=>by
  simp only[qn]at h;split at h
  ·cases h;rfl
  ·split at h
   ·rename_i cE hr;cases h;simp[Li hr]
   ·cases h
theorem Qn(k:Int)(v:ae):∀l,uK .i (.int .i64 k) v (flat l)=some ((qn k v l).map flat)
 |[]=>rfl
 |(i,w)::r=>by
  simp only[flat,uK,uE,qn];by_cases h:k=i
  ·subst h;simp[flat]
  ·simp only[and_self,if_true,h,if_false,ej,Qn k v r];have:(k==i)=false:=by simp[h]
   rw[this];cases qn k v r<;>simp[flat]
@[simp]theorem aaH(k:Int)(v:ae)(l:List (Int×ae)):qF .i (.int .i64 k) v (lP l)=some (lP (vh k v l)):=by
 simp only[lP,qF,PO,Bool.true_eq_false,reduceCtorEq,if_false,Qn,vh];cases h:qn k v l with
 |some c6=>simp[Li h]
 |none=>simp[Np,flat,List.range_succ]
@[simp]theorem qE(f:aC->aT (List ae))(m:aC)(l:List (Int×ae))(z:ae)(ok:Bool)(k:Int)(hm:f m=some (lP l)):o2 f .i z ok (.gmap m) (.int .i64 k)=(match wW k l with
  |some v=>some (True,if ok then .tuple [v,.bool true]else v)
  |none=>some (True,if ok then .tuple [z,.bool false]else z)):=by
 simp only[Qh,hm,lP,PO,Bool.true_eq_false,reduceCtorEq,if_false,Qe];cases wW k l<;>rfl
def bt(n:Nat)(seen:List Nat)(m:aC):List ae:=[.hdi n seen n,.gmap m]
@[simp]theorem aic(m:aC)(l:List (Int×ae)):Cg m (lP l)=some (bt l.length [] m):=rfl
@[simp]theorem ah9(l:List (Int×ae)):gn (lP l)=false:=rfl
theorem IS(b:Nat):∀(n:Nat) (l:List (Int×ae)),oo b (List.range' n l.length) (flat l)=(if n<=b then(l[b-n]?).map fun x=>.tuple [.int .i64 x.1,x.2]else none)
 |n,[]=>by simp[oo,flat]
 |n,(k,v)::r=>by
  simp only[lx,List.range'_succ,flat,oo];by_cases h:n=b
  ·subst h;simp
  ·rw[bq h,IS b (n+1) r];by_cases J:n<=b
   ·rw[if_pos J,if_pos Ω];have:b-n=(b-(n+1))+1:=Ω
    rw[this];simp
   ·rw[bq J,bq Ω]
@[simp]theorem aaz(f:aC->aT (List ae))(hc mk:aC)(n:Nat)(seen:List Nat)(b:Nat)(l:List (Int×ae))(az:f hc=some (bt n (seen++[b]) mk))(hm:f mk=some (lP l))(aK:n=l.length):te f (.ptr hc 0)=(l[b]?).map fun x=>(True,.tuple [.int .i64 x.1,x.2]):=by subst aK;simp only[aaA,az,hm,bt,lP,List.getLast?_append,List.getLast?_singleton,Option.some_or,List.range_eq_range',IS,Nat.zero_le,if_true,Nat.sub_zero,Option.map_map];cases l[b]?<;>simp
theorem U5{st:aS}{d:Nat}{K:aS->Prop}{hc mk:aC}{n:Nat}{seen:List Nat}{l:List (Int×ae)}(az:look hc st.b=some (bt n seen mk))(hm:look mk st.b=some (lP l))(aK:n=l.length)
  (I:(∀b,b<n->b∈seen)->K {st with t:=put d (.tuple [.bool false]) st.t}) (J:∀b k v,l[b]? =some (k,v)->b∉seen->K {st with t:=put d (.tuple [.bool true,.int .i64 k,v]) st.t,b:=cT hc (bt n (seen++[b]) mk) st.b}):
  xa st d (.ptr hc 0) K:=by
 subst aK;simp only[xa,az,bt,hm,lP,Qr,and_self,true_and];refine⟨fun h=>I fun b ah=>h b (by simpa using ah),fun b k v HC ah=>?_⟩;rw[List.range_eq_range',IS]at HC;simp only[Nat.zero_le,if_true,Nat.sub_zero,ij,ae.tuple.injEq,Ai,and_true]at HC;obtain⟨⟨bb,v'⟩,aj,aJ,bs⟩:=HC;simp only at aJ bs;subst aJ bs;exact J b bb v' aj ah
theorem abY{n:Nat}{seen:List Nat}(aF:seen.Nodup)(bS:∀b∈seen,b<n)(k9:∀b,b<n->b∈seen):seen.Perm (List.range n):=(List.perm_ext_iff_of_nodup aF List.nodup_range).2 fun b=>⟨fun h=>by simpa using bS b h,fun h=>k9 b (by simpa using h)⟩
theorem R3{n:Nat}{seen:List Nat}(aF:seen.Nodup)(bS:∀b∈seen,b<n):seen.length<=n:=by have:=aeS aF (l₂:=List.range n) (fun b ah=>by simpa using bS b ah);simpa using this
theorem ac8{n b:Nat}{seen:List Nat}(aF:seen.Nodup)(bS:∀b∈seen,b<n)(ah:b<n)(aK:b∉seen):seen.length<n:=by have I:(b::seen).Nodup:=List.nodup_cons.2 ⟨aK,aF⟩;have:=R3 I (n:=n) (by simp;exact⟨ah,bS⟩);simp at this;omega
theorem Rr{α:Type}:∀(l pre:List α),(List.range' pre.length l.length).filterMap (fun b=>(pre++l)[b]?)=l
 |[],_=>rfl
 |x::r,pre=>by have bo:=Rr r (pre++[x]);simp only[j2,List.length_singleton,kE,List.singleton_append]at bo;simp[List.range'_succ,bo]
theorem ac7{α:Type}{l:List α}{seen:List Nat}(aF:seen.Nodup)(bS:∀b∈seen,b<l.length)(k9:∀b,b<l.length->b∈seen):(seen.filterMap fun b=>l[b]?).Perm l:=by have I:=(abY aF bS k9).filterMap fun b=>l[b]?;have J:=Rr l [];simp only[List.length_nil,ef,<-List.range_eq_range']at J;rwa[J]at I
theorem aaY{b:Nat}{seen:List Nat}(aF:seen.Nodup)(aK:b∉seen):(seen++[b]).Nodup:=by rw[qb];exact⟨aF,Ψ,by simp;intro a bF e;subst e;exact aK bF⟩
theorem bX.start{w:World}{ν:aP}(gl:nO w ν){s:dD}{args:List ae}{vs:Array Value}(kx:hd s)(aR:Good (fv ν s) w ν s.b s.e)(af:pD ν s)(hr:cc w ν args vs.toList):
  bX ⟨w,ν,fv ν s,vs.size,ec s,gl,[]⟩ ⟨h6 0 args,s.b,s.e,0,ec s⟩ {tmps:=vs,defers:=[]} w ν:=by
 have mj:=uS hr;have gj:vs.size=args.length:=by simpa using mj
 have jh:∀k,fresh 0 (ec s) k->ν.bx k=none/\ν.ow k=none/\∀j b,¬ν.tr k j b:=by
  intro k aa;cases k with
  |loc m=>exact⟨(af _).1 (kx.1 m),(af _).2.1 (kx.2 m),(af _).2.2⟩
  |obj m=>
   simp only[fresh,true_and]at aa;refine⟨?_,?_,(af _).2.2⟩
   ·refine(af _).1 ?_;cases h:look (.obj m) s.b with
    |none=>rfl
    |some x=>exact absurd (uM (.inl (by simp[h]))) aa
   ·refine(af _).2.1 ?_;cases h:look (.obj m) s.e with
    |none=>rfl
    |some x=>exact absurd (uM (.inr (by simp[h]))) aa
 have lb:∀m,(ν.bx (.obj m)≠none\/ν.ow (.obj m)≠none)-> .obj m∈ec s:=by
  intro m hm;refine Classical.byContradiction fun aE=>?_;obtain⟨I,J,_⟩:=jh (.obj m) ⟨trivial,aE⟩;rcases hm with hm|hm
  ·exact hm I
  ·exact hm J
 refine⟨⟨aR.alt,fun k cs aa=>?_,aR.inj,fun g o eO=>?_,aR.oinj,aR.obx,aR.one,aR.otr⟩,⟨rfl,rfl,rfl,cq _,fun _ _ _=>rfl,fun b o h=>⟨h,rfl⟩,fun b o h=>.inl h,fun n b h=>h,fun n b h=>lb n (.inl (by rw[h];simp)),fun m n u h=>⟨n,u,h,.inl ⟨rfl,rfl⟩⟩,fun m n u h=>lb m (.inr (by rw[h];simp)),fun k j _ _ b h=>absurd h ((af k).2.2 j b),fun k j b h=>absurd h ((af k).2.2 j b),fun k j b h=>absurd h ((af k).2.2 j b),fun _ _ _=>rfl,fun j n u b aj _=>(by rw[(af _).2.1 (kx.2 j)]at aj;cases aj)⟩,rfl,rfl,fun i=>?_,jh,fun _ af=>(by cases af),fun m hm aL=>aL.2 hm⟩
 ·obtain⟨bl,us,el,g1,g2,g3⟩:=aR.box k cs aa;exact⟨bl,us,el,g1,.inl g2,g3⟩
 ·obtain⟨v,us,g1,g2,g3,g4⟩:=aR.own g o eO;exact⟨v,us,g1,g2,fun bl fl=>⟨.inl (g3 bl fl).1,(g3 bl fl).2⟩,g4⟩
 ·rw[yV];by_cases az:i<args.length
  ·rw[if_pos Ω];have oc:args[i]? =some args[i]:=cF az;obtain⟨v,aj,aJ⟩:=zR i hr oc;have vq:vs[i]? =some v:=by simpa using aj
   show aH w ν _ (vs.getD i undef);rw[oC,vq];simpa[List.getD,oc]using aJ
  ·rw[bq Ω];simp[aH]
theorem b7.sem{P:bK}{f:FuncId}{args:List ae}{s:dD}{Q:ae->dD->Prop}(kx:hd s)
  (h:∀(w:World) (ν:aP) (vs:Array Value) (gl:nO w ν),vs.size=args.length->bX ⟨w,ν,fv ν s,vs.size,ec s,gl,[]⟩ ⟨h6 0 args,s.b,s.e,0,ec s⟩ {tmps:=vs,defers:=[]} w ν->
   va P f vs w fun e w'=> ∃v st' bU ν' r ai,e= .returned v/\bX ⟨w,ν,fv ν s,vs.size,ec s,gl,[]⟩ st' bU w' ν'/\aH w' ν' r v/\mm ai s.b/\mm ai s.e/\o9 (au ai) ai.b st'.b/\p3 (au ai) ai.e st'.e/\hd ai/\kin (au ai) r/\Q r ai):b7 P f args s Q:=by
 intro w ν vs gl aR af hr;have gj:vs.size=args.length:=by simpa using uS hr
 have mR:=bX.start gl kx aR af hr;have hm:∀(e:Ending) (w':World),(∃v st' bU ν' r ai,e= .returned v/\bX ⟨w,ν,fv ν s,vs.size,ec s,gl,[]⟩ st' bU w' ν'/\aH w' ν' r v/\mm ai s.b/\mm ai s.e/\o9 (au ai) ai.b st'.b/\p3 (au ai) ai.e st'.e/\hd ai/\kin (au ai) r/\Q r ai)->
   ∃v r ai ν',e= .returned v/\Q r ai/\aH w' ν' r v/\Good (fun bl=>fv ν s bl\/w.heap.size<=bl) w' ν' ai.b ai.e/\pD ν' ai/\hd ai/\ni ⟨w,ν,fv ν s,0,ec s,gl,[]⟩ w' ν':=by
  rintro e w' ⟨v,st',bU,ν',r,ai,rfl,bW,Q2,kb,ke,bR,cA,dE,dM,cP⟩;refine⟨v,r,ai,ν'.cut (au ai),rfl,cP,qM (mB.cut _ w' ν') _ _ dM Q2,bW.good.cut bR cA (fun bl h _=>h),?_,dE,?_⟩
  ·intro k;refine⟨?_,?_,?_⟩;rotate_left 2
   ·rintro j b ⟨aq,ah⟩;obtain⟨t1,t2⟩:=bW.fr.trn k j b ah;rcases aq with aq|aq<;>obtain⟨x,pL⟩:=e5.1 aq
    ·obtain⟨bl,br,el,aj,_⟩:=bW.good.box k x (bR k x pL).1;rw[t1]at aj;cases aj
    ·obtain⟨v',br,aj,_⟩:=bW.good.own k x (cA k x pL).1;rw[t2]at aj;cases aj
   ·intro aa;by_cases aq:au ai k
    ·rw[aP.cut_bx aq];rcases aq with aq|aq
     ·rw[aa]at aq;cases aq
     ·obtain⟨x,pL⟩:=e5.1 aq;obtain⟨v',br,aj,_⟩:=bW.good.own k x (cA k x pL).1;rcases bW.good.one k with I|I
      ·exact I
      ·rw[I]at aj;cases aj
    ·exact(aP.cut_no aq).1
   ·intro aa;by_cases aq:au ai k
    ·rw[aP.cut_ow aq];rcases aq with aq|aq
     ·obtain⟨x,pL⟩:=e5.1 aq;obtain⟨bl,br,el,aj,_⟩:=bW.good.box k x (bR k x pL).1;rcases bW.good.one k with I|I
      ·rw[I]at aj;cases aj
      ·exact I
     ·rw[aa]at aq;cases aq
    ·exact(aP.cut_no aq).2.1
  ·refine⟨bW.fr.os,bW.fr.tape,bW.fr.output,bW.fr.size,bW.fr.block,bW.fr.keep,bW.fr.fresh,fun n b h=>?_,bW.fr.obn,fun m n u h=>?_,bW.fr.obr,fun k j bb eo b I J=>bW.fr.trd k j bb eo b I.2 J.2,fun k j b ah=>bW.fr.trb k j b ah.2,fun k j b ah=>(by rw[aP.cut_bx ah.1,aP.cut_ow ah.1];exact bW.fr.trn k j b ah.2),bW.fr.sh,fun j n u b aj aJ=>bW.fr.nrow j n u b (aP.cut_someO aj).2 aJ⟩
   ·have aq:au ai (.obj n):=by
     cases aG:look (.obj n) s.b with
     |none=>rw[(af _).1 aG]at h;cases h
     |some x=>exact xJ kb _ (by simp[aG])
    rw[aP.cut_bx aq];exact bW.fr.obj n b h
   ·have aq:au ai (.obj m):=by
     cases aG:look (.obj m) s.e with
     |none=>rw[(af _).2.1 aG]at h;cases h
     |some x=>exact xJ ke _ (by simp[aG])
    rw[aP.cut_ow aq];exact bW.fr.row m n u h
 rcases h w ν vs gl gj mR with⟨vI,aE⟩|⟨v,w',aE,hn⟩
 ·exact .inl ⟨vI,aE.mono hm⟩
 ·exact .inr ⟨v,w',aE,hm _ _ hn⟩
theorem bX.grown{C:ek}{st:aS}{a:Act}{w w':World}{ν:aP}(h:bX C st a w ν)(aR:w.grownBy w' none):bX C st a w' ν:=by
 have lJ:l1 w ν w' ν:=⟨fun b o aW=>⟨aW,Mm aR (h.good.alt b o aW)⟩,fun _ _ _ h=>h,fun _ n u _ h=>⟨n,u,h,.inl ⟨rfl,rfl⟩⟩,fun b o aW=>zX (aR.block b (h.good.alt b o aW) Ψ),fun _ _ _ _ h=>h⟩;refine h.over lJ rfl ⟨fun b o aW=>Nat.lt_of_lt_of_le (h.good.alt b o aW) aR.size,fun k cs aa=>?_,h.good.inj,fun g o eO=>?_,h.good.oinj,h.good.obx,h.good.one,h.good.otr⟩
  ⟨aR.os.trans h.fr.os,aR.tape.trans h.fr.tape,aR.output.trans h.fr.output,Nat.le_trans h.fr.size aR.size,fun k aa hm=>?_,fun b o aW=>?_,h.fr.fresh,h.fr.obj,h.fr.obn,h.fr.row,h.fr.obr,h.fr.trd,fun k j b ah=>⟨(h.fr.trb k j b ah).1,Nat.lt_of_lt_of_le (h.fr.trb k j b ah).2 aR.size⟩,h.fr.trn,fun b o aW=>(lJ.sh b o (h.fr.keep b o aW).1).trans (h.fr.sh b o aW),h.fr.nrow⟩ h.new
 ·obtain⟨bl,us,el,g1,g2,g3,g4,g5⟩:=h.good.box k cs aa;exact⟨bl,us,el,g1,g2,g3,by rw[aR.block bl (Array.getElem?_eq_some_iff.1 g4).1 Ψ];exact g4,pZ lJ g5⟩
 ·obtain⟨v,us,g1,g2,g3,g4⟩:=h.good.own g o eO;exact⟨v,us,g1,g2.kept aR (by cases v.ownBlock<;>simp),g3,se lJ (fun _ _ _ h=>h) g4⟩
 ·rw[aR.block k (Nat.lt_of_lt_of_le aa h.fr.size) Ψ];exact h.fr.block k aa hm
 ·obtain⟨cI,dr⟩:=h.fr.keep b o aW;exact⟨cI,(lJ.A b o cI).2.trans dr⟩
@[simp]theorem af9{P:bK}{ob:List aC}{c d:C}{Q:Exit->aS->Prop}{st:aS}{s:Nat}:ct P ob (.seq (.pub s c) d) Q st=yp P ob (.seq c d) Q (wq st s):=by simp only[ct];cases wq st s<;>rfl
end
section
open Go Go.RowKit
def BR(t:List (Nat×ae))(bT:List Nat):List (Nat×ae):=bT.map fun k=>(k,get k t)
@[simp]theorem ahl(t:List (Nat×ae)):BR t []=[]:=rfl
@[simp]theorem ahk(t:List (Nat×ae))(k:Nat)(bT:List Nat):BR t (k::bT)=(k,get k t)::BR t bT:=rfl
def o3(st:aS)(bT:List Nat)(cs:List (Nat×ae)):aS:=⟨BR st.t bT++cs,st.b,st.e,st.n,st.o⟩
theorem aaB(t:List (Nat×ae))(b:List (aC×List ae))(e:List (aC×cV))(n:Nat)(o:List aC)(bT:List Nat)(cs:List (Nat×ae)):o3 ⟨t,b,e,n,o⟩ bT cs=⟨BR t bT++cs,b,e,n,o⟩:=rfl
def yn{α:Type}(S:Nat->α->aS)(n:Nat)(hF:Nat->α->Prop)(k:Nat)(st:aS):Prop:= ∃i a,i<=n/\k=n-i/\hF i a/\st=S i a
section
variable {P:bK} {ob:List aC} {st:aS} {Q:Exit->aS->Prop} {c:C} {α:Type}
theorem gu(S:Nat->α->aS)(n:Nat)(hF:Nat->α->Prop)(a0:α)(hw:hH ob st (S 0 a0))(bL:hF 0 a0)(iK:∀a,hF n a->(∀i,js (get i (S n a).t))->ct P ob c (b9 ob (yn S n hF) 0 Q) (S n a))
  (rR:∀i a,i<n->hF i a->(∀j,js (get j (S i a).t))->ct P ob c (b9 ob (yn S n hF) (n-i) Q) (S i a)):ct P ob (.loop c) Q st:=by
 refine Dp (yn S n hF) n _ hw ⟨0,a0,Ω,Ω,bL,rfl⟩ ?_;rintro k s ⟨i,a,az,rfl,aw,rfl⟩ ah _;rcases ly i n with h|h
 ·exact rR i a h aw ah
 ·obtain rfl:i=n:=Ω
  rw[Nat.sub_self];exact iK a aw ah
theorem b9.rng{S:Nat->α->aS}{n:Nat}{hF:Nat->α->Prop}{i:Nat}(bU:α)(az:i<n)(aw:hF (i+1) bU)(hw:hH ob st (S (i+1) bU)):b9 ob (yn S n hF) (n-i) Q .normal st:=⟨n-(i+1),_,Ω,hw,i+1,bU,Ω,rfl,aw,rfl⟩
def CQ{α:Type}(S:α->aS)(μ:α->Nat)(hF:α->Prop)(k:Nat)(st:aS):Prop:= ∃a,k=μ a/\hF a/\st=S a
theorem h1(S:α->aS)(μ:α->Nat)(hF:α->Prop)(a0:α)(hw:hH ob st (S a0))(bL:hF a0)
  (rR:∀a,hF a->(∀j,js (get j (S a).t))->ct P ob c (b9 ob (CQ S μ hF) (μ a) Q) (S a)):ct P ob (.loop c) Q st:=by
 refine Dp (CQ S μ hF) (μ a0) _ hw ⟨a0,rfl,bL,rfl⟩ ?_;rintro k s ⟨a,rfl,aw,rfl⟩ ah _;exact rR a aw ah
theorem b9.whl{S:α->aS}{μ:α->Nat}{hF:α->Prop}{k:Nat}(bU:α)(hm:μ bU<k)(aw:hF bU)(hw:hH ob st (S bU)):b9 ob (CQ S μ hF) k Q .normal st:=⟨μ bU,_,hm,hw,bU,rfl,aw,rfl⟩
end
theorem r7{p:Prop}(h:p:=by(try simp[*]);(repeat' first|with_reducible refine aA ?_|with_reducible refine a8 (by assumption) ?_|with_reducible refine ba (by assumption) ?_|simp[*]);(all_goals first|exact b9.rng () (by assumption) (by first|assumption|trivial) dw|exact b9.rng _ (by assumption) (by assumption) dw)):p:=h
end
section
open Go Go.RowKit
section
variable {α:Type}
end
end
section
open Go Go.RowKit
section
variable {P:bK} {ob:List aC} {st:aS} {Q:Exit->aS->Prop} {c:C} {α:Type}
theorem vr(bT:List Nat)(cs:Nat->α->List (Nat×ae))(n:Nat)(hF:Nat->α->Prop)(a0:α)(hw:hH ob st (o3 st bT (cs 0 a0)))(bL:hF 0 a0)(iK:∀a,hF n a->(∀i,js (get i (o3 st bT (cs n a)).t))->ct P ob c (b9 ob (yn (fun i a=>o3 st bT (cs i a)) n hF) 0 Q) (o3 st bT (cs n a)))
  (rR:∀i a,i<n->hF i a->(∀j,js (get j (o3 st bT (cs i a)).t))->ct P ob c (b9 ob (yn (fun i a=>o3 st bT (cs i a)) n hF) (n-i) Q) (o3 st bT (cs i a))):ct P ob (.loop c) Q st:=
 gu (fun i a=>o3 st bT (cs i a)) n hF a0 hw bL iK rR
theorem MX(bT:List Nat)(cs:α->List (Nat×ae))(μ:α->Nat)(hF:α->Prop)(a0:α)(hw:hH ob st (o3 st bT (cs a0)))(bL:hF a0)
  (rR:∀a,hF a->(∀j,js (get j (o3 st bT (cs a)).t))->ct P ob c (b9 ob (CQ (fun a=>o3 st bT (cs a)) μ hF) (μ a) Q) (o3 st bT (cs a))):ct P ob (.loop c) Q st:=
 h1 (fun a=>o3 st bT (cs a)) μ hF a0 hw bL rR
end
attribute [simp] aaB
end
section
open Go Go.RowKit
def dy(di:List cr)(s:dD)(κ:Nat)(Q:ae->dD->Prop)(e:Exit)(st:aS):Prop:=
 (e= .ret\/e= .normal)/\match a1 st di with
  |some (c,a6)=>c/\∃ai,ai.e=[]/\mm ai s.b/\o9 (au ai) ai.b st.b/\hd ai/\(cH st.e (aV a6)/\(cp st.e (aV a6)).Nodup/\(bY (aV a6)).Nodup)/\Q (fold κ st.e 0 (aV a6)) ai
  |none=>cZ
noncomputable def aP.fold(ν:aP)(ai:dD)(κ:Nat)(e:List (aC×cV))(p:ae):aP:=
 {A:=fun b o=>ν.A b o\/ ∃k,k∈bY p/\∃own,look k e=some own/\kd ν k b/\o<own.n*own.sz,
  bx:=(ν.cut (au ai)).bx,ow:=fun _=>none,
  tr:=fun k j b=>k= .loc κ/\∃S,(e1 ν (fun b=> ∃k,k∈bY p/\kd ν k b) e p)[j]? =some S/\S b}
theorem FnK.of{P:bK}(hm:P.follows .mixedOrders=true){aZ:List (Nat×cJ)}(aD:ez P aZ=true){f:FuncId}{fn:Func}(aL:P.funcs[f]? =some fn){code:Code}(ah:fn.body=some code)(ft:(fn.name== "runtime.NumGoroutine")=false){c:C}(aE:fZ fn.ntmps aZ c code=true){di:List cr}(ju:ox aZ di fn.results.toList=true)
  {args:List ae} (aG:args.length<=fn.ntmps) {s:dD} (kx:hd s) (gE:s.e=[]) {κ:Nat} {Q:ae->dD->Prop} (he:iZ args->(∀j cs,look j s.b=some cs->gn cs=true->ja cs)->ct P (ec s) c (dy di s κ Q) ⟨h6 0 args,s.b,s.e,0,ec s⟩):FnK P f κ args s Q:=by
 intro w ν vs gl aR af hr;refine .inl ⟨⟨fn,aL,by simp[ah],ft⟩,?_⟩;have mj:=uS hr;have gj:vs.size=args.length:=by simpa using mj
 let X:ek:=⟨w,ν,fv ν s,fn.ntmps,ec s,gl,[]⟩
 have jh:∀k,fresh 0 (ec s) k->ν.bx k=none/\ν.ow k=none/\∀j b,¬ν.tr k j b:=by
  intro k aa;cases k with
  |loc m=>exact⟨(af _).1 (kx.1 m),(af _).2.1 (kx.2 m),(af _).2.2⟩
  |obj m=>
   simp only[fresh,true_and]at aa;refine⟨?_,?_,(af _).2.2⟩
   ·refine(af _).1 ?_;cases h:look (.obj m) s.b with
    |none=>rfl
    |some x=>exact absurd (uM (.inl (by simp[h]))) aa
   ·refine(af _).2.1 ?_;cases h:look (.obj m) s.e with
    |none=>rfl
    |some x=>exact absurd (uM (.inr (by simp[h]))) aa
 have lb:∀m,(ν.bx (.obj m)≠none\/ν.ow (.obj m)≠none)-> .obj m∈ec s:=by
  intro m hm;refine Classical.byContradiction fun aE=>?_;obtain⟨I,J,_⟩:=jh (.obj m) ⟨trivial,aE⟩;rcases hm with hm|hm
  ·exact hm I
  ·exact hm J
 have mR:bX X ⟨h6 0 args,s.b,s.e,0,ec s⟩ {tmps:=vs++p8 (fn.ntmps-vs.size) undef,defers:=[]} w ν:=by
  refine⟨⟨aR.alt,fun k cs aa=>?_,aR.inj,fun g o eO=>?_,aR.oinj,aR.obx,aR.one,aR.otr⟩,⟨rfl,rfl,rfl,cq _,fun _ _ _=>rfl,fun b o h=>⟨h,rfl⟩,fun b o h=>.inl h,fun n b h=>h,fun n b h=>lb n (.inl (by rw[h];simp)),fun m n u h=>⟨n,u,h,.inl ⟨rfl,rfl⟩⟩,fun m n u h=>lb m (.inr (by rw[h];simp)),fun k j _ _ b h=>absurd h ((af k).2.2 j b),fun k j b h=>absurd h ((af k).2.2 j b),fun k j b h=>absurd h ((af k).2.2 j b),fun _ _ _=>rfl,fun j n u b aj _=>(by rw[(af _).2.1 (kx.2 j)]at aj;cases aj)⟩,rfl,?_,fun i=>?_,jh,fun _ af=>(by cases af),fun m hm aL=>aL.2 hm⟩
  ·obtain⟨bl,us,el,g1,g2,g3⟩:=aR.box k cs aa;exact⟨bl,us,el,g1,.inl g2,g3⟩
  ·obtain⟨v,us,g1,g2,g3,g4⟩:=aR.own g o eO;exact⟨v,us,g1,g2,fun bl fl=>⟨.inl (g3 bl fl).1,(g3 bl fl).2⟩,g4⟩
  ·show(vs++p8 (fn.ntmps-vs.size) undef).size=fn.ntmps;simp;omega
  ·rw[yV];by_cases az:i<args.length
   ·rw[if_pos Ω];have oc:args[i]? =some args[i]:=cF az;obtain⟨v,aj,aJ⟩:=zR i hr oc;have aM:(vs++p8 (fn.ntmps-vs.size) undef).getD i undef=v:=by
     have vq:vs[i]? =some v:=by simpa using aj
     rw[oC,Array.getElem?_append_left Ω,vq];rfl
    show aH w ν _ ((vs++p8 (fn.ntmps-vs.size) undef).getD i undef);rw[aM];simpa[List.getD,oc]using aJ
   ·rw[bq Ω];simp[aH]
 have ui:=he (JQ hr) (fun j cs aw=>by obtain⟨bl,us,el,_,_,_,_,g5⟩:=aR.box j cs aw;exact JJ g5);have BL:=nn hm aD (X:=X) c code (dy di s κ Q) _ aE ui _ w ν mR;refine calls_of_wp aL ah (wp_mono BL fun e bU w' bI=>?_);obtain⟨st',ν',⟨ik,bn⟩,bW⟩:=bI;cases hn:a1 st' di with
 |none=>simp[hn]at bn
 |some x=>
  obtain⟨hh,a6⟩:=x;simp only[hn]at bn;obtain⟨kK,ai,hs'e,kb,bR,dE,⟨ok,nd,rd⟩,cP⟩:=bn;obtain⟨h5,g1,g2⟩:=Co aD bW di fn.results.toList hh a6 ju hn kK;have HS:=uS g2;have la:bU.defers=[]/\∃v,(results fn bU.tmps).run P w'= .ok v w'/\(fun(e:Ending) w'=> ∃v r ai ν',e= .returned v/\Q r ai/\aH w' ν' r v/\Good (fun bl=>fv ν s bl\/w.heap.size<=bl) w' ν' ai.b ai.e/\yM (some κ) ν' ai/\hd ai/\ni ⟨w,ν,fv ν s,0,ec s,gl,[]⟩ w' ν') (.returned v) w':=by
   refine⟨bW.defers,?_⟩;have gD:(results fn bU.tmps).run P w'= .ok (if h:h5.toArray.size=1 then h5.toArray[0]else .tuple h5.toArray) w':=by rw[JT];simp only[e2,Array.mapM_eq_mapM_toList,Sem.run_map,g1,e4,fH]
   have vJ:∀k,au ai k->(look k ai.b).isSome/\(look k st'.b).isSome:=fun k aa=>by
    have I:(look k ai.b).isSome:=by
     rcases aa with aa|aa
     ·exact aa
     ·rw[hs'e]at aa;simp[look]at aa
    obtain⟨cs,cO⟩:=e5.1 I;exact⟨I,by simp[(bR k cs cO).1]⟩
   have fu:∀k b,k∈bY (aV a6)->kd ν' k b->∃own,look k st'.e=some own/\(X.pr b)/\b<w'.heap.size/\(∀k j,¬ν'.tr k j b)/\(∀bb,(look bb st'.b).isSome->ν'.bx bb≠some b):=by rintro k b aa ⟨n,v,I,J⟩;obtain⟨own,lf⟩:=B0 _ ok k aa;obtain⟨v0,us,lR,kc,ot,ah2⟩:=bW.good.own k _ lf;rw[I]at lR;simp only[dZ,gA]at lR;obtain⟨rfl,rfl⟩:=lR;exact⟨_,lf,(ot b J).1,bW.good.ownLt lf I J,bW.good.otr b (.inr ⟨k,_,_,by simp[lf],I,J⟩),fun bb gw iI=>bW.good.obx k bb _ _ b (by simp[lf]) gw I J iI⟩
   have Y2:∀k b,k∈bY (aV a6)->kd ν' k b->w.heap.size<=b:=by
    intro k b aa eT;obtain⟨own,_,I,_,_,bp⟩:=fu k b aa eT;rcases I with I|I
    ·exfalso;rcases I with⟨bb,bB,a2⟩|⟨g,n,v,bB,_⟩
     ·cases bb with
      |loc m=>rw[kx.1 m]at bB;cases bB
      |obj m=>exact bp _ (vJ _ (xJ kb _ bB)).2 (bW.fr.obj m b a2)
     ·rw[gE]at bB;simp[look]at bB
    ·exact I
   have xr:ym ν' (fun b=> ∃k,k∈bY (aV a6)/\kd ν' k b) (bY (aV a6)):=by refine⟨bW.fr.trd,fun k bb b aa gw I J=>?_,fun k b aa h=>⟨k,aa,h⟩⟩;obtain⟨n,v,bB,a2⟩:=I;obtain⟨n',v',cb,cn⟩:=J;obtain⟨_,cN⟩:=B0 _ ok k aa;obtain⟨_,c2⟩:=B0 _ ok bb gw;exact bW.good.oinj k bb n n' v v' b (by simp[cN]) (by simp[c2]) bB cb a2 cn
   refine⟨_,gD,_,Pv.fold κ st'.e 0 (aV a6),ai,ν'.fold ai κ st'.e (aV a6),rfl,cP,?_,?_,?_,dE,?_⟩
   ·show aH w' (ν'.fold ai κ st'.e (aV a6)) _ _;have jt:aH w' ν' (aV a6) (if h:h5.toArray.size=1 then h5.toArray[0]else .tuple h5.toArray):=by
     match a6,h5,g2,HS with
     |[p],[v],g2,_=>simp only[cc]at g2;obtain⟨u,br,aj,aJ,_⟩:=g2;cases aj;simpa[aV]using aJ
     |[],[],g2,_=>simp[aV,aH,cc]
     |p::fN::a6,v::v2::h5,g2,_=>rw[dif_neg Ψ];simp only[aV,aH];exact⟨_,rfl,by simpa using g2⟩
     |[_],[],_,h=>simp at h
     |[],_::_,_,h=>simp at h
     |[_],_::_::_,_,h=>simp at h
     |_::_::_,[],_,h=>simp at h
     |_::_::_,[_],_,h=>simp at h
    refine DA (μ:=ν'.fold ai κ st'.e (aV a6)) bW.good xr (fun b bu=>?_) (fun b o h=>.inl h) (fun k aa own lf b eT o ak=>.inr ⟨k,aa,own,lf,eT,ak⟩) (aV a6) _ 0 jt ok nd (fun k aa=>aa) (fun i S az b gC=>⟨rfl,S,by simpa using az,gC⟩);obtain⟨k,aa,eT⟩:=bu;obtain⟨_,_,_,_,aO,_⟩:=fu k b aa eT;exact aO
   ·have lJ:mB (au ai) w' ν' w' (ν'.fold ai κ st'.e (aV a6)):=by
     refine⟨fun b o h=>⟨.inl h,rfl⟩,fun k b aa h=>by simp only[aP.fold];rw[aP.cut_bx aa];exact h,fun g n u DW h=>?_,fun _ _ _=>rfl,fun k j b aa h=>?_⟩
     ·obtain⟨cs,cO⟩:=e5.1 (vJ g DW).2;obtain⟨bl,us,el,aj,_⟩:=bW.good.box g cs cO;rcases bW.good.one g with I|I
      ·rw[I]at aj;cases aj
      ·rw[I]at h;cases h
     ·obtain⟨cs,cO⟩:=e5.1 (vJ k aa).2;obtain⟨bl,us,el,aj,_⟩:=bW.good.box k cs cO;rw[(bW.fr.trn k j b h).1]at aj;cases aj
    have iI:∀k bl,(ν'.fold ai κ st'.e (aV a6)).bx k=some bl->au ai k/\ν'.bx k=some bl:=fun k bl h=>aP.cut_some h;refine⟨fun bl o aW=>?_,fun k cs aa=>?_,fun k bb bl I J ao aO=>?_,fun g o DW=>?_,fun g eM n n' v v' bl I=>?_,fun g k n v bl I=>?_,fun k=>.inr rfl,fun bl aD k j fo=>?_⟩
    ·rcases aW with aW|⟨k,aa,own,_,eT,_⟩
     ·exact bW.good.alt bl o aW
     ·obtain⟨_,_,_,ao,_⟩:=fu k bl aa eT;exact ao
    ·obtain⟨f1,f2,f3⟩:=bR k cs aa;obtain⟨bl,us,el,aj,aJ,bs,ch,fa⟩:=bW.good.box k cs f1;refine⟨bl,us,el,lJ.bx k bl f2 aj,aJ,fun o aW=>?_,ch,JK lJ f3 fa⟩;rcases aW with aW|⟨bb,gw,own,_,eT,_⟩
     ·exact bs o aW
     ·obtain⟨_,_,_,_,_,bp⟩:=fu bb bl gw eT;exact bp k (by simp[f1]) aj
    ·exact bW.good.inj k bb bl (vJ k (.inl I)).2 (vJ bb (.inl J)).2 (iI k bl ao).2 (iI bb bl aO).2
    ·rw[hs'e]at DW;simp[look]at DW
    ·rw[hs'e]at I;simp[look]at I
    ·rw[hs'e]at I;simp[look]at I
    ·rcases aD with⟨bb,bB,a2⟩|⟨g,n,v,bB,_⟩
     ·obtain⟨_,S,gC,eT⟩:=fo;obtain⟨cb,cn⟩:=iI bb bl a2;rcases zZ _ j S gC bl eT with⟨dr,gh,I⟩|⟨⟨dr,i,_,I⟩,_⟩
      ·obtain⟨_,_,_,_,_,bp⟩:=fu dr bl gh I;exact bp bb (vJ bb cb).2 cn
      ·exact bW.good.otr bl (.inl ⟨bb,(vJ bb cb).2,cn⟩) dr i I
     ·rw[hs'e]at bB;simp[look]at bB
   ·intro k;refine⟨fun aa=>?_,fun _=>rfl,fun j b h=>⟨κ,rfl,h.1⟩⟩;refine(aP.cut_no fun bI=>?_).1;have:=(vJ k bI).1;rw[aa]at this;cases this
   ·have OS:∀j b,(ν'.fold ai κ st'.e (aV a6)).tr (.loc κ) j b->w.heap.size<=b/\b<w'.heap.size:=by
     rintro j b ⟨_,S,gC,eT⟩;rcases zZ _ j S gC b eT with⟨k,aa,I⟩|⟨⟨k,i,fe,I⟩,_⟩
     ·obtain⟨_,_,_,ao,_⟩:=fu k b aa I;exact⟨Y2 k b aa I,ao⟩
     ·have:=bW.fr.trb k i b I;exact⟨this.1.resolve_left (Jj _ ok _ fe),this.2⟩
    refine⟨bW.fr.os,bW.fr.tape,bW.fr.output,bW.fr.size,bW.fr.block,fun b o h=>⟨.inl (bW.fr.keep b o h).1,(bW.fr.keep b o h).2⟩,fun b o aW=>?_,fun n b h=>?_,fun n b h=>lb n (.inl (by rw[h];simp)),fun m n u h=>?_,fun m n u h=>lb m (.inr (by rw[h];simp)),fun k j bb eo b I J=>?_,fun k j b h=>?_,fun k j b h=>?_,bW.fr.sh,fun j n u b aj aJ=>(by cases aj)⟩
    ·rcases aW with aW|⟨k,aa,own,_,eT,_⟩
     ·exact bW.fr.fresh b o aW
     ·obtain⟨_,_,J,_⟩:=fu k b aa eT;exact .inr J
    ·have aq:au ai (.obj n):=by
      cases lf:look (.obj n) s.b with
      |none=>rw[(af _).1 lf]at h;cases h
      |some x=>exact xJ kb _ (by simp[lf])
     simp only[aP.fold];rw[aP.cut_bx aq];exact bW.fr.obj n b h
    ·rw[(af _).2.1 (by rw[gE];rfl)]at h;cases h
    ·obtain⟨rfl,S,bB,a2⟩:=I;obtain⟨rfl,ko,cb,cn⟩:=J;exact⟨rfl,J8 xr _ nd rd (fun k aa=>aa) j eo S ko bB cb b a2 cn⟩
    ·obtain⟨rfl,_⟩:=id h;exact⟨.inr (OS j b h).1,(OS j b h).2⟩
    ·obtain⟨rfl,_⟩:=h;refine⟨(aP.cut_no fun bI=>?_).1,rfl⟩;rcases bI with bI|bI
     ·rw[dE.1 κ]at bI;cases bI
     ·rw[dE.2 κ]at bI;cases bI
  rcases ik with rfl|rfl<;>exact la
theorem FnK.mk{P:bK}(hm:P.follows .mixedOrders=true){aZ:List (Nat×cJ)}(aD:ez P aZ=true){f:FuncId}{fn:Func}(aL:P.funcs[f]? =some fn){c:C}{di:List cr}{n:Nat}(dS:c8 aZ c di n fn=true)
  {args:List ae} (aG:args.length<=n) {s:dD} (kx:hd s) (gE:s.e=[]) {κ:Nat} {Q:ae->dD->Prop} (he:iZ args->(∀j cs,look j s.b=some cs->gn cs=true->ja cs)->ct P (ec s) c (dy di s κ Q) ⟨h6 0 args,s.b,s.e,0,ec s⟩):FnK P f κ args s Q:=by
 unfold c8 at dS;split at dS
 ·rename_i code ah;simp only[bM,q0,fK]at dS;obtain⟨⟨⟨I,J⟩,ao⟩,aO⟩:=dS;exact FnK.of hm aD aL ah ao I J (Nat.le_trans aG aO) kx gE he
 ·cases dS
def tH(P:bK)(f:FuncId)(args:List ae)(r:Nat->ae):Prop:= ∀κ,FnK P f κ args ⟨[],[]⟩ fun cE ai=>cE=r κ/\ai=⟨[],[]⟩
theorem tH.mk{P:bK}(hm:P.follows .mixedOrders=true){aZ:List (Nat×cJ)}(aD:ez P aZ=true){f:FuncId}{fn:Func}(aL:P.funcs[f]? =some fn){c:C}{di:List cr}{n:Nat}(dS:c8 aZ c di n fn=true)
  {args:List ae} (aG:args.length<=n) {r:Nat->ae} (he:iZ args->∀κ,ct P [] c (dy di ⟨[],[]⟩ κ fun cE ai=>cE=r κ/\ai=⟨[],[]⟩) ⟨h6 0 args,[],[],0,[]⟩):tH P f args r:=
 fun κ=>FnK.mk hm aD aL dS aG qI rfl fun h _=>he h κ
theorem dy.val{di:List cr}{κ:Nat}{r:ae}{e:Exit}{st:aS}(ik:e= .ret\/e= .normal)(h:match a1 st di with
  |some (c,a6)=>c/\(cH st.e (aV a6)/\(cp st.e (aV a6)).Nodup/\(bY (aV a6)).Nodup)/\fold κ st.e 0 (aV a6)=r
  |none=>cZ):dy di ⟨[],[]⟩ κ (fun cE ai=>cE=r/\ai=⟨[],[]⟩) e st:=by
 refine⟨ik,?_⟩;cases hn:a1 st di with
 |none=>simp[hn]at h
 |some x=>obtain⟨c,a6⟩:=x;simp only[hn]at h⊢;exact⟨h.1,⟨[],[]⟩,rfl,trivial,fun k cs aa=>by simp[look]at aa,qI,h.2.1,h.2.2,rfl⟩
theorem CallDo.own{P:bK}{n:Nat}{args:List ae}{st:aS}{d:aT Nat}{K:aS->Prop}{r:Nat->ae}(aa:kinL (fun _=>cZ) args)(aL:tH P n args r)(rI: .loc st.n∉st.o)(h:K {st with t:=fk d (r st.n) st.t,n:=st.n+1}):CallDo P n args st d K:=by
 refine .inr ⟨⟨[],[]⟩,_,fun k cs aa=>by simp[look]at aa,fun k cs aa=>by simp[look]at aa,qI,nA (fun _ h=>h.elim) _ aa,rI,aL st.n,?_⟩;rintro cE ai ⟨rfl,rfl⟩;refine⟨⟨fun m h=>by simp[look]at h,fun m h=>by simp[look]at h⟩,?_⟩;have:({after st ⟨[],[]⟩ ⟨[],[]⟩ d (r st.n)with n:=st.n+1}:aS)={st with t:=fk d (r st.n) st.t,n:=st.n+1}:=by simp[after,Ae,ec]
 rw[this];exact h
mutual
def bO:ae->Nat
 | .slice _ _ []=>0
 | .slice _ _ (x::xs)=>1+(bO x+b2 xs)
 | .agg cs=>b2 cs
 |_=>0
def b2:List ae->Nat
 |[]=>0
 |x::xs=>bO x+b2 xs
end
mutual
def eh:Nat->ae->ae
 |_,.slice sz _ []=>.slice sz .no []
 |b,.slice sz _ (_::xs)=>.row sz (.obj b) (xs.length+1)
 |b,.agg cs=>.agg (gf b cs)
 |_,p=>p
def gf:Nat->List ae->List ae
 |_,[]=>[]
 |b,x::xs=>eh b x::gf (b+bO x) xs
end
mutual
def dc(ε:Nat->Nat):Nat->ae->List (aC×cV)
 |b,.slice sz _ (x::xs)=>(.obj b,⟨xs.length+1,ε b,sz,some (eh (b+1) x::gf (b+1+bO x) xs)⟩)::(dc ε (b+1) x++fG ε (b+1+bO x) xs)
 |b,.agg cs=>fG ε b cs
 |_,_=>[]
def fG(ε:Nat->Nat):Nat->List ae->List (aC×cV)
 |_,[]=>[]
 |b,x::xs=>dc ε b x++fG ε (b+bO x) xs
end
theorem qt:∀(b:Nat) (xs:List ae),(gf b xs).length=xs.length
 |_,[]=>rfl
 |b,x::xs=>by simp[gf,qt _ xs]
mutual
theorem td(ε:Nat->Nat):∀(p:ae) (b:Nat) (k:aC) (o:cV),look k (dc ε b p)=some o->∃m,k= .obj m/\b<=m/\m<b+bO p
 | .slice sz t (x::xs),b,k,o,h=>by
  simp only[dc,look]at h;split at h
  ·rename_i e;exact⟨b,e.symm,cq _,by simp only[bO];omega⟩
  ·rw[mo]at h;simp only[bO];cases I:look k (dc ε (b+1) x)with
   |some y=>obtain⟨m,e,fc,cv⟩:=td ε x _ k y I;exact⟨m,e,Ω,Ω⟩
   |none=>rw[I]at h;obtain⟨m,e,fc,cv⟩:=rZ ε xs _ k o h;exact⟨m,e,Ω,Ω⟩
 | .agg cs,b,k,o,h=>by simp only[dc,bO]at h⊢;exact rZ ε cs b k o h
 | .slice _ _ [],_,_,_,h=>by simp[dc,look]at h
 | .int _ _,_,_,_,h=>by simp[dc,look]at h
 | .bool _,_,_,_,h=>by simp[dc,look]at h
 | .str _,_,_,_,h=>by simp[dc,look]at h
 | .junk,_,_,_,h=>by simp[dc,look]at h
 | .ptr _ _,_,_,_,h=>by simp[dc,look]at h
 | .eptr _,_,_,_,h=>by simp[dc,look]at h
 | .iface _ _,_,_,_,h=>by simp[dc,look]at h
 | .nilp,_,_,_,h=>by simp[dc,look]at h
 | .tuple _,_,_,_,h=>by simp[dc,look]at h
 | .func _ _,_,_,_,h=>by simp[dc,look]at h
 | .gmap _,_,_,_,h=>by simp[dc,look]at h
 | .row _ _ _,_,_,_,h=>by simp[dc,look]at h
 | .rptr _ _ _ _ _,_,_,_,h=>by simp[dc,look]at h
 | .hdm _ _,_,_,_,h=>by simp[dc,look]at h
 | .hdi _ _ _,_,_,_,h=>by simp[dc,look]at h
 | .cst _,_,_,_,h=>by simp[dc,look]at h
theorem rZ(ε:Nat->Nat):∀(a6:List ae) (b:Nat) (k:aC) (o:cV),look k (fG ε b a6)=some o->∃m,k= .obj m/\b<=m/\m<b+b2 a6
 |[],_,_,_,h=>by simp[fG,look]at h
 |x::xs,b,k,o,h=>by
  simp only[fG]at h;rw[mo]at h;simp only[b2];cases I:look k (dc ε b x)with
  |some y=>obtain⟨m,e,fc,cv⟩:=td ε x _ k y I;exact⟨m,e,Ω,Ω⟩
  |none=>rw[I]at h;obtain⟨m,e,fc,cv⟩:=rZ ε xs _ k o h;exact⟨m,e,Ω,Ω⟩
end
structure sK (F:Nat->Prop) (ω:Nat->aT (Nat×Value)) (b c:Nat):Prop where
 dom:∀m,(ω m).isSome=true↔b<=m/\m<c
 blk:∀m n u,ω m=some (n,u)->∃bl,u.ownBlock=some bl/\F bl
 inj:∀m m' n n' u eA bl,ω m=some (n,u)->ω m'=some (n',eA)->u.ownBlock=some bl->eA.ownBlock=some bl->m=m'
def tM(w:World)(ω:Nat->aT (Nat×Value))(e:List (aC×cV)):Prop:= ∀μ:aP,(∀m x,ω m=some x->μ.ow (.obj m)=some x)->
 ∀k o,look k e=some o->∃u us,μ.ow k=some (o.n,u)/\w.ownsRow 0 o.el o.sz u o.n us/\∃xs,o.xs=some xs/\xs.length=o.n/\cC w μ o.sz xs us
theorem sK.nil(F:Nat->Prop)(b:Nat):sK F (fun _=>none) b b:=⟨fun m=>by simp,fun _ _ _ h=>(by cases h),fun _ _ _ _ _ _ _ h=>by cases h⟩
def uC(c:Nat)(qY qZ:Nat->aT (Nat×Value))(m:Nat):aT (Nat×Value):=if m<c then qY m else qZ m
theorem Pz{c:Nat}{qY qZ:Nat->aT (Nat×Value)}{F:Nat->Prop}{b:Nat}(h:sK F qY b c){m:Nat}{x:Nat×Value}(af:qY m=some x):uC c qY qZ m=some x:=by unfold uC;rw[if_pos ((h.dom m).1 (by rw[af];rfl)).2];exact af
theorem PA{c d:Nat}{qY qZ:Nat->aT (Nat×Value)}{F:Nat->Prop}(h:sK F qZ c d){m:Nat}{x:Nat×Value}(af:qZ m=some x):uC c qY qZ m=some x:=by unfold uC;rw[bq (by have:=((h.dom m).1 (by rw[af];rfl)).1;omega)];exact af
theorem sK.join{F fR fS:Nat->Prop}{qY qZ:Nat->aT (Nat×Value)}{b c d:Nat}(I:sK fR qY b c)(J:sK fS qZ c d)(agB:b<=c)(Hj:c<=d)(f1:∀x,fR x->F x)(f2:∀x,fS x->F x)(aF:∀x,fR x->¬fS x):sK F (uC c qY qZ) b d:=by
 refine⟨fun m=>?_,fun m n u hm=>?_,fun m m' n n' u eA bl hm fX ah eT=>?_⟩
 ·unfold uC;split
  ·rw[I.dom];omega
  ·rw[J.dom];omega
 ·unfold uC at hm;split at hm
  ·obtain⟨bl,aj,aJ⟩:=I.blk m n u hm;exact⟨bl,aj,f1 _ aJ⟩
  ·obtain⟨bl,aj,aJ⟩:=J.blk m n u hm;exact⟨bl,aj,f2 _ aJ⟩
 ·unfold uC at hm fX;split at hm<;>split at fX
  ·exact I.inj m m' n n' u eA bl hm fX ah eT
  ·obtain⟨_,aj,aJ⟩:=I.blk m n u hm;obtain⟨_,bs,ch⟩:=J.blk m' n' eA fX;rw[ah]at aj;rw[eT]at bs;cases aj;cases bs;exact absurd ch (aF _ aJ)
  ·obtain⟨_,aj,aJ⟩:=J.blk m n u hm;obtain⟨_,bs,ch⟩:=I.blk m' n' eA fX;rw[ah]at aj;rw[eT]at bs;cases aj;cases bs;exact absurd aJ (aF _ ch)
  ·exact J.inj m m' n n' u eA bl hm fX ah eT
theorem tM.app{w:World}{ω:Nat->aT (Nat×Value)}{e gr:List (aC×cV)}(h:tM w ω e)(cu:tM w ω gr):tM w ω (e++gr):=fun μ oX k o aa=>by
 rw[mo]at aa;cases I:look k e with
 |some y=>rw[I]at aa;cases aa;exact h μ oX k _ I
 |none=>rw[I]at aa;exact cu μ oX k o aa
theorem tM.sub{w:World}{ω Td:Nat->aT (Nat×Value)}{e:List (aC×cV)}(h:tM w ω e)(aq:∀m x,ω m=some x->Td m=some x):tM w Td e:=fun μ oX=>h μ fun m x af=>oX m x (aq m x af)
theorem Nu{t:Bool}{w:World}{A:Nat->Nat->Prop}{sz:Nat}:∀{xs:List ae} {F:Nat->Prop} {us:List Value},iG t w A F sz xs us->us.length=xs.length*sz
 |[],_,us,h=>by simp only[iG]at h;subst h;simp
 |x::xs,F,us,h=>by
  simp only[iG]at h;obtain⟨u,br,fR,fS,rfl,_,⟨_,J,_⟩,bp⟩:=h;have:u.cells.toList.length=sz:=by simpa using J
  rw[j2,this,Nu bp,lx,Nat.succ_mul];omega
def nS(w:World)(F:Nat->Prop)(b c:Nat)(e:(Nat->Nat)->List (aC×cV))(R:aP->Prop):Prop:=∃(ε:Nat->Nat) (ω:Nat->aT (Nat×Value)),sK F ω b c/\tM w ω (e ε)/\∀μ:aP,(∀m x,ω m=some x->μ.ow (.obj m)=some x)->R μ
theorem nS.flat{w:World}{F:Nat->Prop}{b:Nat}{R:aP->Prop}(h:∀μ,R μ):nS w F b b (fun _=>[]) R:=⟨fun _=>0,fun _=>none,sK.nil F b,fun _ _ k o aa=>by simp[look]at aa,fun μ _=>h μ⟩
mutual
theorem Fs{ε ε':Nat->Nat}:∀(p:ae) (b:Nat),(∀m,b<=m->m<b+bO p->ε m=ε' m)->dc ε b p=dc ε' b p
 | .slice sz t (x::xs),b,h=>by simp only[bO]at h;simp only[dc];rw[h b Ω Ω,Fs x (b+1) fun m I J=>h m Ω Ω,Cr xs (b+1+bO x) fun m I J=>h m Ω Ω]
 | .agg cs,b,h=>by simp only[dc,bO]at h⊢;exact Cr cs b h
 | .slice _ _ [],_,_=>rfl
 | .int _ _,_,_=>rfl
 | .bool _,_,_=>rfl
 | .str _,_,_=>rfl
 | .junk,_,_=>rfl
 | .ptr _ _,_,_=>rfl
 | .eptr _,_,_=>rfl
 | .iface _ _,_,_=>rfl
 | .nilp,_,_=>rfl
 | .tuple _,_,_=>rfl
 | .func _ _,_,_=>rfl
 | .gmap _,_,_=>rfl
 | .row _ _ _,_,_=>rfl
 | .rptr _ _ _ _ _,_,_=>rfl
 | .hdm _ _,_,_=>rfl
 | .hdi _ _ _,_,_=>rfl
 | .cst _,_,_=>rfl
theorem Cr{ε ε':Nat->Nat}:∀(a6:List ae) (b:Nat),(∀m,b<=m->m<b+b2 a6->ε m=ε' m)->fG ε b a6=fG ε' b a6
 |[],_,_=>rfl
 |x::xs,b,h=>by simp only[b2]at h;simp only[fG];rw[Fs x b fun m I J=>h m Ω Ω,Cr xs (b+bO x) fun m I J=>h m Ω Ω]
end
theorem nS.two{w:World}{F fR fS:Nat->Prop}{x:ae}{xs:List ae}{b:Nat}{K4 FQ R:aP->Prop}(I:nS w fR b (b+bO x) (fun ε=>dc ε b x) K4)(J:nS w fS (b+bO x) (b+bO x+b2 xs) (fun ε=>fG ε (b+bO x) xs) FQ)
  (f1:∀b,fR b->F b) (f2:∀b,fS b->F b) (aF:∀b,fR b->¬fS b) (bu:∀μ,K4 μ->FQ μ->R μ):nS w F b (b+(bO x+b2 xs)) (fun ε=>dc ε b x++fG ε (b+bO x) xs) R:=by
 obtain⟨ε1,qY,bB,a2,a3⟩:=I;obtain⟨ε2,qZ,cN,c2,c3⟩:=J;refine⟨fun m=>if m<b+bO x then ε1 m else ε2 m,uC (b+bO x) qY qZ,by rw[<-Nat.add_assoc];exact bB.join cN Ω Ω f1 f2 aF,?_,fun μ oX=>bu μ (a3 μ fun m y bA=>oX m y (Pz bB bA)) (c3 μ fun m y bA=>oX m y (PA cN bA))⟩;refine tM.app ?_ ?_
 ·rw[Fs (ε':=ε1) x b fun m I J=>by rw[if_pos J]];exact a2.sub fun m y bA=>Pz bB bA
 ·rw[Cr (ε':=ε2) xs (b+bO x) fun m I J=>by rw[bq Ω]];exact c2.sub fun m y bA=>PA cN bA
mutual
theorem Kj{w:World}{A:Nat->Nat->Prop}:∀(p:ae) (F:Nat->Prop) (v:Value) (b:Nat),ca true w A F p v->nS w F b (b+bO p) (fun ε=>dc ε b p) fun μ=>aH w μ (eh b p) v
 | .int k n,F,v,b,h=>nS.flat fun μ=>by simpa only[ca,eh,aH]using h
 | .bool _,F,v,b,h=>nS.flat fun μ=>by simpa only[ca,eh,aH]using h
 | .str s,F,v,b,h=>nS.flat fun μ=>by simpa only[ca,eh,aH]using h
 | .slice sz tag [],F,v,b,h=>nS.flat fun μ=>by simp only[ca]at h;obtain⟨a,cap,I,J,ao,_⟩:=h;simp only[eh,aH];exact⟨⟨a,cap,I,J,ao,.inl trivial⟩,fun e=>(by cases e),fun _ e=>(by cases e),fun _ _ e=>(by cases e),fun _ e=>(by cases e)⟩
 | .agg cs,F,v,b,h=>by simp only[ca]at h;obtain⟨us,rfl,J⟩:=h;obtain⟨ε,ω,bB,a2,a3⟩:=Sr cs F us.toList b J;exact⟨ε,ω,bB,a2,fun μ oX=>by simp only[eh,aH];exact⟨us,rfl,a3 μ oX⟩⟩
 | .slice sz tag (x::xs),F,v,b,h=>by
  simp only[ca]at h;obtain⟨a,cap,I,J,ao,aO⟩:=h;rcases aO with aO|⟨g,off,us,G,rfl,aJ,bs,ch,fa,dd⟩
  ·cases aO
  obtain⟨rfl,gS,el,gx⟩:=fa trivial;obtain⟨ε,ω,bB,a2,a3⟩:=Sq sz (x::xs) G us (b+1) dd;have hlen:=Nu dd;have Oo:¬G g:=fun aR=>(bs g aR).2 trivial rfl;have uh:∃cur,w.heap[g]? =some (.cells cur el (0,0))/\cur.size=cap*sz:=by
   unfold shape at gx;split at gx
   ·rename_i cur eS fz aE;simp only[dZ,gA]at gx;obtain⟨bR,rfl,rfl⟩:=gx;exact⟨cur,aE,bR⟩
   ·cases gx
  obtain⟨cur,aE,cO⟩:=uh;have hle:(x::xs).length*sz<=cur.size:=by rw[cO];exact Nat.mul_le_mul_right _ J
  have BD:cur.toList.take ((x::xs).length*sz)=us:=by
   apply List.ext_getElem?;intro i;rw[List.getElem?_take];by_cases az:i<(x::xs).length*sz
   ·rw[if_pos az];obtain⟨u,hu⟩:∃u,us[i]? =some u:=⟨_,cF (by rw[hlen];exact az)⟩;have oa:=(tb ch hu).2;simp only[World.cell?,Nat.zero_add,aE,sD,kk,if_false]at oa;rw[hu];simpa using oa
   ·rw[bq az,List.getElem?_eq_none (by rw[hlen];omega)]
  have Yk:∀m y,ω m=some y->m≠b:=fun m y hm e=>by have:=(bB.dom m).1 (by rw[hm];rfl);omega
  refine⟨fun m=>if m=b then el else ε m,fun m=>if m=b then some ((x::xs).length,v)else ω m,?_,?_,?_⟩
  ·refine⟨fun m=>?_,fun m n u hm=>?_,fun m m' n n' u eA bl hm fX ah eT=>?_⟩
   ·simp only[bO];by_cases e:m=b
    ·subst e;simp;omega
    ·rw[bq e,bB.dom];simp only[b2];omega
   ·split at hm
    ·cases hm;exact⟨g,by rw[I];rfl,aJ⟩
    ·obtain⟨bl,bR,cA⟩:=bB.blk m n u hm;exact⟨bl,bR,(bs bl cA).1⟩
   ·split at hm<;>split at fX
    ·rename_i bR cA;rw[bR,cA]
    ·cases hm;obtain⟨_,bR,cA⟩:=bB.blk m' n' eA fX;rw[eT]at bR;cases bR;rw[I]at ah;cases ah;exact absurd cA Oo
    ·cases fX;obtain⟨_,bR,cA⟩:=bB.blk m n u hm;rw[ah]at bR;cases bR;rw[I]at eT;cases eT;exact absurd cA Oo
    ·exact bB.inj m m' n n' u eA bl hm fX ah eT
  ·intro μ oX k o aa;have O5:∀m y,ω m=some y->μ.ow (.obj m)=some y:=fun m y hm=>oX m y ((bq (Yk m y hm)).trans hm);simp only[dc,look]at aa;split at aa
   ·rename_i US;subst US;cases aa;refine⟨v,us,?_,⟨by rw[hlen];rfl,.inr ⟨g,cap,cur,I,Nat.zero_le _,by simpa using aE,J,ao.1,cO,BD⟩⟩,_,rfl,by simp[qt],?_⟩
    ·exact oX b _ Ψ
    ·exact(a3 μ O5)
   ·have Bz:(dc (fun m=>if m=b then el else ε m) (b+1) x++fG (fun m=>if m=b then el else ε m) (b+1+bO x) xs)=fG ε (b+1) (x::xs):=by simp only[fG];rw[Fs (ε':=ε) x (b+1) fun m I _=>by rw[bq Ω],Cr (ε':=ε) xs (b+1+bO x) fun m I _=>by rw[bq Ω]]
    rw[Bz]at aa;exact a2 μ O5 k o aa
  ·intro μ oX;simp only[eh,aH];exact⟨⟨g,cap,I⟩,ao.2,(x::xs).length,v,oX b _ Ψ,cq _,fun _=>rfl⟩
 | .junk,_,_,_,h=>by simp[ca]at h
 | .ptr _ _,_,_,_,h=>by simp[ca]at h
 | .eptr _,_,_,_,h=>by simp[ca]at h
 | .iface _ _,_,_,_,h=>by simp[ca]at h
 | .nilp,_,_,_,h=>by simp[ca]at h
 | .tuple _,_,_,_,h=>by simp[ca]at h
 | .func _ _,_,_,_,h=>by simp[ca]at h
 | .gmap _,_,_,_,h=>by simp[ca]at h
 | .row _ _ _,_,_,_,h=>by simp[ca]at h
 | .rptr _ _ _ _ _,_,_,_,h=>by simp[ca]at h
 | .hdm _ _,_,_,_,h=>by simp[ca]at h
 | .hdi _ _ _,_,_,_,h=>by simp[ca]at h
 | .cst _,_,_,_,h=>by simp[ca]at h
theorem Sr{w:World}{A:Nat->Nat->Prop}:∀(cs:List ae) (F:Nat->Prop) (us:List Value) (b:Nat),jA true w A F cs us->nS w F b (b+b2 cs) (fun ε=>fG ε b cs) fun μ=>cl w μ (gf b cs) us
 |[],F,us,b,h=>nS.flat fun μ=>by simpa only[jA,gf,cl]using h
 |c::cs,F,us,b,h=>by simp only[jA]at h;obtain⟨u,br,fR,fS,rfl,⟨f1,f2,f3⟩,⟨g1,g2⟩,g3⟩:=h;simp only[b2,fG,gf];exact(Kj c fR u b g1).two (Sr cs fS br (b+bO c) g3) f1 f2 (f3 trivial) fun μ ff eW=>by simp only[cl];exact⟨u,br,rfl,⟨ff,g2⟩,eW⟩
theorem Sq{w:World}{A:Nat->Nat->Prop}(sz:Nat):∀(cs:List ae) (F:Nat->Prop) (us:List Value) (b:Nat),iG true w A F sz cs us->nS w F b (b+b2 cs) (fun ε=>fG ε b cs) fun μ=>cC w μ sz (gf b cs) us
 |[],F,us,b,h=>nS.flat fun μ=>by simpa only[iG,gf,cC]using h
 |c::cs,F,us,b,h=>by simp only[iG]at h;obtain⟨u,br,fR,fS,rfl,⟨f1,f2,f3⟩,⟨g1,g2,g4⟩,g3⟩:=h;simp only[b2,fG,gf];exact(Kj c fR u b g1).two (Sq sz cs fS br (b+bO c) g3) f1 f2 (f3 trivial) fun μ ff eW=>by simp only[cC];exact⟨u,br,rfl,⟨ff,g2,g4⟩,eW⟩
end
mutual
def b0:ae->Prop
 | .int _ _=>True
 | .bool _=>True
 | .str _=>True
 | .slice sz _ xs=>0<sz/\dtL xs
 | .agg cs=>dtL cs
 |_=>cZ
def dtL:List ae->Prop
 |[]=>True
 |x::xs=>b0 x/\dtL xs
end
mutual
theorem GM{w:World}{ν:aP}{F:Nat->Prop}(fj:∀b o,ν.A b o->F b):∀(p:ae) (v:Value),aH w ν p v->b0 p->ca false w ν.A F (bC p) v
 | .int k n,v,h,_=>by simpa only[aH,bC,ca]using h
 | .bool b,v,h,_=>by simpa only[aH,bC,ca]using h
 | .str s,v,h,_=>by simpa only[aH,bC,ca]using h
 | .slice sz tag xs,v,h,aF=>by
  simp only[aH]at h;simp only[b0]at aF;obtain⟨⟨a,cap,I,J,ao,aO⟩,_⟩:=h;simp only[bC,ca,lT];refine⟨a,cap,I,J,ao,?_⟩;rcases aO with rfl|⟨b,off,us,aj,aJ,bs⟩
  ·exact .inl rfl
  ·cases xs with
   |nil=>exact .inl rfl
   |cons x xs=>
    have aG:=p0 bs;have ah:F b:=by
     cases us with
     |nil=>have bp:0<(x::xs).length*sz:=Nat.mul_pos Ψ aF.1;rw[<-aG]at bp;simp at bp
     |cons u us=>exact fj b _ aJ.1.1
    exact .inr ⟨b,off,us,F,aj,ah,fun c aE=>⟨aE,fun e=>(by cases e)⟩,aJ,fun e=>(by cases e),MO fj sz _ us bs aF.2⟩
 | .agg cs,v,h,aF=>by simp only[aH,b0,bC,ca]at h aF⊢;obtain⟨us,I,J⟩:=h;exact⟨us,I,MP fj cs _ J aF⟩
 | .junk,_,_,aF=>by simp[b0]at aF
 | .ptr _ _,_,_,aF=>by simp[b0]at aF
 | .eptr _,_,_,aF=>by simp[b0]at aF
 | .iface _ _,_,_,aF=>by simp[b0]at aF
 | .nilp,_,_,aF=>by simp[b0]at aF
 | .tuple _,_,_,aF=>by simp[b0]at aF
 | .func _ _,_,_,aF=>by simp[b0]at aF
 | .gmap _,_,_,aF=>by simp[b0]at aF
 | .row _ _ _,_,_,aF=>by simp[b0]at aF
 | .rptr _ _ _ _ _,_,_,aF=>by simp[b0]at aF
 | .hdm _ _,_,_,aF=>by simp[b0]at aF
 | .hdi _ _ _,_,_,aF=>by simp[b0]at aF
 | .cst _,_,_,aF=>by simp[b0]at aF
theorem MP{w:World}{ν:aP}{F:Nat->Prop}(fj:∀b o,ν.A b o->F b):∀(cs:List ae) (us:List Value),cl w ν cs us->dtL cs->jA false w ν.A F (bz cs) us
 |[],us,h,_=>by simpa only[cl,bz,jA]using h
 |c::cs,us,h,aF=>by simp only[cl,dtL,bz,jA]at h aF⊢;obtain⟨u,br,I,⟨J,ao⟩,aO⟩:=h;exact⟨u,br,F,F,I,⟨fun _ h=>h,fun _ h=>h,fun e=>(by cases e)⟩,⟨GM fj c u J aF.1,ao⟩,MP fj cs br aO aF.2⟩
theorem MO{w:World}{ν:aP}{F:Nat->Prop}(fj:∀b o,ν.A b o->F b)(sz:Nat):∀(cs:List ae) (us:List Value),cC w ν sz cs us->dtL cs->iG false w ν.A F sz (bz cs) us
 |[],us,h,_=>by simpa only[cC,bz,iG]using h
 |c::cs,us,h,aF=>by simp only[cC,dtL,bz,iG]at h aF⊢;obtain⟨u,br,I,⟨J,ao⟩,aO⟩:=h;exact⟨u,br,F,F,I,⟨fun _ h=>h,fun _ h=>h,fun e=>(by cases e)⟩,⟨GM fj c u J aF.1,ao⟩,MO fj sz cs br aO aF.2⟩
end
theorem P2{w:World}{μ:aP}{k:aC}{sz:Nat}{tag:h9}{ys:List ae}{v:Value}(h:ca false w μ.A (μ.tr k 0) (.slice sz tag ys) v)(bA:bz ys=ys):aH w μ (.slice sz (.lo k) ys) v:=by have I:=DE (ν:=μ) (fun _ _ h=>h) _ _ _ h;simp only[bC,bA]at I;simp only[aH]at I⊢;refine⟨I.1,fun e=>(by cases e),fun _ e=>(by cases e),fun _ _ e=>(by cases e),fun bb e=>?_⟩;cases e;simp only[ca]at h⊢;exact h
mutual
def kf:ae->ae
 | .int k n=>.int k n
 | .bool b=>.bool b
 | .str s=>.str s
 | .slice sz _ xs=>.slice sz (.lo dv) (bz xs)
 | .agg cs=>.agg (wy cs)
 | .ptr k o=>.ptr k o
 | .nilp=>.nilp
 |_=>.junk
def wy:List ae->List ae
 |[]=>[]
 |x::xs=>kf x::wy xs
end
mutual
def wz:ae->Prop
 | .slice sz _ xs=>0<sz/\dtL xs
 | .agg cs=>x4 cs
 |_=>True
def x4:List ae->Prop
 |[]=>True
 |x::xs=>wz x/\x4 xs
end
def zW(ν:aP):aP:={ν with tr:=fun k j b=>k=dv/\j=0/\∃o,ν.A b o}
mutual
theorem R2{w:World}{ν:aP}:∀(p:ae) (v:Value),aH w ν p v->wz p->aH w (zW ν) (kf p) v
 | .int k n,v,h,_=>by simpa only[aH,kf]using h
 | .bool b,v,h,_=>by simpa only[aH,kf]using h
 | .str s,v,h,_=>by simpa only[aH,kf]using h
 | .slice sz tag xs,v,h,aF=>by have I:=GM (F:=fun b=> ∃o,ν.A b o) (fun b o h=>⟨o,h⟩) _ v h (by simpa only[b0,wz]using aF);simp only[kf];refine P2 (μ:=zW ν) (tag:= .no) ?_ (sg xs);simp only[bC]at I;exact sT (fun _ _ h=>⟨h,rfl⟩) (fun _ _ _=>rfl) _ _ _ v (fun b ah=>⟨rfl,rfl,ah⟩) I
 | .agg cs,v,h,aF=>by simp only[aH,kf,wz]at h aF⊢;obtain⟨us,I,J⟩:=h;exact⟨us,I,J2 cs _ J aF⟩
 | .ptr k o,v,h,_=>by simp only[aH,kf]at h⊢;exact h
 | .nilp,v,h,_=>by simp only[aH,kf]at h⊢;exact h
 | .junk,_,_,_=>by simp[kf,aH]
 | .eptr _,_,_,_=>by simp[kf,aH]
 | .iface _ _,_,_,_=>by simp[kf,aH]
 | .tuple _,_,_,_=>by simp[kf,aH]
 | .func _ _,_,_,_=>by simp[kf,aH]
 | .gmap _,_,_,_=>by simp[kf,aH]
 | .row _ _ _,_,_,_=>by simp[kf,aH]
 | .rptr _ _ _ _ _,_,_,_=>by simp[kf,aH]
 | .hdm _ _,_,_,_=>by simp[kf,aH]
 | .hdi _ _ _,_,_,_=>by simp[kf,aH]
 | .cst _,_,_,_=>by simp[kf,aH]
theorem J2{w:World}{ν:aP}:∀(cs:List ae) (us:List Value),cl w ν cs us->x4 cs->cl w (zW ν) (wy cs) us
 |[],us,h,_=>by simpa only[cl,wy]using h
 |c::cs,us,h,aF=>by simp only[cl,wy,x4]at h aF⊢;obtain⟨u,br,I,⟨J,ao⟩,aO⟩:=h;exact⟨u,br,I,⟨R2 c u J aF.1,ao⟩,J2 cs br aO aF.2⟩
end
def Fz(l:List (Nat×ae)):List (Nat×ae):=l.map fun x=>(x.1,kf x.2)
def Cu(l:List (aC×List ae)):List (aC×List ae):=l.map fun x=>(x.1,wy x.2)
def tu(st:aS):aS:=⟨Fz st.t,Cu st.b,[],st.n,dv::st.o⟩
def Fy:List (Nat×ae)->Prop
 |[]=>True
 |(_,p)::r=>wz p/\Fy r
def Fx:List (aC×List ae)->Prop
 |[]=>True
 |(_,cs)::r=>(gn cs=true/\x4 cs)/\Fx r
def Fw(st:aS):Prop:=dv∉st.o/\Fy st.t/\Fx st.b
theorem G9{f:ae->ae}(aw:f .junk= .junk)(i:Nat):∀l:List (Nat×ae),get i (l.map fun x=>(x.1,f x.2))=f (get i l)
 |[]=>by simp[get,aw]
 |(j,p)::r=>by
  simp only[gY,get];split
  ·rfl
  ·exact G9 aw i r
theorem EA{f:List ae->List ae}(k:aC):∀l:List (aC×List ae),look k (l.map fun x=>(x.1,f x.2))=(look k l).map f
 |[]=>rfl
 |(j,p)::r=>by
  simp only[gY,look];split
  ·rfl
  ·exact EA k r
theorem R1:∀{l:List (Nat×ae)} (i:Nat),Fy l->wz (get i l)
 |[],_,_=>by simp[get,wz]
 |(j,p)::r,i,h=>by
  simp only[get];split
  ·exact h.1
  ·exact R1 i h.2
theorem R0:∀{l:List (aC×List ae)} {k:aC} {cs:List ae},Fx l->look k l=some cs->gn cs=true/\x4 cs
 |[],_,_,_,h=>by simp[look]at h
 |(j,p)::r,k,cs,h,aa=>by
  simp only[look]at aa;split at aa
  ·cases aa;exact h.1
  ·exact R0 h.2 aa
theorem ac6{C:ek}{st:aS}{a:Act}{w:World}{ν:aP}(h:bX C st a w ν)(hex:C.ex=[])(aE:Fw st):bX C (tu st) a w (zW ν):=by
 obtain⟨cN,c2,c3⟩:=aE;obtain⟨gy,fx,_⟩:=h.new dv ⟨trivial,cN⟩;have ha:∀k cs,look k (Cu st.b)=some cs->∃c1,look k st.b=some c1/\cs=wy c1:=fun k cs aa=>by
  rw[Cu,EA]at aa;cases aG:look k st.b with
  |none=>rw[aG]at aa;cases aa
  |some c1=>rw[aG]at aa;cases aa;exact⟨c1,rfl,rfl⟩
 have pI:∀k,(look k (Cu st.b)).isSome->(look k st.b).isSome:=fun k aa=>by obtain⟨cs,cO⟩:=e5.1 aa;obtain⟨c1,e,_⟩:=ha k cs cO;simp[e]
 refine⟨⟨h.good.alt,fun k cs aa=>?_,fun k bb bl I J=>h.good.inj k bb bl (pI k I) (pI bb J),fun g o aR=>by simp[tu,look]at aR,fun g eM n n' v v' bl aR=>by simp[tu,look]at aR,fun g k n v bl aR=>by simp[tu,look]at aR,h.good.one,fun bl aD k j ah=>?_⟩,
  ⟨h.fr.os,h.fr.tape,h.fr.output,h.fr.size,h.fr.block,h.fr.keep,h.fr.fresh,h.fr.obj,h.fr.obn,h.fr.row,h.fr.obr,fun k j bb eo b I J=>⟨I.1.trans J.1.symm,I.2.1.trans J.2.1.symm⟩,fun k j b ah=>⟨.inl ah.1,?_⟩,fun k j b ah=>by rw[ah.1];exact⟨gy,fx⟩,h.fr.sh,h.fr.nrow⟩,h.defers,h.size,fun i=>?_,fun k aa=>?_,fun x af=>(by rw[hex]at af;cases af),fun m hm aL=>h.obk m hm (qu (cq _) (fun _ h=>by simp[tu,h]) aL)⟩
 ·obtain⟨c1,aj,rfl⟩:=ha k cs aa;obtain⟨bl,us,el,g1,g2,g3,g4,g5⟩:=h.good.box k c1 aj;obtain⟨hD,fN⟩:=R0 c3 aj;rw[na hD]at g5;rw[nD hD]at g4;have g6:=J2 c1 _ g5 fN;have o5:=tq g6;exact⟨bl,us,el,g1,g2,g3,by rw[nD o5];exact g4,by rw[na o5];exact g6⟩
 ·obtain⟨_,_,o,ak⟩:=ah;rcases aD with⟨bb,aj,aJ⟩|⟨g,n,v,aj,_⟩
  ·obtain⟨c1,gP⟩:=e5.1 (pI bb aj);obtain⟨gH,us,el,g1,g2,g3,_⟩:=h.good.box bb c1 gP;rw[show(zW ν).bx bb=ν.bx bb from rfl,g1]at aJ;cases aJ;exact g3 o ak
  ·simp[tu,look]at aj
 ·obtain⟨_,_,o,ak⟩:=ah;exact h.good.alt b o ak
 ·show aH w (zW ν) (get i (Fz st.t)) _;rw[Fz,G9 (by simp[kf])];exact R2 _ _ (h.slot i) (R1 i c2)
 ·obtain⟨bR,cA⟩:=aa;have dE:k≠dv/\k∉st.o:=by simpa[tu]using cA
  obtain⟨m1,m2,_⟩:=h.new k ⟨bR,dE.2⟩;exact⟨m1,m2,fun j b ah=>dE.1 ah.1⟩
end
section
open Go Go.RowKit
theorem PZ{w:World}{A A':Nat->Nat->Prop}{b:Nat}(aW:∀o,A b o->A' b o):∀(us:List Value) (off:Nat),jI w A b off us->jI w A' b off us
 |[],_,_=>trivial
 |_::us,off,h=>⟨⟨aW _ h.1.1,h.1.2⟩,PZ aW us (off+1) h.2⟩
mutual
theorem DD{t:Bool}{w:World}{A A':Nat->Nat->Prop}:∀(p:ae) (F:Nat->Prop) (v:Value),(∀b o,F b->A b o->A' b o)->ca t w A F p v->ca t w A' F p v
 | .int k n,_,_,_,h=>by simp only[ca]at h⊢;exact h
 | .bool b,_,_,_,h=>by simp only[ca]at h⊢;exact h
 | .str s,_,_,_,h=>by simp only[ca]at h⊢;exact h
 | .slice sz tag xs,F,v,aW,h=>by
  simp only[ca]at h⊢;obtain⟨a,cap,I,J,ao,aO⟩:=h;refine⟨a,cap,I,J,ao,?_⟩;rcases aO with aO|⟨b,off,us,G,aj,aJ,bs,ch,fa,dd⟩
  ·exact .inl aO
  ·exact .inr ⟨b,off,us,G,aj,aJ,bs,PZ (fun o=>aW b o aJ) _ _ ch,fa,Ny sz xs G us (fun c o aE=>aW c o (bs c aE).1) dd⟩
 | .agg cs,F,v,aW,h=>by simp only[ca]at h⊢;obtain⟨us,I,J⟩:=h;exact⟨us,I,Nz cs F _ aW J⟩
 | .junk,_,_,_,h=>by simp[ca]at h
 | .ptr _ _,_,_,_,h=>by simp[ca]at h
 | .eptr _,_,_,_,h=>by simp[ca]at h
 | .iface _ _,_,_,_,h=>by simp[ca]at h
 | .nilp,_,_,_,h=>by simp[ca]at h
 | .tuple _,_,_,_,h=>by simp[ca]at h
 | .func _ _,_,_,_,h=>by simp[ca]at h
 | .gmap _,_,_,_,h=>by simp[ca]at h
 | .row _ _ _,_,_,_,h=>by simp[ca]at h
 | .rptr _ _ _ _ _,_,_,_,h=>by simp[ca]at h
 | .hdm _ _,_,_,_,h=>by simp[ca]at h
 | .hdi _ _ _,_,_,_,h=>by simp[ca]at h
 | .cst _,_,_,_,h=>by simp[ca]at h
theorem Nz{t:Bool}{w:World}{A A':Nat->Nat->Prop}:∀(cs:List ae) (F:Nat->Prop) (us:List Value),(∀b o,F b->A b o->A' b o)->jA t w A F cs us->jA t w A' F cs us
 |[],_,_,_,h=>by simp only[jA]at h⊢;exact h
 |c::cs,F,us,aW,h=>by simp only[jA]at h⊢;obtain⟨u,br,fR,fS,I,⟨J,ao,aO⟩,⟨bp,cj⟩,eu⟩:=h;exact⟨u,br,fR,fS,I,⟨J,ao,aO⟩,⟨DD c fR u (fun b o ah=>aW b o (J b ah)) bp,cj⟩,Nz cs fS br (fun b o ah=>aW b o (ao b ah)) eu⟩
theorem Ny{t:Bool}{w:World}{A A':Nat->Nat->Prop}(sz:Nat):∀(cs:List ae) (F:Nat->Prop) (us:List Value),(∀b o,F b->A b o->A' b o)->iG t w A F sz cs us->iG t w A' F sz cs us
 |[],_,_,_,h=>by simp only[iG]at h⊢;exact h
 |c::cs,F,us,aW,h=>by simp only[iG]at h⊢;obtain⟨u,br,fR,fS,I,⟨J,ao,aO⟩,⟨bp,cj⟩,eu⟩:=h;exact⟨u,br,fR,fS,I,⟨J,ao,aO⟩,⟨DD c fR u (fun b o ah=>aW b o (J b ah)) bp,cj⟩,Ny sz cs fS br (fun b o ah=>aW b o (ao b ah)) eu⟩
end
mutual
def iY(N:List (aC×Nat)):ae->ae
 | .int k n=>.int k n
 | .bool b=>.bool b
 | .str s=>.str s
 | .slice sz tag xs=>match tag with
  | .tr k j=>if(k,j)∈N then .junk else .slice sz (.tr k j) (bz xs)
  | .lo k=>if(k,0)∈N then .junk else .slice sz (.lo k) (bz xs)
  | .nil=>.slice sz .nil []
  |_=>match xs with
   |[]=>.slice sz .no []
   |_=>.junk
 | .agg cs=>.agg (nW N cs)
 | .tuple cs=>.tuple (nW N cs)
 | .ptr k o=>.ptr k o
 | .nilp=>.nilp
 |_=>.junk
def nW(N:List (aC×Nat)):List ae->List ae
 |[]=>[]
 |x::xs=>iY N x::nW N xs
end
def kg(ν:aP)(N:List (aC×Nat))(ω:Nat->aT (Nat×Value)):aP:={A:=fun b o=>ν.A b o/\¬ka ν N b,bx:=ν.bx,ow:=fun k=>match k with| .obj m=>(match ω m with|some x=>some x|none=>ν.ow k)|k=>ν.ow k,tr:=fun k j b=>ν.tr k j b/\(k,j)∉N}
section
variable {w:World} {ν:aP} {N:List (aC×Nat)} {ω:Nat->aT (Nat×Value)} (fo:∀k j bb eo b,ν.tr k j b->ν.tr bb eo b->k=bb/\j=eo)
include fo
theorem Sp{k:aC}{j:Nat}(aK:(k,j)∉N){b o:Nat}(ah:ν.tr k j b)(aW:ν.A b o):(kg ν N ω).A b o:=by refine⟨aW,?_⟩;rintro⟨bb,eo,I,J⟩;obtain⟨rfl,rfl⟩:=fo k j bb eo b ah J;exact aK I
mutual
theorem F1:∀(p:ae) (v:Value),aH w ν p v->aH w (kg ν N ω) (iY N p) v
 | .int k n,v,h=>by simpa only[aH,iY]using h
 | .bool b,v,h=>by simpa only[aH,iY]using h
 | .str s,v,h=>by simpa only[aH,iY]using h
 | .slice sz tag xs,v,h=>by
  simp only[aH]at h;obtain⟨⟨a,cap,I,J,ao,aO⟩,bp,_,eu,gB⟩:=h;have rL:xs=[]->aH w (kg ν N ω) (.slice sz .no []) v:=fun e=>by subst e;simp only[aH];exact⟨⟨a,cap,I,J,ao,.inl trivial⟩,fun e=>(by cases e),fun _ e=>(by cases e),fun _ _ e=>(by cases e),fun _ e=>(by cases e)⟩
  simp only[iY];cases tag with
  |tr k j=>
   simp only;split
   ·simp[aH]
   ·rename_i aK;refine FH (tag:= .no) ?_ (sg xs);refine sT (A:=(kg ν N ω).A) (fun _ _ h=>⟨h,rfl⟩) (fun _ _ _=>rfl) _ (ν.tr k j) _ v (fun b ah=>⟨ah,aK⟩) ?_;exact DD _ _ v (fun b o ah aW=>Sp fo aK ah aW) (AY .no v (eu k j rfl))
  |lo k=>
   simp only;split
   ·simp[aH]
   ·rename_i aK;refine P2 (tag:= .no) ?_ (sg xs);refine sT (A:=(kg ν N ω).A) (fun _ _ h=>⟨h,rfl⟩) (fun _ _ _=>rfl) _ (ν.tr k 0) _ v (fun b ah=>⟨ah,aK⟩) ?_;exact DD _ _ v (fun b o ah aW=>Sp fo aK ah aW) (AY .no v (gB k rfl))
  |nil=>have e:=bp rfl;subst e;simp only[aH];exact⟨⟨none,0,rfl,Ψ,Ψ,Ψ⟩,Ψ,fun _ e=>(by cases e),fun _ _ e=>(by cases e),fun _ e=>(by cases e)⟩
  |no=>
   simp only;split
   ·exact rL rfl
   ·simp[aH]
  |own g=>
   simp only;split
   ·exact rL rfl
   ·simp[aH]
 | .agg cs,v,h=>by simp only[aH,iY]at h⊢;obtain⟨us,I,J⟩:=h;exact⟨us,I,F2 cs _ J⟩
 | .tuple cs,v,h=>by simp only[aH,iY]at h⊢;obtain⟨us,I,J⟩:=h;exact⟨us,I,Lj cs _ J⟩
 | .ptr k o,v,h=>by simp only[aH,iY]at h⊢;exact h
 | .nilp,v,h=>by simp only[aH,iY]at h⊢;exact h
 | .junk,_,_=>by simp[iY,aH]
 | .eptr _,_,_=>by simp[iY,aH]
 | .iface _ _,_,_=>by simp[iY,aH]
 | .func _ _,_,_=>by simp[iY,aH]
 | .gmap _,_,_=>by simp[iY,aH]
 | .row _ _ _,_,_=>by simp[iY,aH]
 | .rptr _ _ _ _ _,_,_=>by simp[iY,aH]
 | .hdm _ _,_,_=>by simp[iY,aH]
 | .hdi _ _ _,_,_=>by simp[iY,aH]
 | .cst _,_,_=>by simp[iY,aH]
theorem F2:∀(cs:List ae) (us:List Value),cl w ν cs us->cl w (kg ν N ω) (nW N cs) us
 |[],us,h=>by simpa only[cl,nW]using h
 |c::cs,us,h=>by simp only[cl,nW]at h⊢;obtain⟨u,br,I,⟨J,ao⟩,aO⟩:=h;exact⟨u,br,I,⟨F1 c u J,ao⟩,F2 cs br aO⟩
theorem Lj:∀(cs:List ae) (us:List Value),cc w ν cs us->cc w (kg ν N ω) (nW N cs) us
 |[],us,h=>by simpa only[cc,nW]using h
 |c::cs,us,h=>by simp only[cc,nW]at h⊢;obtain⟨u,br,I,J,aO⟩:=h;exact⟨u,br,I,F1 c u J,Lj cs br aO⟩
end
end
end
end Go.Pv
