/- A tree of blocks under a name taken back: its blocks are rows of the frame's own from here on. -/
import Derived.Deep.LoopGhost
import Derived.Test.YtlnndmgfngfeiaaGreatDoorZn3
set_option linter.all false
set_option maxHeartbeats 4000000
set_option maxRecDepth 4000
open Array renaming getD_eq_getD_getElem?->pO,getElem?_eq_getElem->pP,replicate->rs
open Bool renaming and_eq_true->bJ,false_eq_true->kG,not_eq_true'->sG
open Go renaming Program->bS,TypeId->fX
open Go.Region renaming binds->uq,ready->ur
open Go.Result renaming andThen_ok->fw
open Go.Sem renaming run_bind->fu,run_pure->gq
open Go.Value renaming cells->nO
open List renaming all_eq_true->ji,append_assoc->lr,cons_append->dF,drop_eq_getElem_cons->pR,eq_nil_of_length_eq_zero->sI,getElem?_append_left->qB,getElem?_drop->mb,getElem?_eq_getElem->cL,getElem?_eq_some_iff->fo,length_append->gx,length_cons->gg,length_nil->mJ,map_cons->fF,mem_append->hl,mem_append_left->ni,mem_append_right->k2,mem_cons->gy,mem_map->nj,nil_append->eE,nodup_append->qC
open List.Nodup renaming length_le_of_subset->alA
open List.cons renaming injEq->sH
open Nat renaming le_refl->cc,lt_or_ge->mc,zero_le->pT
open Option renaming getD_some->qD,isSome_iff_exists->fv,isSome_none->uu,map_eq_some_iff->iN,map_some->lM
open Option.some renaming inj->gB,injEq->ei
open Prod.mk renaming injEq->gY
open _root_ renaming False->dr,Option->aW,UInt8->aj,beq_iff_eq->eA,decide_eq_true_eq->fs,if_neg->br
namespace Go.Pv
section
open Go Go.RowKit
mutual
def gM(N:List aC):ae->ae
 | .slice sz (.tr k j) xs=>if k∈N\/k=cY then .slice sz .no (fL N xs)else .slice sz (.tr k j) (bC xs)
 | .slice sz (.own k) xs=>.slice sz (.own k) (fL N xs)
 | .slice sz .nil xs=>.slice sz .nil (fL N xs)
 | .slice sz .no xs=>.slice sz .no (fL N xs)
 | .slice sz (.lo _) xs=>.slice sz .no (fL N xs)
 | .agg cs=>.agg (fL N cs)
 | .eptr x=>.eptr (gM N x)
 | .iface t x=>.iface t (gM N x)
 | .tuple vs=>.tuple (fL N vs)
 | .func f dP=>.func f (fL N dP)
 |p=>p
def fL(N:List aC):List ae->List ae
 |[]=>[]
 |x::xs=>gM N x::fL N xs
end
theorem y3(N:List aC):∀xs,(fL N xs).length=xs.length
 |[]=>rfl
 |x::xs=>by simp[fL,y3 N xs]
section
variable {w:World} {ν μ:aQ} {N:List aC} (bf:∀b o,ν.A b o->μ.A b o) (ah:μ.bx=ν.bx) (aq:μ.ow=ν.ow) (aE:∀k,k∉N->∀j b,ν.tr k j b->μ.tr k j b)
 (fR:∀k j bn eQ b,ν.tr k j b->ν.tr bn eQ b->k=bn/\j=eQ)
include bf ah aq aE fR
mutual
theorem B2:∀(p:ae) (v:Value),aJ w ν p v->aJ w μ (gM N p) v
 | .junk,_,_=>by simp[gM,aJ]
 | .int _ _,_,h=>by simpa only[gM,aJ]using h
 | .bool _,_,h=>by simpa only[gM,aJ]using h
 | .str _,_,h=>by simpa only[gM,aJ]using h
 | .slice sz tag xs,v,h=>by
  have hw:=h;simp only[aJ]at h;obtain⟨I,J,au,aP,bA⟩:=h;obtain⟨a0,Qj,b0,cS,dT,dY⟩:=I;have gT:∃a cap,v= .slice a (fL N xs).length cap/\(fL N xs).length<=cap/\(cap<=maxLen/\(fL N xs).length<=aR)/\(fL N xs=[]\/ ∃b off us,a=some ⟨b,off,none⟩/\kg w μ.A b off us/\cV w μ sz (fL N xs) us):=by
   refine⟨a0,Qj,by rw[y3];exact b0,by rw[y3];exact cS,by rw[y3];exact dT,?_⟩;rcases dY with aP|⟨b,off,us,ao,aL,bB⟩
   ·exact .inl (by rw[aP];rfl)
   ·exact .inr ⟨b,off,us,ao,x6 (fun b o h=>⟨bf b o h,rfl⟩) _ _ aL,Na sz xs us bB⟩
  cases tag with
  |no=>simp only[gM,aJ];exact⟨gT,fun e=>(by cases e),fun _ e=>(by cases e),fun _ _ e=>(by cases e),fun _ e=>(by cases e)⟩
  |lo k=>simp only[gM,aJ];exact⟨gT,fun e=>(by cases e),fun _ e=>(by cases e),fun _ _ e=>(by cases e),fun _ e=>(by cases e)⟩
  |nil=>simp only[gM,aJ];exact⟨gT,fun _=>J rfl,fun _ e=>(by cases e),fun _ _ e=>(by cases e),fun _ e=>(by cases e)⟩
  |own k=>simp only[gM,aJ];refine⟨gT,fun e=>(by cases e),fun g e=>?_,fun _ _ e=>(by cases e),fun _ e=>(by cases e)⟩;rw[aq,y3];exact au g e
  |tr k j=>
   simp only[gM];by_cases ab:k∈N\/k=cY
   ·rw[if_pos ab];simp only[aJ];exact⟨gT,fun e=>(by cases e),fun _ e=>(by cases e),fun _ _ e=>(by cases e),fun _ e=>(by cases e)⟩
   ·rw[br ab];have gS:=not_or.1 ab;have aK:=Hv fR _ v hw (by simp only[dO];exact gS.2) (by simp[tn]);have jH:=uU (A':=μ.A) (fun b o h=>⟨bf b o h,rfl⟩) (fun _ _ _=>rfl) _ _ (μ.tr k j) _ (fun b ah=>by obtain⟨bn,i,hm,ah⟩:=ah;simp only[tn,List.mem_singleton,gY]at hm;obtain⟨rfl,rfl⟩:=hm;exact aE _ gS.1 _ _ ah) aK
    simp only[bD]at jH;exact Ip jH (ug xs)
 | .agg cs,v,h=>by simp only[aJ,gM]at h⊢;obtain⟨us,I,J⟩:=h;exact⟨us,I,Nc cs _ J⟩
 | .ptr key off,v,h=>by simp only[aJ,gM]at h⊢;rw[ah];exact h
 | .eptr x,v,h=>by simp only[aJ,gM]at h⊢;obtain⟨b,off,u,I,J,au⟩:=h;exact⟨b,off,u,I,B2 x u J,x6 (fun b o h=>⟨bf b o h,rfl⟩) _ _ au⟩
 | .iface t x,v,h=>by simp only[aJ,gM]at h⊢;obtain⟨u,I,J⟩:=h;exact⟨u,I,B2 x u J⟩
 | .nilp,_,h=>by simpa only[gM,aJ]using h
 | .tuple vs,v,h=>by simp only[aJ,gM]at h⊢;obtain⟨us,I,J⟩:=h;exact⟨us,I,EK vs _ J⟩
 | .func f dP,v,h=>by simp only[aJ,gM]at h⊢;obtain⟨us,I,J⟩:=h;exact⟨us,I,EK dP _ J⟩
 | .gmap key,v,h=>by simp only[aJ,gM]at h⊢;rw[ah];exact h
 | .row sz k n,v,h=>by simp only[aJ,gM]at h⊢;rw[aq];exact h
 | .rptr sz k n i f,v,h=>by simp only[aJ,gM]at h⊢;rw[aq];exact h
 | .hdm _ _,_,h=>by simp only[aJ]at h
 | .hdi _ _ _,_,h=>by simp only[aJ]at h
 | .cst _,_,h=>by simpa only[gM,aJ]using h
theorem Nc:∀(cs:List ae) (us:List Value),ck w ν cs us->ck w μ (fL N cs) us
 |[],_,h=>by simpa only[fL,ck]using h
 |c::cs,us,h=>by simp only[ck,fL]at h⊢;obtain⟨u,bE,I,J,au⟩:=h;exact⟨u,bE,I,⟨B2 c u J.1,J.2⟩,Nc cs bE au⟩
theorem EK:∀(cs:List ae) (us:List Value),cz w ν cs us->cz w μ (fL N cs) us
 |[],_,h=>by simpa only[fL,cz]using h
 |c::cs,us,h=>by simp only[cz,fL]at h⊢;obtain⟨u,bE,I,J,au⟩:=h;exact⟨u,bE,I,B2 c u J,EK cs bE au⟩
theorem Na(sz:Nat):∀(cs:List ae) (us:List Value),cV w ν sz cs us->cV w μ sz (fL N cs) us
 |[],_,h=>by simpa only[fL,cV]using h
 |c::cs,us,h=>by simp only[cV,fL]at h⊢;obtain⟨u,bE,I,⟨J,vW⟩,au⟩:=h;exact⟨u,bE,I,⟨B2 c u J,vW⟩,Na sz cs bE au⟩
end
theorem ai6{cs:List ae}{us:List Value}(h:iw w ν cs us):iw w μ (fL N cs) us:=by
 have bR:∀c:ae,(∀a b,c≠ .hdm a b)->(∀a b d,c≠ .hdi a b d)->(∀a b,gM N c≠ .hdm a b)/\(∀a b d,gM N c≠ .hdi a b d):=by
  intro c I J;cases c with
  |slice sz tag xs=>cases tag<;>simp only[gM]<;>first|(split<;>simp)|simp
  |hdm a b=>exact absurd rfl (I a b)
  |hdi a b d=>exact absurd rfl (J a b d)
  |_=>simp[gM]
 unfold iw at h;split at h
 ·simp only[fL,gM,iw];exact⟨EK bf ah aq aE fR _ _ h.1,⟨by rw[y3];exact h.2.len,h.2.inc,h.2.lt⟩⟩
 ·simp only[fL,gM,iw];exact EK bf ah aq aE fR _ _ h
 ·rename_i hi gd;have hr:=Nc bf ah aq aE fR _ _ h;rw[l4]
  ·exact hr
  ·exact vk hr
end
theorem ZV(N:List aC)(cs:List ae)(us:Array Value)(el:fX):jr (fL N cs) us el=jr cs us el:=by
 cases cs with
 |nil=>rfl
 |cons c r=>
  cases c with
  |slice sz tag xs=>
   cases tag with
   |tr k j=>by_cases ab:k∈N\/k=cY<;>simp[fL,gM,jr,ab]
   |_=>rfl
  |_=>rfl
def CS(N:List aC)(l:List (Nat×ae)):List (Nat×ae):=l.map fun x=>(x.1,gM N x.2)
def CQ(N:List aC)(l:List (aC×List ae)):List (aC×List ae):=l.map fun x=>(x.1,fL N x.2)
def FB(N:List aC)(o:dn):dn:=⟨o.n,o.el,o.sz,o.xs.map (fL N)⟩
def AE(N:List aC)(rw:List aC)(l:List (aC×dn)):List (aC×dn):=(l.filter fun x=>decide (x.1∉rw)).map fun x=>(x.1,FB N x.2)
theorem R4(N:List aC)(i:Nat):∀l,get i (CS N l)=gM N (get i l)
 |[]=>by simp[CS,get,gM]
 |(j,p)::r=>by
  have aX:=R4 N i r;simp only[CS,fF,get]at aX⊢;split
  ·rfl
  ·exact aX
theorem LW(N:List aC)(k:aC):∀l,look k (CQ N l)=(look k l).map (fL N)
 |[]=>rfl
 |(j,p)::r=>by
  have aX:=LW N k r;simp only[CQ,fF,look]at aX⊢;split
  ·rfl
  ·exact aX
theorem LX(N rw:List aC)(k:aC):∀l,look k (AE N rw l)=if k∈rw then none else(look k l).map (FB N)
 |[]=>by simp[AE,look]
 |(j,p)::r=>by
  have aX:=LX N rw k r;simp only[AE]at aX⊢;by_cases ai:j∈rw
  ·rw[List.filter_cons_of_neg (by simpa using ai),aX];simp only[look];by_cases ab:k∈rw
   ·simp[ab]
   ·have:j≠k:=fun e=>ab (e▸ai);simp[ab,this]
  ·rw[List.filter_cons_of_pos (by simpa using ai)];simp only[fF,look];by_cases e:j=k
   ·subst e;simp[ai]
   ·rw[br e,aX,br e]
def AU(st:aU)(p:ae):List aC:=(cC st.e p).map (·.1)
def xA(st:aU)(s:Nat):aU:=⟨put s (fold st.n st.e 0 (get s st.t)) (CS (AU st (get s st.t)) st.t),CQ (AU st (get s st.t)) st.b,AE (AU st (get s st.t)) (cb (get s st.t)) st.e,st.n+1,st.o⟩
def zb(ob:List aC)(st:aU)(s:Nat):Prop:=cX st.e (get s st.t)/\(cC st.e (get s st.t)).Nodup/\(cb (get s st.t)).Nodup/\ .loc st.n∉st.o/\(∀k∈AU st (get s st.t),k∉ob)/\∀k∈cb (get s st.t),∃j,k= .loc j
def aQ.fd(ν:aQ)(R:Nat->Prop)(rw:List aC)(e:List (aC×dn))(T:List (Nat->Prop))(N:List aC)(n:Nat):aQ:=
 {A:=fun b o=>ν.A b o\/ ∃k,k∈rw/\∃own,look k e=some own/\lj ν k b/\o<own.n*own.sz,
  bx:=ν.bx,ow:=ν.ow,
  tr:=fun k j b=>(k∉N/\ν.tr k j b)\/(k= .loc n/\∃S,T[j]? =some S/\S b)}
theorem RA{C:eK}{st:aU}{a:Act}{w:World}{ν:aQ}(h:cm C st a w ν){s:Nat}(aH:zb C.ob st s):∃ν',cm C (xA st s) a w ν':=by
 obtain⟨ok,nd,rd,tp,S2,SU⟩:=aH;unfold xA;generalize aV:get s st.t=p at ok nd rd S2 SU⊢;have mV:aJ w ν p (a.tmps.getD s undef):=by rw[<-aV];exact h.slot s
 let R:Nat->Prop:=fun b=> ∃k,k∈cb p/\lj ν k b
 have GS:=h.new (.loc st.n) ⟨cc _,tp⟩;have fW:∀k b,k∈cb p->lj ν k b->∃own,look k st.e=some own/\C.w0.heap.size<=b/\b<w.heap.size/\(∀k j,¬ν.tr k j b)/\(∀bn,(look bn st.b).isSome->ν.bx bn≠some b)/\∀g n v,(look g st.e).isSome->ν.ow g=some (n,v)->v.ownBlock=some b->g=k:=by rintro k b ab ⟨n,v,I,J⟩;obtain⟨own,lB⟩:=Ej _ ok k ab;obtain⟨j,rfl⟩:=SU k ab;exact⟨own,lB,h.fr.nrow j n v b I J,h.good.ownLt lB I J,h.good.otr b (.inr ⟨_,_,_,by simp[lB],I,J⟩),fun bn gS jE=>h.good.obx _ bn _ _ b (by simp[lB]) gS I J jE,fun g n' v' aS ao aL=>h.good.oinj g _ n' n v' v b aS (by simp[lB]) ao I aL J⟩
 have zl:Ai ν R (cb p):=by refine⟨h.fr.trd,fun k bn b ab gS I J=>?_,fun k b ab h=>⟨k,ab,h⟩⟩;obtain⟨n,v,bH,a2⟩:=I;obtain⟨_,cF,_⟩:=fW k b ab ⟨n,v,bH,a2⟩;obtain⟨_,_,_,_,_,_,c2⟩:=fW bn b gS J;exact c2 k n v (by simp[cF]) bH a2
 let N:=AU st p
 let μ:aQ:=ν.fd R (cb p) st.e (ft ν R st.e p) N st.n
 have bf:∀b o,ν.A b o->μ.A b o:=fun b o h=>.inl h;have fR:∀k,k∉N->∀j b,ν.tr k j b->μ.tr k j b:=fun k ab j b ah=>.inl ⟨ab,ah⟩;have zj:∀q v,aJ w ν q v->aJ w μ (gM N q) v:=B2 bf rfl rfl fR h.fr.trd;have adO:∀sz q v,cV w ν sz q v->cV w μ sz (fL N q) v:=fun sz=>Na bf rfl rfl fR h.fr.trd sz;have GP:∀(j:Nat) (S:Nat->Prop) (b:Nat),(ft ν R st.e p)[j]? =some S->S b->(∃k∈cb p,lj ν k b)\/ ∃k i,(k,i)∈cC st.e p/\ν.tr k i b:=by
  intro j S b ai ho;rcases B7 _ j S ai b ho with⟨k,ab,I⟩|⟨⟨k,i,I,J⟩,_⟩
  ·exact .inl ⟨k,ab,I⟩
  ·exact .inr ⟨k,i,I,J⟩
 have xT:∀k,(look k (CQ N st.b)).isSome->(look k st.b).isSome:=fun k ab=>by rw[LW]at ab;simpa using ab
 have zo:∀k,(look k (AE N (cb p) st.e)).isSome->k∉cb p/\(look k st.e).isSome:=fun k ab=>by
  rw[LX]at ab;split at ab
  ·cases ab
  ·rename_i e;exact⟨e,by simpa using ab⟩
 have S3:∀g n v b,g∉cb p->(look g st.e).isSome->ν.ow g=some (n,v)->v.ownBlock=some b->∀k∈cb p,¬lj ν k b:=by intro g n v b aS aD ao aL k ab hr;obtain⟨_,_,_,_,_,_,c⟩:=fW k b ab hr;exact aS (c g n v aD ao aL▸ab)
 have aec:aJ w μ (fold st.n st.e 0 p) (a.tmps.getD s undef):=by refine F7 (μ:=μ) h.good zl (fun b bt=>?_) bf (fun k ab own lB b fk o aq=>.inr ⟨k,ab,own,lB,fk,aq⟩) p _ 0 mV ok nd (fun k ab=>ab) (fun i S aw b ho=>.inr ⟨rfl,S,by simpa using aw,ho⟩);obtain⟨k,ab,fk⟩:=bt;obtain⟨_,_,_,_,aP,_⟩:=fW k b ab fk;exact aP
 refine⟨μ,⟨fun bl o bf=>?_,fun k cs ab=>?_,fun k bn bl I J=>h.good.inj k bn bl (xT k I) (xT bn J),fun g o aS=>?_,fun g et n n' v v' bl I J=>h.good.oinj g et n n' v v' bl (zo g I).2 (zo et J).2,fun g k n v bl I J=>h.good.obx g k n v bl (zo g I).2 (xT k J),h.good.one,fun bl aE k j afb=>?_⟩,
  ⟨h.fr.os,h.fr.tape,h.fr.output,h.fr.size,h.fr.block,fun b o bL=>⟨.inl (h.fr.keep b o bL).1,(h.fr.keep b o bL).2⟩,fun b o bL=>?_,h.fr.obj,h.fr.obn,h.fr.row,h.fr.obr,fun k j bn eQ b I J=>?_,fun k j b ah=>?_,fun k j b ah=>?_,h.fr.sh,h.fr.nrow⟩,
  h.defers,h.size,fun i=>?_,fun k ab=>?_,fun x af=>?_,fun m hm aK=>h.obk m hm (rR (Nat.le_succ _) (fun _ h=>h) aK)⟩
 ·rcases bf with bf|⟨k,ab,own,_,fk,_⟩
  ·exact h.good.alt bl o bf
  ·obtain⟨_,_,_,au,_⟩:=fW k bl ab fk;exact au
 ·simp only at ab;rw[LW]at ab;cases aD:look k st.b with
  |none=>rw[aD]at ab;cases ab
  |some ds=>
   rw[aD]at ab;simp only[lM,ei]at ab;subst ab;obtain⟨bl,us,el,ao,aL,bB,b9,ee⟩:=h.good.box k ds aD;refine⟨bl,us,el,ao,aL,fun o bL=>?_,by rw[ZV];exact b9,ai6 bf rfl rfl fR h.fr.trd ee⟩;rcases bL with bL|⟨bn,gS,own,_,fk,_⟩
   ·exact bB o bL
   ·obtain⟨_,_,_,_,_,bA,_⟩:=fW bn bl gS fk;exact bA k (by simp[aD]) ao
 ·simp only at aS;have KA:=zo g (by rw[aS];rfl);rw[LX,br KA.1]at aS;cases aD:look g st.e with
  |none=>rw[aD]at aS;cases aS
  |some oh=>
   rw[aD]at aS;simp only[lM,ei]at aS;subst aS;obtain⟨v,us,ao,aL,bB,b9⟩:=h.good.own g oh aD;have hJ:∀bl,v.ownBlock=some bl->∀j,μ.A bl j->ν.A bl j:=by
    intro bl ah j bL;rcases bL with bL|⟨bn,gS,own,_,fk,_⟩
    ·exact bL
    ·exact absurd fk (S3 g _ v bl KA.1 KA.2 ao ah bn gS)
   refine⟨v,us,ao,aL,fun bl ah=>⟨(bB bl ah).1,fun j bL=>(bB bl ah).2 j (hJ bl ah j bL)⟩,fun xs af=>?_⟩;simp only[FB]at af;cases oL:oh.xs with
   |none=>rw[oL]at af;cases af
   |some ys=>rw[oL]at af;simp only[lM,ei]at af;subst af;obtain⟨f1,f2,f3⟩:=b9 ys oL;exact⟨by rw[y3];exact f1,adO _ _ _ f2,fun bl ah j bL=>f3 bl ah j (hJ bl ah j bL)⟩
 ·have hold:∀k j,¬ν.tr k j bl:=by refine h.good.otr bl (aE.imp (fun⟨k,bH,a2⟩=>⟨k,xT k bH,a2⟩) fun⟨g,n,v,bH,a2,a3⟩=>⟨g,n,v,(zo g bH).2,a2,a3⟩)
  rcases afb with⟨_,ah⟩|⟨_,S,ho,ah⟩
  ·exact hold k j ah
  ·rcases GP j S bl ho ah with⟨bn,gS,hr⟩|⟨bn,i,_,fk⟩
   ·rcases aE with⟨dI,bH,a2⟩|⟨g,n,v,bH,a2,a3⟩
    ·obtain⟨_,_,_,_,_,bA,_⟩:=fW bn bl gS hr;exact bA dI (xT dI bH) a2
    ·exact S3 g n v bl (zo g bH).1 (zo g bH).2 a2 a3 bn gS hr
   ·exact hold bn i fk
 ·rcases bL with bL|⟨k,ab,own,_,fk,_⟩
  ·exact h.fr.fresh b o bL
  ·obtain⟨_,_,J,_⟩:=fW k b ab fk;exact .inr (.inr J)
 ·have mixed:∀(k:aC) (j eQ:Nat) (S:Nat->Prop),k∉N->ν.tr k j b->(ft ν R st.e p)[eQ]? =some S->S b->dr:=by
   intro k j eQ S ab ah ho fk;rcases GP eQ S b ho fk with⟨bn,gS,hr⟩|⟨bn,i,hm,jc⟩
   ·obtain⟨_,_,_,_,aP,_⟩:=fW bn b gS hr;exact aP k j ah
   ·obtain⟨rfl,_⟩:=h.fr.trd k j bn i b ah jc;exact ab (nj.2 ⟨_,hm,rfl⟩)
  rcases I with⟨hi,cq⟩|⟨rfl,S,s1,cq⟩<;>rcases J with⟨gd,cE⟩|⟨rfl,lv,s2,cE⟩
  ·exact h.fr.trd k j bn eQ b cq cE
  ·exact(mixed k j eQ lv hi cq s2 cE).elim
  ·exact(mixed bn eQ j S gd cE s1 cq).elim
  ·exact⟨rfl,ND zl p nd rd (fun k ab=>ab) j eQ S lv s1 s2 b cq cE⟩
 ·rcases ah with⟨_,ah⟩|⟨_,S,ho,ah⟩
  ·exact h.fr.trb k j b ah
  ·rcases GP j S b ho ah with⟨bn,gS,hr⟩|⟨bn,i,hm,jc⟩
   ·obtain⟨_,_,J,au,_⟩:=fW bn b gS hr;exact⟨.inr J,au⟩
   ·have:=h.fr.trb bn i b jc;exact⟨.inr (this.1.resolve_left (My _ ok _ hm)),this.2⟩
 ·rcases ah with⟨_,ah⟩|⟨rfl,_⟩
  ·exact h.fr.trn k j b ah
  ·exact⟨GS.1,GS.2.1⟩
 ·simp only[get_put];split
  ·rename_i e;subst e;exact aec
  ·rw[R4];exact zj _ _ (h.slot i)
 ·have aK:fresh st.n st.o k:=rR (Nat.le_succ _) (fun _ h=>h) ab;obtain⟨hi,gd,jL⟩:=h.new k aK;refine⟨hi,gd,fun j b ah=>?_⟩;rcases ah with⟨_,ah⟩|⟨rfl,_⟩
  ·exact jL j b ah
  ·have:=ab.1;simp only at this;omega
 ·obtain⟨ao,aL⟩:=h.ext x af;refine⟨sb (S:=fun k=>k∉N) (w:=w) (ν:=ν) (w':=w) (ν':=μ) ⟨fun b o h=>⟨.inl h,rfl⟩,fun _ _ _ h=>h,fun g n u _ h=>⟨n,u,h,.inl ⟨rfl,rfl⟩⟩,fun _ _ _=>rfl,fun k j b ab ah=>.inl ⟨ab,ah⟩⟩ _ _ (oQ (fun k ab aM=>S2 k aM ab) _ aL) ao,aL⟩
end
section
open Go Go.RowKit
def B9(m:Nat)(ops:Array Oper):Bool:=(List.range (ops.size-m)).all fun j=>(List.range (m+j)).all fun i=>((oR [] ops.toList).getD (m+j) 0).testBit i
theorem Xr{m:Nat}{ops:Array Oper}(h:B9 m ops=true){k i:Nat}(ab:m<=k)(gj:k<ops.size)(aw:i<k):((oR [] ops.toList).getD k 0).testBit i=true:=by unfold B9 at h;simp only[ji,List.mem_range]at h;have:=h (k-m) Ω i Ω;rwa[show m+(k-m)=k by omega]at this
theorem HQ{ops:Array Oper}{listed:Array Bool}(dz:listed.size=ops.size){i:Nat}(aw:i∈ur .any ops listed):∃h:i<ops.size,listed.getD i false=false/\∀e∈(ops[i]'h).after.toList,uq .any e=true->listed.getD e.on false=true:=by
 unfold ur at aw;simp only[List.mem_filter,List.mem_range,bJ,sG]at aw;obtain⟨I,J,au⟩:=aw;refine⟨I,?_,fun e he ah=>?_⟩
 ·simp only[pO]at J⊢;rw[pP Ω]at J⊢;simpa using J
 ·rw[pP I]at au;simp only[lM,qD]at au;rw[<-Array.all_toList,ji]at au;simpa[ah]using au e he
theorem xc.set{ops:Array Oper}{listed:Array Bool}{i:Nat}(aw:i<listed.size)(aI:xc ops listed)(xO:∀o,ops[i]? =some o->∀e∈o.after.toList,uq .any e=true->listed.getD e.on false=true):xc ops (listed.setIfInBounds i true):=by
 intro k o ab aD e he ah;rw[xE aw]at aD⊢;split
 ·rfl
 ·by_cases lU:i=k
  ·subst lU;exact xO o ab e he ah
  ·rw[br lU]at aD;exact aI k o ab aD e he ah
theorem aj7{P:bS}{ops:Array Oper}{m0:Nat}(wA:B9 m0 ops=true)(uW:vS 0 ops.toList=true){Q:Exit->Act->World->Prop}:∀(fuel m:Nat) (listed:Array Bool) (a:Act) (w:World),m0<=m->listed.size=ops.size->xc ops listed->(∀j,j<m->j<ops.size->listed.getD j false=true)->(∀j,m<=j->listed.getD j false=false)->ops.size<=m+fuel->
  wpOps P ops Q (List.range' m (ops.size-m)) a w->wpAny P .any ops Q fuel listed a w:=by
 intro fuel;induction fuel with
 |zero=>
  intro m listed a w hm dz aI aD aM aK hw;have e:ops.size-m=0:=Ω
  rw[e]at hw;refine⟨?_,hw⟩;rw[List.eq_nil_iff_forall_not_mem];intro i aw;obtain⟨I,J,_⟩:=HQ dz aw;rw[aD i Ω I]at J;cases J
 |succ fuel aX=>
  intro m listed a w hm dz aI aD aM aK hw;by_cases anI:ops.size<=m
  ·have e:ops.size-m=0:=Ω
   rw[e]at hw;refine⟨fun _=>hw,fun i aw=>?_⟩;obtain⟨I,J,_⟩:=HQ dz aw;rw[aD i Ω I]at J;cases J
  ·have iS:m<ops.size:=Ω
   have jW:m∈ur .any ops listed:=by
    unfold ur;simp only[List.mem_filter,List.mem_range,bJ,sG];refine⟨iS,?_,?_⟩
    ·have:=aM m (cc _);simp only[pO]at this⊢;rw[pP Ω]at this⊢;simpa using this
    ·rw[pP iS];simp only[lM,qD];rw[<-Array.all_toList,ji];intro e he;by_cases ah:uq .any e=true
     ·have b5:=FQ uW m ops[m] (by simp[iS]) e he ah;have:=aD e.on Ω Ω;simp[this]
     ·simp[ah]
   refine⟨fun h=>(by rw[h]at jW;simp at jW),fun i aw=>?_⟩;obtain⟨I,J,au⟩:=HQ dz aw;have SP:ops[i]? =some ops[i]:=pP I;have aeo:i=m:=by
    rcases Nat.lt_trichotomy i m with h|h|h
    ·rw[aD i h I]at J;cases J
    ·exact h
    ·have:=Hf aI i ops[i] SP au m (Xr wA Ω I h);rw[aM m (cc _)]at this;cases this
   subst aeo;rw[show ops.size-i=(ops.size-(i+1))+1 by omega,List.range'_succ,wpOps_cons]at hw;refine wpOp_mono (fun ch w' pA=>?_) hw;exact aX (i+1) _ ch w' Ω (by simpa using dz) (aI.set Ω fun o aq=>(by rw[SP]at aq;cases aq;exact au)) (fun j ai ig=>(by
     rw[xE Ω];split
     ·rfl
     ·exact aD j Ω ig)) (fun j ai=>(by rw[xE Ω,br Ω];exact aM j Ω)) Ω pA
theorem YQ{P:bS}{bk:List (Nat×dh)}(aE:eW P bk=true){C:eK}{q:Bool}{n0:Nat}{ops:Array Oper}{gs ts:List cU}(hb:ja C.N bk ops.toList (gs++ts) ops.toList=true)(uW:vS 0 ops.toList=true)(DH:yj [] gs (oR [] ops.toList)=true)
  (wA:B9 gs.length ops=true) {K:dk->Prop} {Q:Exit->Act->World->Prop}
  (iE:∀A a w,K A->uy C A a w->wpOps P ops Q (List.range' gs.length (ops.size-gs.length)) a w):
  ∀(fuel:Nat) (listed:Array Bool) (A:dk) (a:Act) (w:World),listed.size=ops.size->xc ops listed->(∀j,gs.length<=j->listed.getD j false=false)->(rem listed 0 gs).length+ts.length<=fuel->uJ P q n0 K (rem listed 0 gs) A->uy C A a w->wpAny P .any ops Q fuel listed a w:=by
 have hlen:gs.length+ts.length=ops.size:=by simpa using C9 hb
 have jG:∀(fuel:Nat) (listed:Array Bool) (A:dk) (a:Act) (w:World),listed.size=ops.size->xc ops listed->(∀j,gs.length<=j->listed.getD j false=false)->rem listed 0 gs=[]->ts.length<=fuel->uJ P q n0 K (rem listed 0 gs) A->uy C A a w->wpAny P .any ops Q fuel listed a w:=by
  intro fuel listed A a w dz aI aM tu aK jU hr;have mm:∀j,j<gs.length->listed.getD j false=true:=fun j ai=>by
   cases ah:listed.getD j false with
   |true=>rfl
   |false=>obtain⟨nk,nQ,g,_,aL,_⟩:=EH Ω ah gs 0 Ω Ω;rw[tu]at aL;simp at aL
  rw[tu]at jU;exact aj7 wA uW fuel gs.length listed a w (cc _) dz aI (fun j ai _=>mm j ai) aM Ω (iE A a w jU hr)
 intro fuel;induction fuel with
 |zero=>intro listed A a w dz aI aM aK jU hr;exact jG 0 listed A a w dz aI aM (sI Ω) Ω jU hr
 |succ fuel aX=>
  intro listed A a w dz aI aM aK jU hr;by_cases tu:rem listed 0 gs=[]
  ·exact jG _ listed A a w dz aI aM tu (by rw[tu]at aK;simpa using aK) jU hr
  have Bc:∃i g,i<gs.length/\gs[i]? =some g/\listed.getD i false=false/\∀j,j<i->listed.getD j false=true:=by
   rcases M5 (l:=listed) gs 0 with h|⟨i,g,I,J,au,aP⟩
   ·exact absurd h tu
   ·exact⟨i,g,I,J,by simpa using au,fun j ai=>by simpa using aP j ai⟩
  refine⟨fun h=>?_,fun i aw=>?_⟩
  ·exfalso;obtain⟨i,g,I,J,au,aP⟩:=Bc;have aw:i<ops.size:=Ω
   have jW:i∈ur .any ops listed:=by
    unfold ur;simp only[List.mem_filter,List.mem_range,bJ,sG];refine⟨aw,?_,?_⟩
    ·simp only[pO]at au⊢;rw[pP Ω]at au⊢;simpa using au
    ·rw[pP aw];simp only[lM,qD];rw[<-Array.all_toList,ji];intro e he;by_cases ah:uq .any e=true
     ·have b5:=FQ uW i ops[i] (by simp[aw]) e he ah;have:=aP e.on Ω;simp[this]
     ·simp[ah]
   rw[h]at jW;simp at jW
  ·obtain⟨I,mT,xO⟩:=HQ dz aw;have aq:ops[i]? =some ops[i]:=pP I;have hH:i<gs.length:=by
    rcases mc i gs.length with h|h
    ·exact h
    ·obtain⟨j,g,nF,l0,zA,an8⟩:=Bc;have:=Hf aI i ops[i] aq xO j (Xr wA h I Ω);rw[zA]at this;cases this
   obtain⟨nk,nQ,g,ao,aL,bB,b9⟩:=EH Ω mT gs 0 Ω Ω;simp only[Nat.sub_zero]at ao b9;rw[aL]at jU;obtain⟨x,af,Kp⟩:=IT nk nQ A (fun y bG=>by
    obtain⟨f1,f2,f3,f4⟩:=b9 y bG;rcases MG DH i g ao y.1 y.2 (by simpa using f3) (by simpa using f1)with h|h
    ·have:=Hf aI i ops[i] aq xO y.1 h;rw[f4]at this;cases this
    ·exact h) jU
   obtain⟨o',g1,g2⟩:=Kg hb i g (by rw[qB hH];exact ao);have:o'=ops[i]:=by rw[Array.getElem?_toList,aq]at g1;exact(gB g1).symm
   subst this;refine OI aE aq g2 af hr fun ch w' cp=>?_;refine aX (listed.setIfInBounds i true) (A.do x) ch w' (by simpa using dz) (aI.set Ω fun o ab=>(by rw[aq]at ab;cases ab;exact xO)) (fun j ai=>(by rw[xE Ω,br Ω];exact aM j ai)) ?_ (by rw[bB];exact Kp) cp;rw[bB];rw[aL]at aK;simp at aK⊢;omega
theorem aa0{P:bS}(hm:P.follows .mixedOrders=true){bk:List (Nat×dh)}(aE:eW P bk=true){C:eK}{q:Bool}{nw:List Nat}{id:Nat}{ops:Array Oper}{gs ts:List cU}(hb:ja C.N bk ops.toList (gs++ts) ops.toList=true)(uW:vS 0 ops.toList=true)(DH:yj [] gs (oR [] ops.toList)=true)
  (wA:B9 gs.length ops=true) (hG:xv C.N gs=true)
  {K1:aU->Prop} {Q:Exit->Act->World->Prop}
  (iE:∀st' ch w' ν',K1 st'->cm C st' ch w' ν'->wpOps P ops Q (List.range' gs.length (ops.size-gs.length)) ch w')
  {st:aU} {a:Act} {w:World} {ν:aQ} (KP:∀j∈nw,.obj j∉st.o) (he:hF P q nw st.n gs st (pU (st.n+C.N) (nw.map aC.obj++st.o) K1)) (hr:cm C st a w ν):(Code.region id ops true).wp P Q a w:=by
 refine wp_region_any hm ?_;have cp:cm C st a {w with drawn:=w.drawn+1} ν:=hr.drawn _;let A:dk:=⟨fun i=>get i st.t,fun k=>look k st.b,fun k=>look k st.e,fresh st.n st.o⟩
 have iG:rz nw st.n C.N st.o st A:=⟨⟨fun _=>rfl,fun _=>rfl,fun _=>rfl⟩,rfl,fun k ab _=>ab,fun k ab=>.inl ab⟩;have jU:=AO gs 0 hG st A iG (fun j ai _ _=>⟨trivial,KP j ai⟩) he;have jX:∀j,(rs ops.size false).getD j false=false:=fun j=>by simp[pO,Array.getElem?_replicate];split<;>rfl
 refine YQ aE hb uW DH wA (q:=q) (n0:=st.n) (K:=fun A'=> ∃st',pU (st.n+C.N) (nw.map aC.obj++st.o) K1 st'/\rz nw st.n C.N st.o st' A') ?_ ops.size _ A a _ Ψ ?_ (fun j _=>jX j) ?_ (by rw[EG gs _ 0 jX];exact jU) ⟨st,ν,iG.like,fun k ab=>ab,cp⟩
 ·rintro A' ch w' ⟨st',ab,bL⟩ ⟨ajM,ν',fe,Kk,kc⟩;refine iE _ ch w' ν' ab ⟨kc.good.like (fun k=>by rw[fe.b,<-bL.like.b]) (fun k=>by rw[fe.e,<-bL.like.e]),kc.fr,kc.defers,kc.size,fun i=>?_,fun k qW=>?_,kc.ext,fun m hm aK=>cp.obk m hm (rR (Nat.le_add_right _ _) (fun _ h=>k2 _ h) aK)⟩
  ·have:=kc.slot i;rw[fe.t,<-bL.like.t]at this;exact this
  ·refine kc.new k (Kk k (bL.F k ?_ fun j ai e=>qW.2 (by subst e;exact ni _ (List.mem_map_of_mem ai))));simp only at qW;refine⟨(rR (Nat.le_add_right st.n C.N) (fun _ h=>h) qW).1,fun jW=>?_⟩;rcases bL.o k jW with h|⟨d,aI,rfl⟩|⟨j,ai,rfl⟩;rotate_left 2
   ·exact qW.2 (ni _ (List.mem_map_of_mem ai))
   ·exact qW.2 (k2 _ h)
   ·have:=qW.1;simp at this;omega
 ·intro k o ab aD;rw[jX]at aD;cases aD
 ·rw[EG gs _ 0 jX];have:∀(gs:List cU) k,(xb k gs).length=gs.length:=by
   intro gs;induction gs with
   |nil=>intro k;rfl
   |cons g r aX=>intro k;simp[xb,aX]
  rw[this];have:=C9 hb;simp at this;omega
def gu:List ae->Prop
 |[]=>True
 |p::bj=>(match p with| .slice _ _ xs=>xs.length<=aR| .str s=>s.length<=aR|_=>True)/\gu bj
def gz:ae->Prop
 | .slice _ _ xs=>xs.length<=aR
 | .str s=>s.length<=aR
 | .agg cs=>gu cs
 |_=>True
def gr:List ae->Prop
 |[]=>True
 |p::r=>gz p/\gr r
theorem Nb{w:World}{ν:aQ}:∀{cs:List ae} {us:List Value},ck w ν cs us->gu cs
 |[],_,_=>trivial
 |c::cs,us,h=>by
  simp only[ck]at h;obtain⟨u,bE,_,I,J⟩:=h;refine⟨?_,Nb J⟩;cases c<;>simp only<;>have au:=I.1<;>simp only[aJ]at au
  ·exact au.2
  ·obtain⟨⟨a,cap,_,_,aP,_⟩,_⟩:=au;exact aP.2
theorem M7{w:World}{ν:aQ}{cs:List ae}{us:List Value}(h:iw w ν cs us):gO cs=true->gu cs:=fun aV=>by rw[l4 aV]at h;exact Nb h
theorem WE{w:World}{ν:aQ}{p:ae}{v:Value}(h:aJ w ν p v):gz p:=by
 cases p<;>simp only[gz]<;>simp only[aJ]at h
 ·exact h.2
 ·obtain⟨⟨a,cap,_,_,aP,_⟩,_⟩:=h;exact aP.2
 ·obtain⟨us,_,J⟩:=h;exact Nb J
theorem Nf{w:World}{ν:aQ}:∀{cs:List ae} {us:List Value},cz w ν cs us->gr cs
 |[],_,_=>trivial
 |c::cs,us,h=>by simp only[cz]at h;obtain⟨u,bE,_,I,J⟩:=h;exact⟨WE I,Nf J⟩
inductive C where
 |skip
 |region (gs:List cU)
 |drawn (q:Bool) (N:Nat) (gs:List cU)
 |drawnW (nw:List Nat) (N:Nat) (gs:List cU)
 |drawnL (q:Bool) (N:Nat) (gs ts:List cU)
 |seq (a b:C)
 |cond (x:dm) (t e:C)
 |block (id:Nat) (c:C)
 |loop (c:C)
 |exit (id:Nat)
 |ret
 |pub (s:Nat) (c:C)
 |pubB (s:Nat) (c:C)
 |fg (qg:Bool) (s:Nat) (c:C)
 |fz (agg:Bool) (s:Nat) (c:C)
 |fd (s:Nat) (c:C)
 |no
def Ew(st:aU):ae->aW (ae×List (aC×dn))
 | .row sz k n=>match look k st.e with
  |some ⟨n',el,dL,some xs⟩=>if n'=n/\dL=sz then some (.slice sz (.own k) xs,dj k ⟨n,el,sz,none⟩ st.e)else none
  |_=>none
 |_=>none
def wQ(st:aU)(s:Nat):aW aU:=
 match Ew st (get s st.t)with
 |some (p,e)=>some {st with t:=put s p st.t,e:=e}
 |none=>none
def BO(st:aU)(s:Nat):aW aU:=
 match get (s%1000) st.t with
 | .ptr k off=>match look k st.b with
  |some cs=>match cs[off+s/1000]? with
   |some p=>match Ew st p with
    |some (nb,e)=>if gO cs then some {st with b:=dj k (cs.set (off+s/1000) nb) st.b,e:=e}else none
    |none=>none
   |none=>none
  |none=>none
 |_=>none
theorem HR{C:eK}{st:aU}{a:Act}{w:World}{ν:aQ}(h:cm C st a w ν){s:Nat}{p:ae}(az:aJ w ν p (a.tmps.getD s undef)):cm C {st with t:=put s p st.t} a w ν:=by
 refine⟨h.good,h.fr,h.defers,h.size,fun i=>?_,h.new,h.ext,h.obk⟩;have:=h.slot i;simp only[get_put];split
 ·rename_i e;subst e;exact az
 ·exact this
theorem VG{C:eK}{st:aU}{a:Act}{w:World}{ν:aQ}(h:cm C st a w ν){p nb:ae}{e:List (aC×dn)}{v:Value}(aV:aJ w ν p v)(he:Ew st p=some (nb,e)):
  ∃ν',cm C {st with e:=e} a w ν'/\aJ w ν' nb v/\mK w ν w ν':=by
 unfold Ew at he;split at he
 ·rename_i sz k n;split at he
  ·rename_i n' el dL xs ab;split at he
   ·rename_i aH;obtain⟨rfl,rfl⟩:=aH;cases he;simp only[aJ]at aV;obtain⟨_,aD,n0,u,I,J,au⟩:=aV;obtain⟨v0,fq,b0,cS,dT,dY⟩:=h.good.own k _ ab;rw[I]at b0;simp only[ei,gY]at b0;obtain⟨rfl,rfl⟩:=b0;have aN:v=u:=au rfl;subst aN;obtain⟨di,_,_⟩:=dY xs rfl;simp only at di;obtain⟨g1,g2⟩:=h.publish ab rfl I (by rw[di];exact aD);refine⟨_,g1,g2,⟨fun b o bf=>⟨.inl bf,rfl⟩,fun j b _ ai=>ai,fun g n u _ jl=>⟨n,u,?_,.inl ⟨rfl,rfl⟩⟩,fun _ _ _=>rfl,fun _ _ _ _ h=>h⟩⟩;simp only[aQ.withRowOf];split
    ·rename_i e;subst e;rw[I]at jl;exact jl
    ·exact jl
   ·cases he
  ·cases he
 ·cases he
def AV(qg:Bool):ae->ae
 | .slice sz tag xs=>.slice sz (if qg then tag else .no) (bC xs)
 |p=>bD p
theorem aco{w:World}{ν:aQ}{qg:Bool}{p:ae}{v:Value}(h:aJ w ν p v):aJ w ν (AV qg p) v:=by
 have I:=yn p v h;cases p with
 |slice sz tag xs=>
  simp only[AV];cases qg with
  |false=>simpa only[kG,if_false,bD]using I
  |true=>
   simp only[if_true];simp only[aJ,bD]at h I⊢;refine⟨I.1,fun e=>h.2.1 e,fun g e=>?_,fun k j e=>?_,fun k e=>?_⟩
   ·obtain⟨n,u,ao,aL,bB⟩:=h.2.2.1 g e;exact⟨n,u,ao,by rw[nc];exact aL,by rw[nc];exact bB⟩
   ·exact C6 _ _ (h.2.2.2.1 k j e)
   ·exact C6 _ _ (h.2.2.2.2 k e)
 |_=>exact I
theorem aif{C:eK}{st st':aU}{a:Act}{w:World}{ν:aQ}(h:cm C st a w ν){s:Nat}(he:wQ st s=some st'):∃ν',cm C st' a w ν':=by
 unfold wQ at he;split at he
 ·rename_i p e aV;cases he;obtain⟨ν',I,J,_⟩:=VG h (h.slot s) aV;exact⟨_,HR I J⟩
 ·cases he
theorem WA{w:World}{ν:aQ}:∀{cs:List ae} {us:List Value} {i:Nat} {p q:ae} {v:Value},ck w ν cs us->cs[i]? =some p->us[i]? =some v->aJ w ν q v->ck w ν (cs.set i q) us
 |[],_,_,_,_,_,_,h,_,_=>by simp at h
 |c::cs,us,0,p,q,v,h,_,aN,bp=>by simp only[ck]at h;obtain⟨u,bE,rfl,I,J⟩:=h;simp only[List.getElem?_cons_zero,ei]at aN;subst aN;simp only[List.set_cons_zero,ck];exact⟨_,_,rfl,⟨bp,I.2⟩,J⟩
 |c::cs,us,i+1,p,q,v,h,aV,aN,bp=>by simp only[ck]at h;obtain⟨u,bE,rfl,I,J⟩:=h;simp only[List.set_cons_succ,ck];exact⟨_,_,rfl,I,WA J (by simpa using aV) (by simpa using aN) bp⟩
theorem aie{C:eK}{st st':aU}{a:Act}{w:World}{ν:aQ}(h:cm C st a w ν){s:Nat}(he:BO st s=some st'):∃ν',cm C st' a w ν':=by
 unfold BO at he;split at he
 ·rename_i k ag0 ab;generalize ag0+s/1000=off at he;split at he
  ·rename_i cs dc;split at he
   ·rename_i p aV;split at he
    ·rename_i nb e KS;split at he
     ·rename_i eM;cases he;obtain⟨bl,us,el,g1,g2,g3,g4,g5⟩:=h.good.box k cs dc;rw[l4 eM]at g5;have b5:off<us.toList.length:=by rw[qo g5];exact(fo.1 aV).1
      obtain⟨v,aN⟩:∃v,us.toList[off]? =some v:=⟨_,cL b5⟩;have K2:aJ w ν p v:=by have:=BY off g5;rw[pR (fo.1 aV).1,pR b5]at this;simp only[ck]at this;obtain⟨u,bE,ao,aL,_⟩:=this;rw[(fo.1 aV).2]at aL;rw[(fo.1 aN).2]at ao;cases ao;exact aL.1
      obtain⟨ν',I,J,au⟩:=VG h K2 KS;have qc:ck w ν' (cs.set off nb) us.toList:=WA (Wz au g5) aV aN J;have Tc:=vk qc;refine⟨ν',⟨I.good.alt,fun j ds ai=>?_,fun j eQ b ai mr=>I.good.inj j eQ b ?_ ?_,I.good.own,I.good.oinj,fun g j n v b aS ai=>I.good.obx g j n v b aS ?_,I.good.one,fun bl ah=>I.good.otr bl (ah.imp (fun⟨bn,bH,a2⟩=>⟨bn,by rw[jK]at bH;split at bH;(rename_i e;subst e;simp[dc]);exact bH,a2⟩) id)⟩,I.fr,I.defers,I.size,I.slot,I.new,I.ext,I.obk⟩
      ·simp only at ai;rw[jK]at ai;split at ai
       ·rename_i e;subst e;cases ai;obtain⟨hx,bE,fj,f1,f2,f3,f4,f5⟩:=I.good.box k cs dc;have:hx=bl:=by have:=au.bx k bl trivial g1;rw[this]at f1;cases f1;rfl
        subst this;rw[mB eM]at g4 f4;rw[g4]at f4;injection f4 with f4;injection f4 with f4 f6 f7;refine⟨hx,us,el,f1,f2,f3,by rw[mB Tc];exact g4,by rw[l4 Tc];exact qc⟩
       ·exact I.good.box j ds ai
      ·simp only at ai;rw[jK]at ai;split at ai
       ·rename_i e;subst e;simp[dc]
       ·exact ai
      ·simp only at mr;rw[jK]at mr;split at mr
       ·rename_i e;subst e;simp[dc]
       ·exact mr
      ·simp only at ai;rw[jK]at ai;split at ai
       ·rename_i e;subst e;simp[dc]
       ·exact ai
     ·cases he
    ·cases he
   ·cases he
  ·cases he
 ·cases he
def uL{α:Type}(k:aC)(l:List (aC×α)):List (aC×α):=match l with
 |[]=>[]
 |(i,x)::r=>if i=k then uL k r else(i,x)::uL k r
theorem LY{α:Type}(k j:aC):∀l:List (aC×α),look j (uL k l)=if j=k then none else look j l
 |[]=>by simp[uL,look]
 |(i,x)::r=>by
  simp only[uL];by_cases h:i=k
  ·subst h;rw[if_pos rfl,LY i j r];by_cases J:j=i
   ·simp[J]
   ·have:¬i=j:=fun e=>J e.symm;simp[look,J,this]
  ·rw[br h];simp only[look];by_cases J:i=j
   ·subst J;simp[h]
   ·simp only[J,if_false];exact LY k j r
def J8(agg:Bool):List ae->aW ae
 |[p]=>if agg then some (.agg [p])else some p
 |cs=>if agg then some (.agg cs)else none
def xB(st:aU)(agg:Bool)(s:Nat):aW aU:=
 match get s st.t with
 | .ptr k 0=>match look k st.b with
  |some cs=>if gO cs then match J8 agg cs with
    |some x=>some {st with t:=put s (.eptr x) st.t,b:=uL k st.b}
    |none=>none
   else none
  |none=>none
 |_=>none
theorem ahZ{u:Value}(h:u.oneCell'=true):u.cells.toList=[u]:=by cases u<;>first|rfl|(simp[Value.oneCell']at h)
theorem Uq{w:World}{A:Nat->Nat->Prop}{b:Nat}{us:Array Value}{el:fX}(ah:w.heap[b]? =some (.cells us el))(bf:∀o,o<us.size->A b o):∀(vs:List Value) (off:Nat),us.toList.drop off=vs->kg w A b off vs
 |[],_,_=>trivial
 |v::vs,off,h=>by
  have b5:off<us.toList.length:=by
   rcases mc off us.toList.length with I|I
   ·exact I
   ·rw[List.drop_eq_nil_of_le I]at h;cases h
  have J:=pR b5;rw[h]at J;injection J with J au;refine⟨⟨bf off (by simpa using b5),?_⟩,Uq ah bf vs (off+1) au.symm⟩;have aeI:off<us.size:=by simpa using b5
  simp only[World.cell?,ah,uu,kG,if_false];rw[J];simp[aeI]
theorem acE{C:eK}{st st':aU}{a:Act}{w:World}{ν:aQ}(h:cm C st a w ν){agg:Bool}{s:Nat}(he:xB st agg s=some st'):∃ν',cm C st' a w ν':=by
 unfold xB at he;split at he
 ·rename_i k ab;split at he
  ·rename_i cs dc;split at he
   ·rename_i eM;split at he
    ·rename_i x af;cases he;obtain⟨bl,us,el,g1,g2,g3,g4,g5⟩:=h.good.box k cs dc;rw[l4 eM]at g5;rw[mB eM]at g4;have b5:bl<w.heap.size:=by
      rcases mc bl w.heap.size with I|I
      ·exact I
      ·rw[Array.getElem?_eq_none I]at g4;cases g4
     let ν':aQ:={ν with A:=fun b o=>ν.A b o\/(b=bl/\o<us.size)}
     have aq:mK w ν w ν':=⟨fun b o bf=>⟨.inl bf,rfl⟩,fun j b _ ai=>ai,fun g n u _ jl=>⟨n,u,jl,.inl ⟨rfl,rfl⟩⟩,fun _ _ _=>rfl,fun _ _ _ _ h=>h⟩;have hS:∀j ds,look j (uL k st.b)=some ds->j≠k/\look j st.b=some ds:=fun j ds ai=>by
      rw[LY]at ai;split at ai
      ·cases ai
      ·rename_i e;exact⟨e,ai⟩
     have qY:∀j,(look j (uL k st.b)).isSome->(look j st.b).isSome:=fun j ai=>by obtain⟨ds,hG⟩:=fv.1 ai;simp[(hS j ds hG).2]
     have oE:∀(g:aC) (n:Nat) (v:Value),(look g st.e).isSome->ν.ow g=some (n,v)->v.ownBlock=some bl->dr:=fun g n v I J au=>h.good.obx g k n v bl I (by simp[dc]) J au g1;have nC:aJ w ν' (.eptr x) (a.tmps.getD s undef):=by
      have az:=h.slot s;rw[ab]at az;simp only[aJ]at az⊢;obtain⟨gV,b0,cS⟩:=az;rw[g1]at b0;cases b0;have aD:kg w ν'.A bl 0 us.toList:=Uq g4 (fun o aq=>.inr ⟨rfl,aq⟩) _ 0 rfl;have g6:ck w ν' cs us.toList:=Wz aq g5;unfold J8 at af;split at af
      ·rename_i p;simp only[ck]at g6;obtain⟨u,bE,ao,aL,bB⟩:=g6;subst bB;split at af
       ·cases af;exact⟨bl,0,.agg us,cS,by simp only[aJ];exact⟨us,rfl,by rw[ao];simp only[ck];exact⟨u,[],rfl,aL,rfl⟩⟩,by simpa[nO]using aD⟩
       ·cases af;refine⟨bl,0,u,cS,aL.1,?_⟩;rw[ahZ aL.2,<-ao];exact aD
      ·split at af
       ·cases af;exact⟨bl,0,.agg us,cS,by simp only[aJ];exact⟨us,rfl,g6⟩,by simpa[nO]using aD⟩
       ·cases af
     refine⟨ν',HR (ν:=ν') (st:={st with b:=uL k st.b}) ⟨⟨fun b o bf=>?_,fun j ds ai=>?_,fun j eQ b I J=>h.good.inj j eQ b (qY j I) (qY eQ J),fun g o aS=>?_,h.good.oinj,fun g j n v b I J=>h.good.obx g j n v b I (qY j J),h.good.one,fun b aE=>h.good.otr b (aE.imp (fun⟨j,bH,a2⟩=>⟨j,qY j bH,a2⟩) id)⟩,⟨h.fr.os,h.fr.tape,h.fr.output,h.fr.size,h.fr.block,fun b o bf=>⟨.inl (h.fr.keep b o bf).1,(h.fr.keep b o bf).2⟩,fun b o bf=>?_,h.fr.obj,h.fr.obn,h.fr.row,h.fr.obr,h.fr.trd,h.fr.trb,h.fr.trn,h.fr.sh,h.fr.nrow⟩,h.defers,h.size,fun i=>wX aq (h.slot i),h.new,fun x af=>⟨wX aq (h.ext x af).1,(h.ext x af).2⟩,h.obk⟩ nC⟩
     ·rcases bf with bf|⟨rfl,_⟩
      ·exact h.good.alt b o bf
      ·exact b5
     ·obtain⟨b7,mr⟩:=hS j ds ai;obtain⟨hx,bE,fj,f1,f2,f3,f4,f5⟩:=h.good.box j ds mr;refine⟨hx,bE,fj,f1,f2,fun o bf=>?_,f4,qn aq f5⟩;rcases bf with bf|⟨rfl,_⟩
      ·exact f3 o bf
      ·exact b7 (h.good.inj j k _ (by simp[mr]) (by simp[dc]) f1 g1)
     ·obtain⟨v0,fq,ao,aL,bB,b9⟩:=h.good.own g o aS;have xJ:∀b,v0.ownBlock=some b->∀j,ν'.A b j->ν.A b j:=fun b ah j bf=>by
       rcases bf with bf|⟨rfl,_⟩
       ·exact bf
       ·exact(oE g _ v0 (by simp[aS]) ao ah).elim
      exact⟨v0,fq,ao,aL,fun b ah=>⟨(bB b ah).1,fun j bf=>(bB b ah).2 j (xJ b ah j bf)⟩,sc aq xJ b9⟩
     ·rcases bf with bf|⟨rfl,_⟩
      ·exact h.fr.fresh b o bf
      ·exact .inr g2
    ·cases he
   ·cases he
  ·cases he
 ·cases he
def ud(st:aU)(x:dm)(b:Bool):aU:=match x with
 | .t i=>{st with t:=put i (.bool b) st.t}
 | .c _=>st
def q8(nw:List Nat)(o:List aC):List Nat:=nw.filter fun j=>decide (aC.obj j∉o)
theorem agG{nw:List Nat}{o:List aC}:∀j∈q8 nw o,aC.obj j∉o:=fun j ai=>by have:=(List.mem_filter.1 ai).2;simpa using this
def cQ(P:bS)(ob:List aC):C->(Exit->aU->Prop)->aU->Prop
 | .skip,Q,st=>Q .normal st
 | .region gs,Q,st=>hh P ob gs st (Q .normal)
 | .drawn q N gs,Q,st=>hF P q [] st.n gs st (pU (st.n+N) st.o (Q .normal))
 | .drawnW nw N gs,Q,st=>hF P false (q8 nw st.o) st.n gs st (pU (st.n+N) ((q8 nw st.o).map aC.obj++st.o) (Q .normal))
 | .drawnL q N gs ts,Q,st=>hF P q [] st.n gs st (pU (st.n+N) st.o (fun st'=>hh P ob ts st' (Q .normal)))
 | .seq a b,Q,st=>cQ P ob a (fun e st'=>match e with| .normal=>cQ P ob b Q st'|e=>Q e st') st
 | .cond x t e,Q,st=>match bP st.t x with
  | .bool b=>(b=true->cQ P ob t Q (ud st x true))/\(b=false->cQ P ob e Q (ud st x false))
  |_=>dr
 | .block id c,Q,st=>cQ P ob c (fun e st'=>match e with| .exit j=>if j=id then Q .normal st' else Q (.exit j) st'|e=>Q e st') st
 | .loop c,Q,st=> ∃(j5:Nat->aU->Prop) (m:Nat) (yt:aU),il ob st yt/\j5 m yt/\
   ∀k s,j5 k s->(∀i,gz (get i s.t))->(∀j cs,look j s.b=some cs->gO cs=true->gu cs)->cQ P ob c (fun e al=>match e with| .normal=> ∃bn pJ,bn<k/\il ob al pJ/\j5 bn pJ|e=>Q e al) s
 | .exit id,Q,st=>Q (.exit id) st
 | .ret,Q,st=>Q .ret st
 | .pub s c,Q,st=>match wQ st s with
  |some st'=>cQ P ob c Q st'
  |none=>dr
 | .pubB s c,Q,st=>match BO st s with
  |some st'=>cQ P ob c Q st'
  |none=>dr
 | .fg qg s c,Q,st=>cQ P ob c Q {st with t:=put s (AV qg (get s st.t)) st.t}
 | .fd s c,Q,st=>zb ob st s/\cQ P ob c Q (xA st s)
 | .fz fi s c,Q,st=>match xB st fi s with
  |some st'=>cQ P ob c Q st'
  |none=>dr
 | .no,_,_=>dr
def gW(N:Nat)(bk:List (Nat×dh)):C->Code->Bool
 | .skip,.skip=>true
 | .region gs,.region _ ops false=>ja N bk ops.toList gs ops.toList
 | .drawn _ N' gs,.region _ ops true=>N'==N&&ja N bk ops.toList gs ops.toList&&CG gs ops.toList&&xv N gs
 | .drawnW _ N' gs,.region _ ops true=>N'==N&&ja N bk ops.toList gs ops.toList&&CG gs ops.toList&&xv N gs
 | .drawnL _ N' gs ts,.region _ ops true=>N'==N&&ja N bk ops.toList (gs++ts) ops.toList&&vS 0 ops.toList&&yj [] gs (oR [] ops.toList)&&xv N gs&&B9 gs.length ops
 | .seq a b,.seq x y=>gW N bk a x&&gW N bk b y
 | .cond x t e,.cond o t' hg=>eC x o&&gW N bk t t'&&gW N bk e hg
 | .block id c,.block D2 hY=>id==D2&&gW N bk c hY
 | .loop c,.loop hY=>gW N bk c hY
 | .exit id,.exit D2=>id==D2
 | .ret,.ret=>true
 | .pub _ c,hY=>gW N bk c hY
 | .pubB _ c,hY=>gW N bk c hY
 | .fg _ _ c,hY=>gW N bk c hY
 | .fz _ _ c,hY=>gW N bk c hY
 | .fd _ c,hY=>gW N bk c hY
 | .no,_=>true
 |_,_=>false
theorem Kh{N:Nat}{bk:List (Nat×dh)}{ops:List Oper}:∀{gs:List cU} {os:List Oper},ja N bk ops gs os=true->gs.length=os.length
 |[],[],_=>rfl
 |[],_::_,h=>by simp[ja]at h
 |_::_,[],h=>by simp[ja]at h
 |g::gs,o::os,h=>by simp only[ja,bJ]at h;simp[Kh h.2]
theorem Si{N:Nat}{bk:List (Nat×dh)}{ops:List Oper}{ts:List cU}:∀(gs:List cU) (os:List Oper),ja N bk ops (gs++ts) os=true->ja N bk ops ts (os.drop gs.length)=true
 |[],os,h=>by simpa using h
 |_::_,[],h=>by simp[ja]at h
 |g::gs,o::os,h=>by simp only[dF,ja,bJ]at h;simpa using Si gs os h.2
def Iz(P:bS)(C:eK)(c:Code)(Q:Exit->aU->Prop)(st:aU):Prop:= ∀a w ν,cm C st a w ν->c.wp P (fun e ch w'=> ∃st' ν',Q e st'/\cm C st' ch w' ν') a w
theorem oD{P:bS}(hm:P.follows .mixedOrders=true){bk:List (Nat×dh)}(aE:eW P bk=true){X:eK}:∀(c:C) (code:Code) (Q:Exit->aU->Prop) (st:aU),gW X.N bk c code=true->cQ P X.ob c Q st->Iz P X code Q st
 | .skip,code,Q,st,aq,he=>by
  cases code<;>simp only[gW]at aq<;>try cases aq
  intro a w ν hr;exact wp_skip ⟨st,ν,he,hr⟩
 | .region gs,code,Q,st,aq,he=>by
  cases code<;>try(simp[gW]at aq;done)
  rename_i id ops draw;cases draw<;>simp only[gW]at aq
  ·intro a w ν hr;refine wp_region ?_;have aD:gs.length=ops.size:=by simpa using Kh aq
   rw[List.range_eq_range',<-aD];exact J0 aE (K:=Q .normal) (fun st' ch w' ν' I J=>⟨st',ν',I,J⟩) gs ops.toList 0 Ψ aq st a w ν he hr
  ·cases aq
 | .drawn q N gs,code,Q,st,aq,he=>by
  cases code<;>try(simp[gW]at aq;done)
  rename_i id ops draw;cases draw<;>simp only[gW]at aq
  ·cases aq
  ·simp only[bJ,eA]at aq;obtain⟨⟨⟨rfl,I⟩,J⟩,au⟩:=aq;intro a w ν hr;exact Q2 hm aE I J au (nw:=[]) (K:=Q .normal) (fun st' ch w' ν' I J=>⟨st',ν',I,J⟩) Ψ he hr
 | .drawnW nw N gs,code,Q,st,aq,he=>by
  cases code<;>try(simp[gW]at aq;done)
  rename_i id ops draw;cases draw<;>simp only[gW]at aq
  ·cases aq
  ·simp only[bJ,eA]at aq;obtain⟨⟨⟨rfl,I⟩,J⟩,au⟩:=aq;intro a w ν hr;exact Q2 hm aE I J au (nw:=q8 nw st.o) (K:=Q .normal) (fun st' ch w' ν' I J=>⟨st',ν',I,J⟩) agG he hr
 | .drawnL q N gs ts,code,Q,st,aq,he=>by
  cases code<;>try(simp[gW]at aq;done)
  rename_i id ops draw;cases draw<;>simp only[gW]at aq
  ·cases aq
  ·simp only[bJ,eA]at aq;obtain⟨⟨⟨⟨⟨rfl,I⟩,J⟩,au⟩,aP⟩,bA⟩:=aq;intro a w ν hr;have aD:gs.length+ts.length=ops.size:=by simpa using Kh I
   refine aa0 hm aE I J au bA aP (nw:=[]) (K1:=fun st'=>hh P X.ob ts st' (Q .normal)) (fun st' ch w' ν' ab cp=>?_) Ψ he hr;rw[show ops.size-gs.length=ts.length by omega];exact J0 aE (K:=Q .normal) (fun st' ch w' ν' I J=>⟨st',ν',I,J⟩) ts (ops.toList.drop gs.length) gs.length (fun j=>by rw[mb];simp) (Si gs ops.toList I) st' ch w' ν' ab cp
 | .seq x y,code,Q,st,aq,he=>by
  cases code<;>try(simp[gW]at aq;done)
  rename_i rO ly;simp only[gW,bJ]at aq;intro a w ν hr;refine wp_seq ?_;have I:=oD hm aE x rO _ st aq.1 he a w ν hr;refine wp_mono I fun e ch w' bR=>?_;obtain⟨st',ν',bp,cp⟩:=bR;cases e with
  |normal=>exact oD hm aE y ly Q st' aq.2 bp ch w' ν' cp
  |_=>exact⟨st',ν',bp,cp⟩
 | .cond x t e,code,Q,st,aq,he=>by
  cases code<;>try(simp[gW]at aq;done)
  rename_i o Z3 ce;simp only[gW,bJ]at aq;intro a w ν hr;simp only[cQ]at he;have af:=eD hr aq.1.1;split at he
  ·rename_i b ah;rw[ah]at af;simp only[aJ]at af;have DL:cm X (ud st x b) a w ν:=by
    unfold ud;split
    ·exact M3 hr (by simpa[bP]using ah)
    ·exact hr
   refine wp_cond af ?_;cases b
   ·exact oD hm aE e ce Q _ aq.2 (he.2 rfl) a w ν DL
   ·exact oD hm aE t Z3 Q _ aq.1.2 (he.1 rfl) a w ν DL
  ·exact he.elim
 | .block id c,code,Q,st,aq,he=>by
  cases code<;>try(simp[gW]at aq;done)
  rename_i D2 hY;simp only[gW,bJ,eA]at aq;obtain⟨rfl,aq⟩:=aq;intro a w ν hr;refine wp_block ?_;refine wp_mono (oD hm aE c hY _ st aq he a w ν hr) fun e ch w' bR=>?_;obtain⟨st',ν',bp,cp⟩:=bR;cases e with
  |exit j=>
   simp only[Exit.inBlock]at bp⊢;by_cases ai:j=id
   ·rw[if_pos ai]at bp⊢;exact⟨st',ν',bp,cp⟩
   ·rw[br ai]at bp⊢;exact⟨st',ν',bp,cp⟩
  |_=>exact⟨st',ν',bp,cp⟩
 | .loop c,code,Q,st,aq,he=>by
  cases code<;>try(simp[gW]at aq;done)
  rename_i hY;simp only[gW]at aq;intro a w ν hr;simp only[cQ]at he;obtain⟨j5,m,yt,hw,aw,tC⟩:=he;refine wp_loop_ghost (fun k a w=> ∃s ν,j5 k s/\cm X s a w ν) m ⟨yt,_,aw,hr.weaker hw⟩ ?_;intro k a w vY;obtain⟨s,ν,az,kf⟩:=vY;have I:=tC k s az (fun i=>WE (kf.slot i)) (fun j cs ai=>by obtain⟨bl,us,el,_,_,_,_,g5⟩:=kf.good.box j cs ai;exact M7 g5);refine wp_mono (oD hm aE c hY _ s aq I a w ν kf) fun e ch w' bR=>?_;obtain⟨st',ν',bp,cp⟩:=bR;cases e with
  |normal=>obtain⟨bn,pJ,ao,aL,bB⟩:=bp;exact⟨bn,ao,pJ,_,bB,cp.weaker aL⟩
  |_=>exact⟨st',ν',bp,cp⟩
 | .exit id,code,Q,st,aq,he=>by
  cases code<;>try(simp[gW]at aq;done)
  rename_i D2;simp only[gW,eA]at aq;subst aq;intro a w ν hr;exact wp_exit ⟨st,ν,he,hr⟩
 | .ret,code,Q,st,aq,he=>by
  cases code<;>try(simp[gW]at aq;done)
  intro a w ν hr;exact wp_ret ⟨st,ν,he,hr⟩
 | .pub s c,code,Q,st,aq,he=>by
  simp only[gW]at aq;simp only[cQ]at he;split at he
  ·rename_i st' az;intro a w ν hr;obtain⟨ν',I⟩:=aif hr az;exact oD hm aE c code Q st' aq he a w ν' I
  ·exact he.elim
 | .pubB s c,code,Q,st,aq,he=>by
  simp only[gW]at aq;simp only[cQ]at he;split at he
  ·rename_i st' az;intro a w ν hr;obtain⟨ν',I⟩:=aie hr az;exact oD hm aE c code Q st' aq he a w ν' I
  ·exact he.elim
 | .fg qg s c,code,Q,st,aq,he=>by simp only[gW]at aq;simp only[cQ]at he;intro a w ν hr;exact oD hm aE c code Q _ aq he a w ν (HR hr (aco (hr.slot s)))
 | .fd s c,code,Q,st,aq,he=>by simp only[gW]at aq;simp only[cQ]at he;intro a w ν hr;obtain⟨ν',I⟩:=RA hr he.1;exact oD hm aE c code Q _ aq he.2 a w ν' I
 | .fz fi s c,code,Q,st,aq,he=>by
  simp only[gW]at aq;simp only[cQ]at he;intro a w ν hr;split at he
  ·rename_i st' e7;obtain⟨ν',I⟩:=acE hr e7;exact oD hm aE c code Q st' aq he a w ν' I
  ·exact he.elim
 | .no,code,Q,st,aq,he=>by simp only[cQ]at he
inductive ca where
 |tmp (i:Nat)
 |cell (i:Nat) (agg:Bool) (sz:Nat)
def bg(st:aU):ca->aW (Prop×ae)
 | .tmp i=>some (True,get i st.t)
 | .cell i agg sz=>nG st.b st.e agg sz (get i st.t)
def ba(st:aU):List ca->aW (Prop×List ae)
 |[]=>some (True,[])
 |r::dv=>match bg st r,ba st dv with
  |some (c,p),some (hY,bj)=>some (c/\hY,p::bj)
  |_,_=>none
def pH(bk:List (Nat×dh)):List ca->List ResultVar->Bool
 |[],[]=>true
 | .tmp i::dv,.tmp j::os=>i==j&&pH bk dv os
 | .cell i agg sz::dv,.cell j t::os=>i==j&&(match eh bk t with|some f=>f.size==sz&&f.kind.isAgg==agg|none=>false)&&pH bk dv os
 |_,_=>false
def aT:List ae->ae
 |[p]=>p
 |bj=>.tuple bj
def H5(tmps:Array Value):ResultVar->Sem Value
 | .tmp t=>pure (tmps.getD t undef)
 | .cell x t=>do loadVar t (<-asAddr (tmps.getD x undef))
theorem Ni(fn:Func)(tmps:Array Value):results fn tmps=(do let vs<-fn.results.mapM (H5 tmps);pure (if h:vs.size=1 then vs[0]else .tuple vs)):=by unfold results;congr 2
theorem EL{P:bS}{bk:List (Nat×dh)}(aE:eW P bk=true){X:eK}{st:aU}{a:Act}{w:World}{ν:aQ}(hr:cm X st a w ν):
  ∀(dv:List ca) (os:List ResultVar) (c:Prop) (bj:List ae),pH bk dv os=true->ba st dv=some (c,bj)->c->
  ∃vs,(os.mapM (H5 a.tmps)).run P w= .ok vs w/\cz w ν bj vs
 |[],[],c,bj,_,he,_=>by simp only[ba]at he;cases he;exact⟨[],Ψ,by simp[cz]⟩
 |[],_::_,_,_,aq,_,_=>by simp[pH]at aq
 | .tmp _::_,[],_,_,aq,_,_=>by simp[pH]at aq
 | .cell _ _ _::_,[],_,_,aq,_,_=>by simp[pH]at aq
 |r::dv,o::os,c,bj,aq,he,aH=>by
  simp only[ba]at he;split at he
  ·rename_i cF p c2 VF I J;cases he;cases r with
   |tmp i=>
    cases o with
    |cell _ _=>simp[pH]at aq
    |tmp j=>simp only[pH,bJ,eA]at aq;obtain⟨rfl,aq⟩:=aq;simp only[bg]at I;cases I;obtain⟨vs,g1,g2⟩:=EL aE hr dv os c2 VF aq J aH.2;refine⟨a.tmps.getD i undef::vs,?_,by simp only[cz];exact⟨_,_,rfl,hr.slot i,g2⟩⟩;simp only[List.mapM_cons,fu,H5,gq,fw,g1]
   |cell i agg sz=>
    cases o with
    |tmp _=>simp[pH]at aq
    |cell j t=>
     simp only[pH,bJ,eA]at aq;obtain⟨⟨rfl,au⟩,aq⟩:=aq;split at au
     ·rename_i f aK;simp only[bJ,eA]at au;obtain⟨rfl,rfl⟩:=au;simp only[bg]at I;obtain⟨vs,g1,g2⟩:=EL aE hr dv os c2 VF aq J aH.2;obtain⟨v,f1,f2⟩:=Hc aE hr.good aK (hr.slot i) I aH.1;have DJ:∃mL,a.tmps.getD i undef= .pointer (some mL):=by
       have az:=hr.slot i;unfold nG at I;split at I
       ·rename_i dL k n lY iu ab;rw[ab]at az;simp only[aJ]at az;obtain⟨⟨b,o,e⟩,_⟩:=az;exact⟨_,e⟩
       ·rename_i k off ab;rw[ab]at az;simp only[aJ]at az;obtain⟨b,_,e⟩:=az;exact⟨_,e⟩
       ·rename_i q ab;rw[ab]at az;simp only[aJ]at az;obtain⟨b,off,u,e,_⟩:=az;exact⟨_,e⟩
       ·cases I
      obtain⟨mL,Sv⟩:=DJ;rw[Sv]at f1;simp only[Instr.loadAt,Instr.sureAddr,fu,gq,fw]at f1;refine⟨v::vs,?_,by simp only[cz];exact⟨_,_,rfl,f2,g2⟩⟩;have adF:(asAddr (.pointer (some mL)):Sem Addr).run P w= .ok mL w:=rfl;simp only[List.mapM_cons,fu,H5,gq,fw,g1,Sv,adF,f1]
     ·cases au
  ·cases he
theorem wV{w:World}{ν:aQ}:∀{bj:List ae} {vs:List Value},cz w ν bj vs->vs.length=bj.length
 |[],vs,h=>by simp only[cz]at h;subst h;rfl
 |p::bj,vs,h=>by simp only[cz]at h;obtain⟨u,bE,rfl,_,J⟩:=h;simp[wV J]
def iy:Nat->List ae->List (Nat×ae)
 |_,[]=>[]
 |i,p::bj=>(i,p)::iy (i+1) bj
theorem AY:∀(bj:List ae) (i j:Nat),get j (iy i bj)=if i<=j/\j<i+bj.length then bj.getD (j-i) .junk else .junk
 |[],i,j=>by simp[iy,get]
 |p::bj,i,j=>by
  simp only[iy,get];by_cases h:i=j
  ·subst h;simp
  ·rw[br h,AY bj (i+1) j];by_cases J:i<=j/\j<i+(p::bj).length
   ·rw[if_pos J,if_pos (by simp at J⊢;omega)];have:j-i=(j-(i+1))+1:=Ω
    rw[this];simp
   ·rw[br J,br (by simp at J⊢;omega)]
def hd{α:Type}(al:dJ):List (aC×α)->Prop
 |[]=>True
 |(k,_)::r=>ak al k/\hd al r
theorem zC{α:Type}{al:dJ}:∀{l:List (aC×α)},hd al l->∀k,(look k l).isSome->ak al k
 |[],_,k,h=>by simp[look]at h
 |(i,x)::r,ab,k,h=>by
  simp only[hd]at ab;simp only[look]at h;split at h
  ·rename_i e;subst e;exact ab.1
  ·exact zC ab.2 k h
def cO(dv:List ca)(s:dJ)(Q:ae->dJ->Prop)(e:Exit)(st:aU):Prop:=
 (e= .ret\/e= .normal)/\match ba st dv with
  |some (c,bj)=>c/\∃al,hd al s.b/\hd al s.e/\qs (ak al) al.b st.b/\rj (ak al) al.e st.e/\hV al/\kin (ak al) (bD (aT bj))/\Q (bD (aT bj)) al
  |none=>dr
theorem b3.ofW{P:bS}{bk:List (Nat×dh)}(aE:eW P bk=true){f:FuncId}{fn:Func}(aK:P.funcs[f]? =some fn){code:Code}(ah:fn.body=some code)(fV:(fn.name== "runtime.NumGoroutine")=false){dv:List ca}(kf:pH bk dv fn.results.toList=true)
  {args:List ae} (aD:args.length<=fn.ntmps) {s:dJ} (lD:hV s) {Q:ae->dJ->Prop} (he:∀X:eK,X.N=fn.ntmps->X.ob=ev s->X.ex=[]->(∀b o,X.ν0.A b o->b<X.w0.heap.size)->gr args->(∀j cs,look j s.b=some cs->gO cs=true->gu cs)->Iz P X code (cO dv s Q) ⟨iy 0 args,s.b,s.e,0,ev s⟩):b3 P f args s Q:=by
 intro w ν vs gl aS af hr;refine .inl ⟨⟨fn,aK,by simp[ah],fV⟩,?_⟩;have nD:=wV hr;have gF:vs.size=args.length:=by simpa using nD
 let X:eK:=⟨w,ν,fY ν s,fn.ntmps,ev s,gl,[]⟩
 have jX:∀k,fresh 0 (ev s) k->ν.bx k=none/\ν.ow k=none/\∀j b,¬ν.tr k j b:=by
  intro k ab;cases k with
  |loc m=>exact⟨(af _).1 (lD.1 m),(af _).2.1 (lD.2 m),(af _).2.2⟩
  |obj m=>
   simp only[fresh,true_and]at ab;refine⟨?_,?_,(af _).2.2⟩
   ·refine(af _).1 ?_;cases h:look (.obj m) s.b with
    |none=>rfl
    |some x=>exact absurd (wO (.inl (by simp[h]))) ab
   ·refine(af _).2.1 ?_;cases h:look (.obj m) s.e with
    |none=>rfl
    |some x=>exact absurd (wO (.inr (by simp[h]))) ab
 have mq:∀m,(ν.bx (.obj m)≠none\/ν.ow (.obj m)≠none)-> .obj m∈ev s:=by
  intro m hm;refine Classical.byContradiction fun aH=>?_;obtain⟨I,J,_⟩:=jX (.obj m) ⟨trivial,aH⟩;rcases hm with hm|hm
  ·exact hm I
  ·exact hm J
 have n7:cm X ⟨iy 0 args,s.b,s.e,0,ev s⟩ {tmps:=vs++rs (fn.ntmps-vs.size) undef,defers:=[]} w ν:=by
  refine⟨⟨aS.alt,fun k cs ab=>?_,aS.inj,fun g o fb=>?_,aS.oinj,aS.obx,aS.one,aS.otr⟩,⟨rfl,rfl,rfl,cc _,fun _ _ _=>rfl,fun b o h=>⟨h,rfl⟩,fun b o h=>.inl h,fun n b h=>h,fun n b h=>mq n (.inl (by rw[h];simp)),fun m n u h=>⟨n,u,h,.inl ⟨rfl,rfl⟩⟩,fun m n u h=>mq m (.inr (by rw[h];simp)),fun k j _ _ b h=>absurd h ((af k).2.2 j b),fun k j b h=>absurd h ((af k).2.2 j b),fun k j b h=>absurd h ((af k).2.2 j b),fun _ _ _=>rfl,fun j n u b ao _=>(by rw[(af _).2.1 (lD.2 j)]at ao;cases ao)⟩,rfl,?_,fun i=>?_,jX,fun _ af=>(by cases af),fun m hm aK=>aK.2 hm⟩
  ·obtain⟨bl,us,el,g1,g2,g3⟩:=aS.box k cs ab;exact⟨bl,us,el,g1,.inl g2,g3⟩
  ·obtain⟨v,us,g1,g2,g3,g4⟩:=aS.own g o fb;exact⟨v,us,g1,g2,fun bl fc=>⟨.inl (g3 bl fc).1,(g3 bl fc).2⟩,g4⟩
  ·show(vs++rs (fn.ntmps-vs.size) undef).size=fn.ntmps;simp;omega
  ·rw[AY];by_cases aw:i<args.length
   ·rw[if_pos Ω];have pq:args[i]? =some args[i]:=cL aw;obtain⟨v,ao,aL⟩:=B0 i hr pq;have aN:(vs++rs (fn.ntmps-vs.size) undef).getD i undef=v:=by
     have nW:vs[i]? =some v:=by simpa using ao
     rw[pO,Array.getElem?_append_left Ω,nW];rfl
    show aJ w ν _ ((vs++rs (fn.ntmps-vs.size) undef).getD i undef);rw[aN];simpa[List.getD,pq]using aL
   ·rw[br Ω];simp[aJ]
 have D1:=he X rfl rfl rfl aS.alt (Nf hr) (fun j cs ai=>by obtain⟨bl,us,el,_,_,_,_,g5⟩:=aS.box j cs ai;exact M7 g5) _ w ν n7;refine calls_of_wp aK ah (wp_mono D1 fun e ch w' bR=>?_);obtain⟨st',ν',⟨iR,bp⟩,cp⟩:=bR;cases h2:ba st' dv with
 |none=>simp[h2]at bp
 |some x=>
  obtain⟨hY,bj⟩:=x;simp only[h2]at bp;obtain⟨lR,al,kb,ke,b0,cS,dT,dY,di⟩:=bp;obtain⟨iW,g1,g2⟩:=EL aE cp dv fn.results.toList hY bj kf h2 lR;have KZ:=wV g2;have mn:ch.defers=[]/\∃v,(results fn ch.tmps).run P w'= .ok v w'/\(fun(e:Ending) w'=> ∃v r al ν',e= .returned v/\Q r al/\aJ w' ν' r v/\Good (fun bl=>fY ν s bl\/w.heap.size<=bl) w' ν' al.b al.e/\qR ν' al/\hV al/\ox ⟨w,ν,fY ν s,0,ev s,gl,[]⟩ w' ν') (.returned v) w':=by
   refine⟨cp.defers,?_⟩;have hq:(results fn ch.tmps).run P w'= .ok (if h:iW.toArray.size=1 then iW.toArray[0]else .tuple iW.toArray) w':=by rw[Ni];simp only[fu,Array.mapM_eq_mapM_toList,Sem.run_map,g1,fw,gq]
   refine⟨_,hq,_,bD (aT bj),al,ν'.cut (ak al),rfl,di,?_,cp.good.cut b0 cS (fun bl h _=>h),?_,dT,?_⟩
   ·have kd:aJ w' ν' (aT bj) (if h:iW.toArray.size=1 then iW.toArray[0]else .tuple iW.toArray):=by
     match bj,iW,g2,KZ with
     |[p],[v],g2,_=>simp only[cz]at g2;obtain⟨u,bE,ao,aL,_⟩:=g2;cases ao;simpa[aT]using aL
     |[],[],g2,_=>simp[aT,aJ,cz]
     |p::gA::bj,v::v2::iW,g2,_=>rw[dif_neg Ψ];simp only[aT,aJ];exact⟨_,rfl,by simpa using g2⟩
     |[_],[],_,h=>simp at h
     |[],_::_,_,h=>simp at h
     |[_],_::_::_,_,h=>simp at h
     |_::_::_,[],_,h=>simp at h
     |_::_::_,[_],_,h=>simp at h
    exact sb (nR.cut _ w' ν') _ _ dY (yn _ _ kd)
   ·intro k;refine⟨?_,?_,?_⟩;rotate_left 2
    ·rintro j b ⟨az,ah⟩;obtain⟨t1,t2⟩:=cp.fr.trn k j b ah;rcases az with az|az<;>obtain⟨x,q0⟩:=fv.1 az
     ·obtain⟨bl,bE,el,ao,_⟩:=cp.good.box k x (b0 k x q0).1;rw[t1]at ao;cases ao
     ·obtain⟨v',bE,ao,_⟩:=cp.good.own k x (cS k x q0).1;rw[t2]at ao;cases ao
    ·intro ab;by_cases az:ak al k
     ·rw[aQ.cut_bx az];rcases az with az|az
      ·rw[ab]at az;cases az
      ·obtain⟨x,q0⟩:=fv.1 az;obtain⟨v',bE,ao,_⟩:=cp.good.own k x (cS k x q0).1;rcases cp.good.one k with I|I
       ·exact I
       ·rw[I]at ao;cases ao
     ·exact(aQ.cut_no az).1
    ·intro ab;by_cases az:ak al k
     ·rw[aQ.cut_ow az];rcases az with az|az
      ·obtain⟨x,q0⟩:=fv.1 az;obtain⟨bl,bE,el,ao,_⟩:=cp.good.box k x (b0 k x q0).1;rcases cp.good.one k with I|I
       ·rw[I]at ao;cases ao
       ·exact I
      ·rw[ab]at az;cases az
     ·exact(aQ.cut_no az).2.1
   ·refine⟨cp.fr.os,cp.fr.tape,cp.fr.output,cp.fr.size,cp.fr.block,cp.fr.keep,cp.fr.fresh,fun n b h=>?_,fun n b h=>mq n (.inl (by rw[h];simp)),fun m n u h=>?_,fun m n u h=>mq m (.inr (by rw[h];simp)),fun k j bn eQ b I J=>cp.fr.trd k j bn eQ b I.2 J.2,fun k j b ah=>cp.fr.trb k j b ah.2,fun k j b ah=>(by rw[aQ.cut_bx ah.1,aQ.cut_ow ah.1];exact cp.fr.trn k j b ah.2),cp.fr.sh,fun j n u b ao aL=>cp.fr.nrow j n u b (aQ.cut_someO ao).2 aL⟩
    ·have az:ak al (.obj n):=by
      cases aD:look (.obj n) s.b with
      |none=>rw[(af _).1 aD]at h;cases h
      |some x=>exact zC kb _ (by simp[aD])
     rw[aQ.cut_bx az];exact cp.fr.obj n b h
    ·have az:ak al (.obj m):=by
      cases aD:look (.obj m) s.e with
      |none=>rw[(af _).2.1 aD]at h;cases h
      |some x=>exact zC ke _ (by simp[aD])
     rw[aQ.cut_ow az];exact cp.fr.row m n u h
  rcases iR with rfl|rfl<;>exact mn
theorem b3.of{P:bS}(hm:P.follows .mixedOrders=true){bk:List (Nat×dh)}(aE:eW P bk=true){f:FuncId}{fn:Func}(aK:P.funcs[f]? =some fn){code:Code}(ah:fn.body=some code)(fV:(fn.name== "runtime.NumGoroutine")=false){c:C}(aH:gW fn.ntmps bk c code=true){dv:List ca}(kf:pH bk dv fn.results.toList=true)
  {args:List ae} (aD:args.length<=fn.ntmps) {s:dJ} (lD:hV s) {Q:ae->dJ->Prop} (he:gr args->(∀j cs,look j s.b=some cs->gO cs=true->gu cs)->cQ P (ev s) c (cO dv s Q) ⟨iy 0 args,s.b,s.e,0,ev s⟩):b3 P f args s Q:=
 b3.ofW aE aK ah fV kf aD lD fun X mP la _ _ I J=>oD hm aE c code _ _ (by rw[mP];exact aH) (by rw[la];exact he I J)
def cJ(bk:List (Nat×dh))(c:C)(dv:List ca)(Mi:Nat)(fn:Func):Bool:=
 match fn.body with
 |some code=>gW fn.ntmps bk c code&&pH bk dv fn.results.toList&& !(fn.name== "runtime.NumGoroutine")&&decide (Mi<=fn.ntmps)
 |none=>false
theorem b3.mk{P:bS}(hm:P.follows .mixedOrders=true){bk:List (Nat×dh)}(aE:eW P bk=true){f:FuncId}{fn:Func}(aK:P.funcs[f]? =some fn){c:C}{dv:List ca}{n:Nat}(dM:cJ bk c dv n fn=true)
  {args:List ae} (aD:args.length<=n) {s:dJ} (lD:hV s) {Q:ae->dJ->Prop} (he:gr args->(∀j cs,look j s.b=some cs->gO cs=true->gu cs)->cQ P (ev s) c (cO dv s Q) ⟨iy 0 args,s.b,s.e,0,ev s⟩):b3 P f args s Q:=by
 unfold cJ at dM;split at dM
 ·rename_i code ah;simp only[bJ,sG,fs]at dM;obtain⟨⟨⟨I,J⟩,au⟩,aP⟩:=dM;exact b3.of hm aE aK ah au I J (Nat.le_trans aD aP) lD he
 ·cases dM
theorem r6:hV ⟨[],[]⟩:=⟨fun _=>rfl,fun _=>rfl⟩
def cn(dv:List ca)(r:ae)(e:Exit)(st:aU):Prop:=
 (e= .ret\/e= .normal)/\match ba st dv with
  |some (c,bj)=>c/\bD (aT bj)=r
  |none=>dr
theorem ON{dv:List ca}{r:ae}(hr:kin (fun _=>dr) r):cn dv r=cO dv ⟨[],[]⟩ (fun cZ al=>cZ=r/\al=⟨[],[]⟩):=by
 funext e st;unfold cn cO;apply propext;refine and_congr_right fun _=>?_;cases ba st dv with
 |none=>exact Iff.rfl
 |some x=>
  obtain⟨c,bj⟩:=x;refine and_congr_right fun _=>?_;constructor
  ·intro h;refine⟨⟨[],[]⟩,trivial,trivial,fun k cs ab=>by simp[look]at ab,fun k cs ab=>by simp[look]at ab,r6,?_,h,rfl⟩;rw[h];exact oQ (fun k ab=>ab.elim) r hr
  ·rintro⟨al,_,_,_,_,_,_,h,_⟩;exact h
theorem bW.mk{P:bS}(hm:P.follows .mixedOrders=true){bk:List (Nat×dh)}(aE:eW P bk=true){f:FuncId}{fn:Func}(aK:P.funcs[f]? =some fn){c:C}{dv:List ca}{n:Nat}(dM:cJ bk c dv n fn=true)
  {args:List ae} (aD:args.length<=n) {r:ae} (hr:kin (fun _=>dr) r) (he:gr args->cQ P [] c (cn dv r) ⟨iy 0 args,[],[],0,[]⟩):bW P f args r:=by
 refine b3.mk hm aE aK dM aD r6 fun I _=>?_;rw[<-ON hr];exact he I
theorem Cl{α:Type}{β:Type}:∀l:List (aC×α),bc ([]:List (aC×β)) l=l
 |[]=>rfl
 |(k,x)::r=>by simp[bc,look,Cl r]
theorem CallDo.val{P:bS}{n:Nat}{args:List ae}{st:aU}{d:aW Nat}{K:aU->Prop}{r:ae}(ab:kinL (fun _=>dr) args)(aK:bW P n args r)(h:K {st with t:=fE d r st.t}):CallDo P n args st d K:=by
 refine .inl ⟨⟨[],[]⟩,_,fun k cs ab=>by simp[look]at ab,fun k cs ab=>by simp[look]at ab,r6,oP (fun _ h=>h.elim) _ ab,aK,?_⟩;rintro cZ al ⟨rfl,rfl⟩;refine⟨⟨fun m h=>by simp[look]at h,fun m h=>by simp[look]at h⟩,?_⟩;have:after st ⟨[],[]⟩ ⟨[],[]⟩ d cZ={st with t:=fE d cZ st.t}:=by simp[after,Cl,ev]
 rw[this];exact h
@[reducible,simp] def de(n:Int):dm:= .c (.int .i64 n)
@[reducible,simp] def aa(a b:Nat):cU:=⟨none,.s (.v a (.mov (.t b)))⟩
@[reducible,simp] def bh(a:Nat)(i:gC):cU:=⟨none,.s (.v a i)⟩
@[reducible,simp] def c7(i:ej):cU:=⟨none,.s i⟩
@[reducible,simp] def lq(a f:Nat)(l:List dm):cU:=⟨none,.call (some a) (.c (.func f [])) l⟩
@[reducible,simp] def b4(j:Nat)(w:Bool)(a b:Nat):cU:=⟨some (j,w),.s (.v a (.mov (.t b)))⟩
@[reducible,simp] def mI(j:Nat)(w:Bool)(a:Nat)(i:gC):cU:=⟨some (j,w),.s (.v a i)⟩
@[reducible,simp] def ys(j:Nat)(w:Bool)(i:ej):cU:=⟨some (j,w),.s i⟩
@[reducible,simp] def cP(d s a b:Nat):cU:=bh d (.iaddr s (.t a) (.t b))
@[reducible,simp] def a8(d s a:Nat):cU:=bh d (.load false s (.t a))
@[reducible,simp] def bO(d s a:Nat):cU:=bh d (.load true s (.t a))
@[reducible,simp] def a6(d o s a:Nat):cU:=bh d (.faddr o false s (.t a))
@[reducible,simp] def lG(d o s a:Nat):cU:=bh d (.faddr o true s (.t a))
@[reducible,simp] def cj(d:Nat)(o:BinOp)(a b:Nat):cU:=bh d (.bin o false (.t a) (.t b))
@[reducible,simp] def a7(d:Nat)(o:BinOp)(a:Nat)(n:Int):cU:=bh d (.bin o false (.t a) (de n))
@[reducible,simp] def cT(d a:Nat):cU:=bh d (.len (.t a))
@[reducible,simp] def dK(d a:Nat):cU:=bh d (.notB (.t a))
@[reducible,simp] def dZ(d i a:Nat):cU:=bh d (.ext i (.t a))
@[reducible,simp] def dA(d a b:Nat):cU:=bh d (.pick (.t a) (.c (.bool true)) (.t b))
@[reducible,simp] def fx(d a b:Nat):cU:=bh d (.pick (.t a) (.t b) (.c (.bool false)))
@[reducible,simp] def bK(d:Nat)(b:Bool):cU:=bh d (.mov (.c (.bool b)))
@[reducible,simp] def bU(d:Nat)(n:Int):cU:=bh d (.mov (de n))
@[reducible,simp] def bF(s a b:Nat):cU:=c7 (.store s (.t a) (.t b))
@[reducible,simp] def aO(j:Nat)(w:Bool)(x:cU):cU:=⟨some (j,w),x.i⟩
@[reducible,simp] def ag(l:List cU)(c:C):C:= .seq (.region l) c
@[reducible,simp] def bb(n:Nat)(a b:C):C:= .cond (.t n) a b
@[reducible,simp] def Yp(d a:Nat)(l:List dm):cU:=⟨none,.call (some d) (.t a) l⟩
@[reducible,simp] def cl(d f a:Nat):cU:=lq d f [.t a]
@[reducible,simp] def eb(d f a b:Nat):cU:=lq d f [.t a,.t b]
@[reducible,simp] def dd:List ae:=[.int .i64 0,.int .i64 0,.str [],.slice 4 .nil []]
@[reducible,simp] def fm(a b:Nat):cU:=c7 (.box a none (.t b))
@[reducible,simp] def hv(a:Nat)(l:List ae):cU:=c7 (.alloc a none (.agg l))
@[reducible,simp] def ng(a n:Nat):cU:=bh a (.mov (.c (.slice n .nil [])))
@[reducible,simp] def kZ(a b c d e:Nat):cU:=c7 (.app a b c (.t d) (.t e))
@[reducible,simp] def gU(a b c:Nat)(l:List dm):cU:=c7 (.bsl a b c l)
@[reducible,simp] def hD(a b:Nat):cU:=bh a (.nck (.t b))
@[reducible,simp] def ma(d s a:Nat)(n:Int):cU:=bh d (.iaddr s (.t a) (de n))
@[reducible,simp] def lJ(d:Nat)(l:List ae)(m:List (Nat×Nat×dm)):cU:=bh d (.build l m)
@[reducible,simp] def k0(a b c:Nat)(x:C):C:= .block 0 (.loop (ag [cj a .lss b c] (.seq (bb a .skip (.exit 0)) x)))
end
section
open Go Go.RowKit
theorem fQ{α:Type}{l:List α}{i:Nat}(h:i<l.length):∃b,l[i]? =some b/\∀h,(l[i]'h)=b:=⟨l[i],cL h,fun _=>rfl⟩
def Nu(st:aU)(i:ej):Prop:=match mE st i with|some (c,_)=>c|none=>dr
def Nv(st:aU)(i:ej):aU:=match mE st i with|some (_,s)=>s|none=>st
def xf(P:bS)(ob:List aC)(r:List cU)(K:aU->Prop)(st:aU):Prop:=hh P ob r st K
def yO(P:bS)(ob:List aC)(c:C)(Q:Exit->aU->Prop)(st:aU):Prop:=cQ P ob c Q st
def qP(P:bS)(ob:List aC)(v:ae)(s:Nat)(w:Bool)(i:ek)(r:List cU)(st:aU)(K:aU->Prop):Prop:=
 match v with
 | .bool b=>(b=w->hh P ob (⟨none,i⟩::r) {st with t:=put s (.bool w) st.t} K)/\(b= !w->hh P ob r {st with t:=fE i.dst (.tuple []) (put s (.bool !w) st.t)} K)
 | .tuple []=>hh P ob r {st with t:=fE i.dst (.tuple []) st.t} K
 |_=>dr
def vT(P:bS)(ob:List aC)(v:ae)(x:dm)(t e:C)(Q:Exit->aU->Prop)(st:aU):Prop:=
 match v with
 | .bool b=>(b=true->cQ P ob t Q (ud st x true))/\(b=false->cQ P ob e Q (ud st x false))
 |_=>dr
def JX(P:bS)(ob:List aC)(v:ae)(d:aW Nat)(xs:List ae)(r:List cU)(st:aU)(K:aU->Prop):Prop:=
 match v with
 | .func n dP=>CallDo P n (bC (xs++dP)) st d (xf P ob r K)
 |_=>dr
section
variable {P:bS} {ob:List aC} {st:aU} {K:aU->Prop} {r:List cU} {Q:Exit->aU->Prop} {a b c t e:C}
theorem abe:hh P ob [] st K=K st:=rfl
theorem abg{i:ej}:hh P ob (⟨none,.s i⟩::r) st K=(Nu st i/\hh P ob r (Nv st i) K):=by
 simp only[hh,qN,Nu,Nv];cases mE st i with
 |none=>simp
 |some x=>rfl
theorem aba{d:aW Nat}{f:dm}{xs:List dm}:hh P ob (⟨none,.call d f xs⟩::r) st K=JX P ob (bP st.t f) d (xs.map (bP st.t)) r st K:=by simp only[hh,qN,JX];rfl
def JZ(P:bS)(ob:List aC)(v:ae)(d:aW Nat)(xs:List ae)(r:List cU)(st:aU)(K:aU->Prop):Prop:=
 match v with
 | .func n dP=>k4 P ob n (xs++dP) st d (xf P ob r K)
 |_=>dr
theorem abf{d:aW Nat}{f:dm}{xs:List dm}:hh P ob (⟨none,.opn d f xs⟩::r) st K=JZ P ob (bP st.t f) d (xs.map (bP st.t)) r st K:=by simp only[hh,qN,JZ];rfl
theorem aa8{n:Nat}{dP xs:List ae}{d:aW Nat}:JZ P ob (.func n dP) d xs r st K=k4 P ob n (xs++dP) st d (xf P ob r K):=rfl
def JY(P:bS)(ob:List aC)(v:ae)(d:aW Nat)(r:List cU)(st:aU)(K:aU->Prop):Prop:=
 match v with
 | .func n dP=> ¬n<1000000/\CallDo P (w7 n) (bC dP) st d (xf P ob r K)
 |_=>dr
theorem abb{d:aW Nat}{f:dm}:hh P ob (⟨none,.callb d f⟩::r) st K=JY P ob (bP st.t f) d r st K:=by simp only[hh,qN,JY];rfl
theorem aa7{n:Nat}{dP:List ae}{d:aW Nat}:JY P ob (.func n dP) d r st K=(¬n<1000000/\CallDo P (w7 n) (bC dP) st d (xf P ob r K)):=rfl
theorem akp(n:Nat):w7 n=n-1000000:=rfl
theorem abd{d:Nat}{x:dm}:hh P ob (⟨none,.next d x⟩::r) st K=y6 st d (bP st.t x) (xf P ob r K):=by simp only[hh,qN];rfl
def yL(P:bS)(ob:List aC)(c:C)(Q:Exit->aU->Prop):aW aU->Prop
 |some st=>cQ P ob c Q st
 |none=>dr
theorem YD:yL P ob c Q (some st)=cQ P ob c Q st:=rfl
theorem aaL{s:Nat}:cQ P ob (.pub s c) Q st=yL P ob c Q (wQ st s):=by simp only[cQ];cases wQ st s<;>rfl
theorem aaH{qg:Bool}{s:Nat}:cQ P ob (.fg qg s c) Q st=cQ P ob c Q {st with t:=put s (AV qg (get s st.t)) st.t}:=rfl
theorem aaI{qg:Bool}{s:Nat}{d:C}:cQ P ob (.seq (.fg qg s c) d) Q st=cQ P ob (.seq c d) Q {st with t:=put s (AV qg (get s st.t)) st.t}:=rfl
theorem aaJ{fi:Bool}{s:Nat}:cQ P ob (.fz fi s c) Q st=yL P ob c Q (xB st fi s):=by simp only[cQ];cases xB st fi s<;>rfl
theorem aaK{fi:Bool}{s:Nat}{d:C}:cQ P ob (.seq (.fz fi s c) d) Q st=yL P ob (.seq c d) Q (xB st fi s):=by simp only[cQ];cases xB st fi s<;>rfl
theorem aaF{s:Nat}:cQ P ob (.fd s c) Q st=(zb ob st s/\cQ P ob c Q (xA st s)):=rfl
theorem aaG{s:Nat}{d:C}:cQ P ob (.seq (.fd s c) d) Q st=(zb ob st s/\cQ P ob (.seq c d) Q (xA st s)):=rfl
theorem aaM{s:Nat}:cQ P ob (.pubB s c) Q st=yL P ob c Q (BO st s):=by simp only[cQ];cases BO st s<;>rfl
theorem aa9{n:Nat}{dP:List ae}{d:aW Nat}{xs:List ae}:JX P ob (.func n dP) d xs r st K=CallDo P n (bC (xs++dP)) st d (xf P ob r K):=rfl
theorem abc{s:Nat}{w:Bool}{i:ek}:hh P ob (⟨some (s,w),i⟩::r) st K=qP P ob (get s st.t) s w i r st K:=by simp only[hh,qP];try rfl
theorem abl{s:Nat}{i:ek}:qP P ob (.bool true) s true i r st K=hh P ob (⟨none,i⟩::r) {st with t:=put s (.bool true) st.t} K:=by simp[qP]
theorem abh{s:Nat}{i:ek}:qP P ob (.bool false) s false i r st K=hh P ob (⟨none,i⟩::r) {st with t:=put s (.bool false) st.t} K:=by simp[qP]
theorem abk{s:Nat}{i:ek}:qP P ob (.bool true) s false i r st K=hh P ob r {st with t:=fE i.dst (.tuple []) (put s (.bool true) st.t)} K:=by simp[qP]
theorem abi{s:Nat}{i:ek}:qP P ob (.bool false) s true i r st K=hh P ob r {st with t:=fE i.dst (.tuple []) (put s (.bool false) st.t)} K:=by simp[qP]
theorem abj{s:Nat}{w:Bool}{i:ek}:qP P ob (.tuple []) s w i r st K=hh P ob r {st with t:=fE i.dst (.tuple []) st.t} K:=by simp[qP]
theorem dx{x:Bool}{s:Nat}{w:Bool}{i:ek}(I:x=w->hh P ob (⟨none,i⟩::r) {st with t:=put s (.bool w) st.t} K)(J:x= !w->hh P ob r {st with t:=fE i.dst (.tuple []) (put s (.bool !w) st.t)} K):qP P ob (.bool x) s w i r st K:=⟨I,J⟩
theorem aas:cQ P ob (.seq (.seq a b) c) Q st=cQ P ob (.seq a (.seq b c)) Q st:=by simp only[cQ];congr 1;funext e st';cases e<;>rfl
theorem aaR:cQ P ob (.seq .skip c) Q st=cQ P ob c Q st:=rfl
theorem aaP:cQ P ob (.seq .ret c) Q st=Q .ret st:=rfl
theorem aaD{n:Nat}:cQ P ob (.seq (.exit n) c) Q st=Q (.exit n) st:=rfl
theorem aaS:cQ P ob .skip Q st=Q .normal st:=rfl
theorem aaQ:cQ P ob .ret Q st=Q .ret st:=rfl
theorem aaE{n:Nat}:cQ P ob (.exit n) Q st=Q (.exit n) st:=rfl
theorem aaN{gs:List cU}:cQ P ob (.seq (.region gs) c) Q st=hh P ob gs st (yO P ob c Q):=rfl
theorem aaO{gs:List cU}:cQ P ob (.region gs) Q st=hh P ob gs st (Q .normal):=rfl
theorem aav{x:dm}:cQ P ob (.seq (.cond x t e) c) Q st=vT P ob (bP st.t x) x (.seq t c) (.seq e c) Q st:=by simp only[cQ,vT];try rfl
theorem aaw{x:dm}:cQ P ob (.cond x t e) Q st=vT P ob (bP st.t x) x t e Q st:=by simp only[cQ,vT];try rfl
theorem aaU{x:dm}:vT P ob (.bool true) x t e Q st=cQ P ob t Q (ud st x true):=by simp[vT]
theorem aaT{x:dm}:vT P ob (.bool false) x t e Q st=cQ P ob e Q (ud st x false):=by simp[vT]
theorem dt{v:Bool}{x:dm}(I:v=true->cQ P ob t Q (ud st x true))(J:v=false->cQ P ob e Q (ud st x false)):vT P ob (.bool v) x t e Q st:=⟨I,J⟩
def Ah(P:bS)(ob:List aC)(id:Nat)(c:C)(Q:Exit->aU->Prop)(e:Exit)(st:aU):Prop:=
 match e with
 | .normal=>cQ P ob c Q st
 | .exit j=>if j=id then cQ P ob c Q st else Q (.exit j) st
 |e=>Q e st
theorem aat{id:Nat}:cQ P ob (.seq (.block id a) c) Q st=cQ P ob a (Ah P ob id c Q) st:=by
 simp only[cQ];congr 1;funext e st';cases e with
 |exit j=>rfl
 |_=>rfl
theorem aau{id:Nat}:cQ P ob (.block id a) Q st=cQ P ob a (Ah P ob id .skip Q) st:=by
 simp only[cQ];congr 1;funext e st';cases e with
 |exit j=>simp only[Ah];by_cases ai:j=id<;>simp[ai,cQ]
 |_=>rfl
theorem Yv{id:Nat}:Ah P ob id c Q .normal st=yO P ob c Q st:=rfl
theorem Yu{id j:Nat}:Ah P ob id c Q (.exit j) st=if j=id then yO P ob c Q st else Q (.exit j) st:=rfl
theorem Yw{id:Nat}:Ah P ob id c Q .ret st=Q .ret st:=rfl
def b1(ob:List aC)(j5:Nat->aU->Prop)(k:Nat)(Q:Exit->aU->Prop)(e:Exit)(st:aU):Prop:=
 match e with
 | .normal=> ∃bn pJ,bn<k/\il ob st pJ/\j5 bn pJ
 |e=>Q e st
theorem YB{j5:Nat->aU->Prop}{k:Nat}:b1 ob j5 k Q .normal st= ∃bn pJ,bn<k/\il ob st pJ/\j5 bn pJ:=rfl
theorem YA{j5:Nat->aU->Prop}{k n:Nat}:b1 ob j5 k Q (.exit n) st=Q (.exit n) st:=rfl
theorem YC{j5:Nat->aU->Prop}{k:Nat}:b1 ob j5 k Q .ret st=Q .ret st:=rfl
theorem FU(j5:Nat->aU->Prop)(m:Nat)(yt:aU)(hw:il ob st yt)(bz:j5 m yt)(h:∀k s,j5 k s->(∀i,gz (get i s.t))->(∀j cs,look j s.b=some cs->gO cs=true->gu cs)->cQ P ob a (b1 ob j5 k Q) s):cQ P ob (.loop a) Q st:=by
 simp only[cQ];refine⟨j5,m,yt,hw,bz,fun k s I J au=>?_⟩;have:=h k s I J au;have bp:(b1 ob j5 k Q)=(fun e al=>match e with| .normal=> ∃bn pJ,bn<k/\il ob al pJ/\j5 bn pJ|e=>Q e al):=by funext e al;cases e<;>rfl
 rw[bp]at this;exact this
end
/-Regions b8 draw jh order. -/
def Ns(n0:Nat)(st:aU)(i:ej):Prop:=match eR (oC n0 i) st.n (oC n0 i::st.o) st i with|some (c,_)=>c|none=>dr
def Nt(n0:Nat)(st:aU)(i:ej):aU:=match eR (oC n0 i) st.n (oC n0 i::st.o) st i with|some (_,s)=>s|none=>st
def ID(P:bS)(q:Bool)(nw:List Nat)(n0:Nat)(r:List cU)(K:aU->Prop)(st:aU):Prop:=hF P q nw n0 r st K
def qO(P:bS)(q:Bool)(nw:List Nat)(n0:Nat)(v:ae)(s:Nat)(w:Bool)(i:ek)(r:List cU)(st:aU)(K:aU->Prop):Prop:=
 match v with
 | .bool b=>(b=w->hF P q nw n0 (⟨none,i⟩::r) {st with t:=put s (.bool w) st.t} K)/\(b= !w->hF P q nw n0 r {st with t:=fE i.dst (.tuple []) (put s (.bool !w) st.t)} K)
 | .tuple []=>hF P q nw n0 r {st with t:=fE i.dst (.tuple []) st.t} K
 |_=>dr
def JW(P:bS)(q:Bool)(nw:List Nat)(n0:Nat)(v:ae)(d:aW Nat)(xs:List ae)(r:List cU)(st:aU)(K:aU->Prop):Prop:=
 match v with
 | .func n dP=>qE P q nw n (bC (xs++dP)) st d (ID P q nw n0 r K)
 |_=>dr
section
variable {P:bS} {ob:List aC} {st:aU} {K:aU->Prop} {r:List cU} {Q:Exit->aU->Prop} {c:C} {q:Bool} {nw:List Nat} {n0 N:Nat}
theorem aaY:hF P q nw n0 [] st K=K st:=rfl
theorem aaZ{i:ej}:hF P q nw n0 (⟨none,.s i⟩::r) st K=(lz q nw n0 st i/\Ns n0 st i/\hF P q nw n0 r (Nt n0 st i) K):=by
 simp only[hF,jB,Ns,Nt];cases eR (oC n0 i) st.n (oC n0 i::st.o) st i with
 |none=>simp
 |some x=>rfl
theorem aaW{d:aW Nat}{f:dm}{xs:List dm}:hF P q nw n0 (⟨none,.call d f xs⟩::r) st K=JW P q nw n0 (bP st.t f) d (xs.map (bP st.t)) r st K:=by simp only[hF,jB,JW];rfl
theorem aaV{n:Nat}{dP:List ae}{d:aW Nat}{xs:List ae}:JW P q nw n0 (.func n dP) d xs r st K=qE P q nw n (bC (xs++dP)) st d (ID P q nw n0 r K):=rfl
theorem aaX{s:Nat}{w:Bool}{i:ek}:hF P q nw n0 (⟨some (s,w),i⟩::r) st K=qO P q nw n0 (get s st.t) s w i r st K:=by simp only[hF,qO];try rfl
theorem aa5{s:Nat}{i:ek}:qO P q nw n0 (.bool true) s true i r st K=hF P q nw n0 (⟨none,i⟩::r) {st with t:=put s (.bool true) st.t} K:=by simp[qO]
theorem aa1{s:Nat}{i:ek}:qO P q nw n0 (.bool false) s false i r st K=hF P q nw n0 (⟨none,i⟩::r) {st with t:=put s (.bool false) st.t} K:=by simp[qO]
theorem aa4{s:Nat}{i:ek}:qO P q nw n0 (.bool true) s false i r st K=hF P q nw n0 r {st with t:=fE i.dst (.tuple []) (put s (.bool true) st.t)} K:=by simp[qO]
theorem aa2{s:Nat}{i:ek}:qO P q nw n0 (.bool false) s true i r st K=hF P q nw n0 r {st with t:=fE i.dst (.tuple []) (put s (.bool false) st.t)} K:=by simp[qO]
theorem aa3{s:Nat}{w:Bool}{i:ek}:qO P q nw n0 (.tuple []) s w i r st K=hF P q nw n0 r {st with t:=fE i.dst (.tuple []) st.t} K:=by simp[qO]
theorem dw{x:Bool}{s:Nat}{w:Bool}{i:ek}(I:x=w->hF P q nw n0 (⟨none,i⟩::r) {st with t:=put s (.bool w) st.t} K)(J:x= !w->hF P q nw n0 r {st with t:=fE i.dst (.tuple []) (put s (.bool !w) st.t)} K):qO P q nw n0 (.bool x) s w i r st K:=⟨I,J⟩
theorem aax{gs:List cU}:cQ P ob (.seq (.drawn q N gs) c) Q st=hF P q [] st.n gs st (pU (st.n+N) st.o (yO P ob c Q)):=rfl
theorem aay{gs:List cU}:cQ P ob (.drawn q N gs) Q st=hF P q [] st.n gs st (pU (st.n+N) st.o (Q .normal)):=rfl
theorem aaB{gs:List cU}:cQ P ob (.seq (.drawnW nw N gs) c) Q st=hF P false (q8 nw st.o) st.n gs st (pU (st.n+N) ((q8 nw st.o).map aC.obj++st.o) (yO P ob c Q)):=rfl
theorem aaC{gs:List cU}:cQ P ob (.drawnW nw N gs) Q st=hF P false (q8 nw st.o) st.n gs st (pU (st.n+N) ((q8 nw st.o).map aC.obj++st.o) (Q .normal)):=rfl
theorem aaz{gs ts:List cU}:cQ P ob (.seq (.drawnL q N gs ts) c) Q st=hF P q [] st.n gs st (pU (st.n+N) st.o (fun st'=>hh P ob ts st' (yO P ob c Q))):=rfl
theorem aaA{gs ts:List cU}:cQ P ob (.drawnL q N gs ts) Q st=hF P q [] st.n gs st (pU (st.n+N) st.o (fun st'=>hh P ob ts st' (Q .normal))):=rfl
theorem agH{o:List aC}:q8 [] o=[]:=rfl
theorem agF{j:Nat}{nw:List Nat}{o:List aC}:q8 (j::nw) o=if aC.obj j∈o then q8 nw o else j::q8 nw o:=by simp only[q8,List.filter_cons,fs,ite_not]
theorem qE.val{n:Nat}{args:List ae}{d:aW Nat}{r:ae}(ab:kinL (fun _=>dr) args)(aK:bW P n args r)(h:K {st with t:=fE d r st.t}):qE P q nw n args st d K:=by
 refine .inr ⟨⟨[],[]⟩,⟨[],[]⟩,r,none,fun k cs ab=>by simp[look]at ab,fun k cs ab=>by simp[look]at ab,r6,r6,⟨fun k h=>.inl h,fun k h=>.inl h,fun k h=>h,fun k h=>h,fun k h=>by cases h⟩,oP (fun _ h=>h.elim) _ ab,aK,fun _=>⟨rfl,rfl⟩,?_⟩;have:({after st ⟨[],[]⟩ ⟨[],[]⟩ d r with o:=st.o}:aU)={st with t:=fE d r st.t}:=by simp[after,Cl]
 rw[this];exact h
theorem a1{n:Nat}{args:List ae}{d:aW Nat}{r:ae}(aK:bW P n args r)(h:K {st with t:=fE d r st.t})(ab:kinL (fun _=>dr) args:=by simp):qE P q nw n args st d K:=qE.val ab aK h
end
section
variable {k:IntKind} {n:Int} {b:Bool} {s:List aj} {sz:Nat} {tag:iY} {xs:List ae} {key:aC} {off f:Nat} {x:ae}
@[simp]theorem apA:eV (.int k n)=true:=rfl
@[simp]theorem apl:eV (.bool b)=true:=rfl
@[simp]theorem apL:eV (.str s)=true:=rfl
@[simp]theorem apK:eV (.slice sz tag xs)=true:=rfl
@[simp]theorem apj:eV (.agg xs)=true:=rfl
@[simp]theorem apF:eV (.ptr key off)=true:=rfl
@[simp]theorem apt:eV (.eptr x)=true:=rfl
@[simp]theorem apz{t:Nat}:eV (.iface t x)=true:=rfl
@[simp]theorem amy{t:Nat}:cells (.iface t x)=[.iface t x]:=rfl
@[simp]theorem apo{a:aW Addr}{n c:Nat}:eV (.cst (.slice a n c))=true:=rfl
@[simp]theorem apq{s}:eV (.cst (.string s))=true:=rfl
@[simp]theorem apD:eV .nilp=true:=rfl
@[simp]theorem apv:eV (.func f xs)=true:=rfl
@[simp]theorem apy:eV (.gmap key)=true:=rfl
@[simp]theorem apJ{n:Nat}:eV (.row sz key n)=true:=rfl
@[simp]theorem amJ{n:Nat}:cells (.row sz key n)=[.row sz key n]:=rfl
@[simp]theorem amz:cells (.int k n)=[.int k n]:=rfl
@[simp]theorem amo:cells (.bool b)=[.bool b]:=rfl
@[simp]theorem amL:cells (.str s)=[.str s]:=rfl
@[simp]theorem amK:cells (.slice sz tag xs)=[.slice sz tag xs]:=rfl
@[simp]theorem amm:cells (.agg xs)=xs:=rfl
@[simp]theorem amF:cells (.ptr key off)=[.ptr key off]:=rfl
@[simp]theorem ams:cells (.eptr x)=[.eptr x]:=rfl
@[simp]theorem amD:cells .nilp=[.nilp]:=rfl
@[simp]theorem amu:cells (.func f xs)=[.func f xs]:=rfl
@[simp]theorem amx:cells (.gmap key)=[.gmap key]:=rfl
end
section
variable {b:List (aC×List ae)} {e:List (aC×dn)} {agg:Bool} {sz off:Nat} {k:aC} {p:ae} {cs xs vs:List ae} {hU:IntKind} {n i:Int} {m j:Nat} {tag:iY} {s:List aj} {O8:Bool} {lo aw:aW ae}
@[simp]theorem aoH{dL:Nat}{f:Nat}:nG b e agg sz (.rptr dL k m j f)=zT agg sz dL m j f (look k e):=rfl
@[simp]theorem aoG:nG b e agg sz (.ptr k off)=(match look k b with
  |some cs=>if agg then some (gO cs=true/\off+sz<=cs.length,.agg ((cs.drop off).take sz))else(cs[off]?).map fun p=>(gO cs=true,p)
  |none=>none):=rfl
@[simp]theorem aoF:nG b e agg sz (.eptr p)=if agg then some (isAgg sz p,p)else some (eV p=true/\cells p=[p],p):=rfl
@[simp]theorem ang:C5 agg sz (.eptr p)=if agg then some (isAgg sz p,p)else some (eV p=true/\cells p=[p],p):=rfl
@[simp]theorem am4{o:Nat}:pf off agg sz (.ptr k o)=some (True,.ptr k (o+off)):=rfl
@[simp]theorem am6{dL f:Nat}:pf off agg sz (.rptr dL k m j f)=some (True,.rptr dL k m j (f+off)):=rfl
@[simp]theorem amW:pf off agg sz (.eptr (.agg cs))=if agg then some (off+sz<=cs.length,.eptr (.agg ((cs.drop off).take sz)))else(cs[off]?).map fun p=>(eV p=true/\cells p=[p],.eptr p):=rfl
@[simp]theorem am8:s3 off agg sz (.agg cs)=if agg then some (off+sz<=cs.length,.agg ((cs.drop off).take sz))else(cs[off]?).map fun p=>(True,p):=rfl
@[simp]theorem anQ{dL:Nat}:Bj sz (.slice dL tag xs) (.int hU i)=if dL=sz then some (0<=i/\i<xs.length,.eptr (xs.getD i.toNat .junk))else none:=rfl
@[simp]theorem anP{dL:Nat}:Bj sz (.row dL k m) (.int hU i)=if dL=sz then some (0<=i/\i<m,.rptr dL k m i.toNat 0)else none:=rfl
@[simp]theorem aoE{dL:Nat}:Bv (.slice dL tag xs)=some (True,.int .i64 xs.length):=rfl
@[simp]theorem aoD{dL:Nat}:Bv (.row dL k m)=some (True,.int .i64 m):=rfl
@[simp]theorem aoC{a:aW Addr}{n c:Nat}:Bv (.cst (.slice a n c))=some (True,.int .i64 n):=rfl
@[simp]theorem aph{s}:EV (.cst (.string s))=some (True,.int .i64 s.size):=rfl
@[simp]theorem api:EV (.str s)=some (True,.int .i64 s.length):=rfl
@[simp]theorem amV:FX j (.tuple vs)=(vs[j]?).map fun p=>(True,p):=rfl
@[simp]theorem aoY:BD (.ptr k off)=some (True,.ptr k off):=rfl
@[simp]theorem aoW:BD (.eptr p)=some (True,.eptr p):=rfl
@[simp]theorem aoX:BD (.func j cs)=some (True,.func j cs):=rfl
@[simp]theorem ao1:Hr (.bool O8)=some (True,.bool (!O8)):=rfl
@[simp]theorem apg:Ic (.str s) (.int hU i)=some (0<=i/\i<s.length,.int .u8 (s.getD i.toNat 0).toNat):=rfl
@[simp]theorem apN:Ig (.str s) lo aw=(match r7 0 lo,r7 s.length aw with
  |some l,some h=>some (0<=l/\l<=h/\h<=s.length,.str ((s.take h.toNat).drop l.toNat))
  |_,_=>none):=rfl
@[simp]theorem aoK{dL:Nat}:He sz (.slice dL tag xs) lo aw=(if dL=sz then match r7 0 lo,r7 xs.length aw with
  |some l,some h=>some (0<=l/\l<=h/\h<=xs.length,.slice sz .no ((xs.take h.toNat).drop l.toNat))
  |_,_=>none else none):=rfl
theorem UL{f:aC->aW (List ae)}{cg:kJ}{z q:ae}{ok:Bool}:pD f cg z ok (.gmap k) q=(match f k with
  |some (.hdm _ _::kvs)=>if zD cg q=false then none else match vd cg q kvs with
   |some (some v)=>some (True,if ok then .tuple [v,.bool true]else v)
   |some none=>some (True,if ok then .tuple [z,.bool false]else z)
   |none=>none
  |_=>none):=rfl
theorem agu{f:aC->aW (List ae)}:wK f (.gmap k)=(match f k with
  |some (.hdm _ borns::_)=>some (True,.int .i64 borns.length)
  |_=>none):=rfl
theorem agp{f:aC->aW (List ae)}:vc f (.ptr k 0)=(match f k with
  |some [.hdi _ seen last,.gmap mk]=>match f mk with
   |some (.hdm clock borns::kvs)=>match seen.getLast? with
    |some n=>(pC n borns kvs).map fun p=>(clock=last,p)
    |none=>none
   |_=>none
  |_=>none):=rfl
@[simp]theorem ape{dL f n' el iz:Nat}:zT agg sz dL m j f (some ⟨n',el,iz,some xs⟩)=(if n'=m/\iz=dL then
   (match xs[j]? with
    |some p=>if agg then some (eV p=true/\f+sz<=(cells p).length,.agg (((cells p).drop f).take sz))else((cells p)[f]?).map fun q=>(eV p=true,q)
    |none=>none)else none):=rfl
end
attribute [simp] aas aaN aat aav aaR aaP aaD aaS aaQ aaE aaO aau aaw yO Yv Yu Yw YA YC abe abg aba aa9 abb aa7 akp abc
 abl abh abk abi abj aaU aaT Nu Nv mE hk iy bP get put jq q2 oe og dj r7 mg Bm Ih nL vL HE Hm FF Hi
 look fE ej.dst ek.dst ud xf rJ bC bD kin kinL
 aax aay aaB aaC aaz aaA agH agF aaY aaZ aaW aaV aaX aa5 aa1 aa4 aa2 aa3 Ns Nt eR oC lz zd gC.loadO pU ID zz gO nn abd aaL aaM aaH aaI aaJ aaK xB J8 uL AV YD wQ Ew BO sj sd Fq Hg Fo pZ
theorem aZ{P:bS}{n:Nat}{args:List ae}{st:aU}{d:aW Nat}{K:aU->Prop}{r:ae}(aK:bW P n args r)(h:K {st with t:=fE d r st.t})(ab:kinL (fun _=>dr) args:=by simp):CallDo P n args st d K:=CallDo.val ab aK h
theorem av{a b:Prop}(ah:b)(bL:a:=by first|omega|(unfold aY;omega)|(unfold aR;omega)):a/\b:=⟨bL,ah⟩
theorem dQ{p:Prop}(h:dr:=by first|contradiction|omega):p:=h.elim
theorem bY{p:Prop}(h:p:=by(try simp[*]);(repeat' first|with_reducible refine av ?_|with_reducible refine aZ (by assumption) ?_|with_reducible refine a1 (by assumption) ?_|simp[*]);(all_goals first|done|(simp[cn,ba,bg,aT, *];done))):p:=h
attribute [simp] abf aa8 aaF aaG CH GY gM fL CS CQ FB AE xA AU zb
end
section
open Go Go.RowKit
structure hn (s:dJ):Prop where
 obj:hV s
 kb:∀k cs,look k s.b=some cs->kinL (ak s) cs
 ke:∀k o,look k s.e=some o->cw (ak s) o
structure Same (s al:dJ):Prop where
 b:∀k,(look k s.b).isSome=(look k al.b).isSome
 e:∀k,(look k s.e).isSome=(look k al.e).isSome
theorem Same.refl(s:dJ):Same s s:=⟨fun _=>rfl,fun _=>rfl⟩
theorem x8{α:Type}{k:aC}{x:α}:∀{l:List (aC×α)},(k,x)∈l->(look k l).isSome
 |(i,y)::r,h=>by
  simp only[look];split
  ·rfl
  ·rename_i b7;rcases gy.1 h with h|h
   ·cases h;exact absurd rfl b7
   ·exact x8 h
theorem Tv{s:dJ}{k:aC}(h:k∈ev s):ak s k:=by
 unfold ev at h;rcases hl.1 h with h|h
 ·obtain⟨⟨bn,x⟩,I,rfl⟩:=nj.1 h;exact .inl (x8 I)
 ·obtain⟨⟨bn,x⟩,I,rfl⟩:=nj.1 h;exact .inr (x8 I)
theorem agd{s:dJ}(h:hV s)(m:Nat):aC.loc m∉ev s:=fun hm=>by
 rcases Tv hm with I|I
 ·rw[h.1 m]at I;cases I
 ·rw[h.2 m]at I;cases I
theorem Fc{α β:Type}(s:List (aC×β)):∀(a b:List (aC×α)),bc s (a++b)=bc s a++bc s b
 |[],b=>rfl
 |(k,x)::r,b=>by
  simp only[dF,bc];cases look k s with
  |none=>simp[Fc s r b]
  |some _=>exact Fc s r b
theorem Yi{α β:Type}(s:List (aC×β)):∀(l:List (aC×α)),(∀k x,(k,x)∈l->(look k s).isSome)->bc s l=[]
 |[],_=>rfl
 |(k,x)::r,h=>by
  have I:=h k x Ψ;simp only[bc];cases aD:look k s with
  |none=>rw[aD]at I;cases I
  |some _=>exact Yi s r fun k x af=>h k x (by simp[af])
theorem yI{α:Type}(s:List (aC×α)):bc s s=[]:=Yi s s fun k x h=>x8 h
theorem XP{α:Type}{k:aC}{x:α}:∀{l:List (aC×α)},look k l=none->dj k x l=l++[(k,x)]
 |[],_=>rfl
 |(i,y)::r,h=>by
  simp only[look]at h;split at h
  ·cases h
  ·rename_i b7;simp[dj,b7,XP h]
theorem tO{α:Type}(k:aC):∀(a b:List (aC×α)),look k (a++b)=match look k a with|some x=>some x|none=>look k b
 |[],b=>rfl
 |(i,y)::r,b=>by
  simp only[dF,look];split
  ·rfl
  ·exact tO k r b
theorem CallDo.ob{P:bS}{n:Nat}{args:List ae}{st:aU}{d:aW Nat}{K:aU->Prop}{s:dJ}{Q:ae->dJ->Prop}(aK:b3 P n args s Q)(az:hn s)(ah:∀k cs,look k s.b=some cs->look k st.b=some cs)(he:∀k o,look k s.e=some o->look k st.e=some o)
  (ab:kinL (ak s) args) (h:∀r al,Q r al->Same s al/\K ⟨fE d r st.t,bc s.b st.b++al.b,bc s.e st.e++al.e,st.n,st.o++ev al⟩):CallDo P n args st d K:=by
 refine .inl ⟨s,Q,fun k cs aH=>⟨ah k cs aH,.inl (by simp[aH]),az.kb k cs aH⟩,fun k o aq=>⟨he k o aq,.inr (by simp[aq]),az.ke k o aq⟩,az.obj,ab,aK,fun r al bp=>?_⟩;obtain⟨I,J⟩:=h r al bp;exact⟨⟨fun m hm=>.inl (by rw[I.b];exact hm),fun m hm=>.inl (by rw[I.e];exact hm)⟩,J⟩
theorem cO.ob{dv:List ca}{s al:dJ}{Q:ae->dJ->Prop}{e:Exit}{st:aU}{c:Prop}{bj:List ae}(iR:e= .ret\/e= .normal)(h2:ba st dv=some (c,bj))(aH:c)(az:hn al)(ff:Same s al)(ah:∀k cs,look k al.b=some cs->look k st.b=some cs)(cH:∀k o,look k al.e=some o->look k st.e=some o)
  (ab:kin (ak al) (bD (aT bj))) (bp:Q (bD (aT bj)) al):cO dv s Q e st:=by
 refine⟨iR,?_⟩;rw[h2];have Gz:∀{α:Type} (l:List (aC×α)),(∀k x,(k,x)∈l->ak al k)->hd al l:=by
  intro α l;induction l with
  |nil=>intro _;trivial
  |cons x r aX=>obtain⟨k,x⟩:=x;intro h;exact⟨h k x Ψ,aX fun k x af=>h k x (by simp[af])⟩
 exact⟨aH,al,Gz _ fun k x af=>.inl (by rw[<-ff.b];exact x8 af),Gz _ fun k x af=>.inr (by rw[<-ff.e];exact x8 af),fun k cs dc=>⟨ah k cs dc,.inl (by simp[dc]),az.kb k cs dc⟩,fun k o aq=>⟨cH k o aq,.inr (by simp[aq]),az.ke k o aq⟩,az.obj,ab,bp⟩
theorem b3.mono{P:bS}{f:FuncId}{args:List ae}{s:dJ}{Q o1:ae->dJ->Prop}(h:b3 P f args s Q)(bp:∀r al,Q r al->o1 r al):b3 P f args s o1:=by
 intro w ν vs gl I J au;have hm:∀(e:Ending) (w':World),(∃v r al ν',e= .returned v/\Q r al/\aJ w' ν' r v/\Good (fun bl=>fY ν s bl\/w.heap.size<=bl) w' ν' al.b al.e/\qR ν' al/\hV al/\ox ⟨w,ν,fY ν s,0,ev s,gl,[]⟩ w' ν')->(∃v r al ν',e= .returned v/\o1 r al/\aJ w' ν' r v/\Good (fun bl=>fY ν s bl\/w.heap.size<=bl) w' ν' al.b al.e/\qR ν' al/\hV al/\ox ⟨w,ν,fY ν s,0,ev s,gl,[]⟩ w' ν'):=by rintro e w' ⟨v,r,al,ν',bH,a2,a3⟩;exact⟨v,r,al,ν',bH,bp _ _ a2,a3⟩
 rcases h w ν vs gl I J au with⟨xP,aH⟩|⟨v,w',aH,hr⟩
 ·exact .inl ⟨xP,aH.mono hm⟩
 ·exact .inr ⟨v,w',aH,hm _ _ hr⟩
def c8(st:aU)(dv:List ca)(R:ae->Prop):Prop:=match ba st dv with
 |some (c,bj)=>c/\R (bD (aT bj))
 |none=>dr
theorem cO.at{dv:List ca}{s:dJ}{Q:ae->dJ->Prop}{e:Exit}{st:aU}(al:dJ)(iR:e= .ret\/e= .normal)(az:hn al)(ff:Same s al)(ah:∀k cs,look k al.b=some cs->look k st.b=some cs)(cH:∀k o,look k al.e=some o->look k st.e=some o)
  (h:c8 st dv fun r=>kin (ak al) r/\Q r al):cO dv s Q e st:=by
 unfold c8 at h;split at h
 ·rename_i c bj hr;exact cO.ob iR hr h.1 az ff ah cH h.2.1 h.2.2
 ·exact h.elim
theorem qE.ob{P:bS}{nw:List Nat}{n:Nat}{args:List ae}{st:aU}{d:aW Nat}{K:aU->Prop}{s al:dJ}{r:ae}(aK:b3 P n args s fun cZ t'=>cZ=r/\t'=al)(az:hn s)(hL:hn al)(ff:Same s al)(ah:∀k cs,look k s.b=some cs->look k st.b=some cs)(he:∀k o,look k s.e=some o->look k st.e=some o)
  (ab:kinL (ak s) args) (h:K ⟨fE d r st.t,bc s.b st.b++al.b,bc s.e st.e++al.e,st.n,st.o⟩):qE P false nw n args st d K:=
 .inr ⟨s,al,r,none,fun k cs aH=>⟨ah k cs aH,.inl (by simp[aH]),az.kb k cs aH⟩,fun k o aq=>⟨he k o aq,.inr (by simp[aq]),az.ke k o aq⟩,az.obj,hL.obj,⟨fun k ab=>.inl (by rw[ff.b];exact ab),fun k ab=>.inl (by rw[ff.e];exact ab),fun k ab=>by rw[<-ff.b];exact ab,fun k ab=>by rw[<-ff.e];exact ab,fun k ab=>by cases ab⟩,ab,aK,(fun e=>by cases e),h⟩
theorem hn.of{s:dJ}(aq:hV s)(ah:∀x∈s.b,kinL (ak s) x.2)(he:∀x∈s.e,∀xs,x.2.xs=some xs->kinL (ak s) xs):hn s:=⟨aq,fun k cs ab=>ah (k,cs) (x7 ab),fun k o ab xs af=>he (k,o) (x7 ab) xs af⟩
@[simp]theorem ao4(b:List (aC×List ae))(e:List (aC×dn)):ev ⟨b,e⟩=b.map (·.1)++e.map (·.1):=rfl
theorem af4{α:Type}{s b:List (aC×α)}(h:∀p∈s,look p.1 b=some p.2):∀k x,look k s=some x->look k b=some x:=fun k x af=>h (k,x) (x7 af)
theorem cG{S:aC->Prop}{gV b:List (aC×List ae)}(h:∀p∈gV,look p.1 b=some p.2/\S p.1/\kinL S p.2):qs S gV b:=fun k x af=>h (k,x) (x7 af)
theorem cI{S:aC->Prop}{gV b:List (aC×dn)}(h:∀p∈gV,look p.1 b=some p.2/\S p.1/\cw S p.2):rj S gV b:=fun k x af=>h (k,x) (x7 af)
theorem aA{α:Type}{s b:List (aC×α)}(h:∀k x,look k s=some x->look k b=some x:=by first|(refine af4 ?_;simp;done)|(intro k x af;first|exact af|(simp[af,yI];done)|(simp[tO,yI,af];done)|(cases k<;>simp_all[tO];done))):∀k x,look k s=some x->look k b=some x:=h
theorem cW{ob:List aC}{st st':aU}(I:∀x∈st'.t,get x.1 st.t=x.2/\kin (fun k=> ¬fresh st'.n st'.o k) x.2:=by simp[fresh,kinL,kin,bu,ak,Pv.look])(J:∀p∈st'.b,look p.1 st.b=some p.2/\(¬fresh st'.n st'.o p.1)/\kinL (fun k=> ¬fresh st'.n st'.o k) p.2:=by simp[fresh,kinL,kin,bu,ak,Pv.look])(au:∀p∈st'.e,look p.1 st.e=some p.2/\(¬fresh st'.n st'.o p.1)/\cw (fun k=> ¬fresh st'.n st'.o k) p.2:=by simp[fresh,kinL,kin,cw,ak,Pv.look])(aP:∀m∈ob,m∈st'.o:=by simp):il ob st st':=⟨I,cG J,cI au,aP⟩
theorem b1.next{ob:List aC}{j5:Nat->aU->Prop}{k:Nat}{Q:Exit->aU->Prop}{st:aU}(bn:Nat){al:aU}(ab:bn<k)(aw:j5 bn al)(hw:il ob st al):b1 ob j5 k Q .normal st:=⟨bn,al,ab,hw,aw⟩
def flat:List (Int×ae)->List ae
 |[]=>[]
 |(k,v)::r=>.int .i64 k::v::flat r
def mz(l:List (Int×ae)):List ae:= .hdm l.length (List.range l.length)::flat l
def xl(k:Int):List (Int×ae)->aW ae
 |[]=>none
 |(i,v)::r=>if k=i then some v else xl k r
def rK(k:Int)(v:ae):List (Int×ae)->aW (List (Int×ae))
 |[]=>none
 |(i,w)::r=>if k=i then some ((k,v)::r)else match rK k v r with|some cZ=>some ((i,w)::cZ)|none=>none
def oA(k:Int)(v:ae)(l:List (Int×ae)):List (Int×ae):=match rK k v l with|some c6=>c6|none=>l++[(k,v)]
@[simp]theorem aoM:[ae.hdm 0 []]=mz []:=rfl
theorem RE:∀a b,flat (a++b)=flat a++flat b
 |[],_=>rfl
 |(k,v)::r,b=>by simp[flat,RE r b]
theorem UI(k:Int):∀l,vd .i (.int .i64 k) (flat l)=some (xl k l)
 |[]=>rfl
 |(i,v)::r=>by
  simp only[flat,vd,wF,xl];by_cases h:k=i
  ·simp[h]
  ·have:(k==i)=false:=by simp[h]
   simp[h,UI k r,this]
theorem O4{k:Int}{v:ae}:∀{l c6},rK k v l=some c6->c6.length=l.length
 |[],_,h=>by simp[rK]at h
 |(i,w)::r,c6,h=>by
  simp only[rK]at h;split at h
  ·cases h;rfl
  ·split at h
   ·rename_i cZ hr;cases h;simp[O4 hr]
   ·cases h
theorem UR(k:Int)(v:ae):∀l,wL .i (.int .i64 k) v (flat l)=some ((rK k v l).map flat)
 |[]=>rfl
 |(i,w)::r=>by
  simp only[flat,wL,wF,rK];by_cases h:k=i
  ·subst h;simp[flat]
  ·simp only[and_self,if_true,h,if_false,eA,UR k v r];have:(k==i)=false:=by simp[h]
   rw[this];cases rK k v r<;>simp[flat]
@[simp]theorem agw(k:Int)(v:ae)(l:List (Int×ae)):r3 .i (.int .i64 k) v (mz l)=some (mz (oA k v l)):=by
 simp only[mz,r3,Ue,Bool.true_eq_false,reduceCtorEq,if_false,UR,oA];cases h:rK k v l with
 |some c6=>simp[O4 h]
 |none=>simp[RE,flat,List.range_succ]
@[simp]theorem od(f:aC->aW (List ae))(m:aC)(l:List (Int×ae))(z:ae)(ok:Bool)(k:Int)(hm:f m=some (mz l)):pD f .i z ok (.gmap m) (.int .i64 k)=(match xl k l with
  |some v=>some (True,if ok then .tuple [v,.bool true]else v)
  |none=>some (True,if ok then .tuple [z,.bool false]else z)):=by
 simp only[UL,hm,mz,Ue,Bool.true_eq_false,reduceCtorEq,if_false,UI];cases xl k l<;>rfl
def bu(n:Nat)(seen:List Nat)(m:aC):List ae:=[.hdi n seen n,.gmap m]
@[simp]theorem apd(m:aC)(l:List (Int×ae)):EC m (mz l)=some (bu l.length [] m):=rfl
@[simp]theorem apa(l:List (Int×ae)):gO (mz l)=false:=rfl
theorem L3(b:Nat):∀(n:Nat) (l:List (Int×ae)),pC b (List.range' n l.length) (flat l)=(if n<=b then(l[b-n]?).map fun x=>.tuple [.int .i64 x.1,x.2]else none)
 |n,[]=>by simp[pC,flat]
 |n,(k,v)::r=>by
  simp only[gg,List.range'_succ,flat,pC];by_cases h:n=b
  ·subst h;simp
  ·rw[br h,L3 b (n+1) r];by_cases J:n<=b
   ·rw[if_pos J,if_pos Ω];have:b-n=(b-(n+1))+1:=Ω
    rw[this];simp
   ·rw[br J,br Ω]
@[simp]theorem ago(f:aC->aW (List ae))(hU mk:aC)(n:Nat)(seen:List Nat)(b:Nat)(l:List (Int×ae))(aw:f hU=some (bu n (seen++[b]) mk))(hm:f mk=some (mz l))(aM:n=l.length):vc f (.ptr hU 0)=(l[b]?).map fun x=>(True,.tuple [.int .i64 x.1,x.2]):=by subst aM;simp only[agp,aw,hm,bu,mz,List.getLast?_append,List.getLast?_singleton,Option.some_or,List.range_eq_range',L3,pT,if_true,Nat.sub_zero,Option.map_map];cases l[b]?<;>simp
theorem aar{st:aU}{d:Nat}{K:aU->Prop}{hU mk:aC}{n:Nat}{seen:List Nat}{l:List (Int×ae)}(aw:look hU st.b=some (bu n seen mk))(hm:look mk st.b=some (mz l))(aM:n=l.length)
  (I:(∀b,b<n->b∈seen)->K {st with t:=put d (.tuple [.bool false]) st.t}) (J:∀b k v,l[b]? =some (k,v)->b∉seen->K {st with t:=put d (.tuple [.bool true,.int .i64 k,v]) st.t,b:=dj hU (bu n (seen++[b]) mk) st.b}):
  y6 st d (.ptr hU 0) K:=by
 subst aM;simp only[y6,aw,bu,hm,mz,UX,and_self,true_and];refine⟨fun h=>I fun b ah=>h b (by simpa using ah),fun b k v KI ah=>?_⟩;rw[List.range_eq_range',L3]at KI;simp only[pT,if_true,Nat.sub_zero,iN,ae.tuple.injEq,sH,and_true]at KI;obtain⟨⟨bn,v'⟩,ao,aL,bB⟩:=KI;simp only at aL bB;subst aL bB;exact J b bn v' ao ah
theorem ah8{n:Nat}{seen:List Nat}(aI:seen.Nodup)(b5:∀b∈seen,b<n)(mm:∀b,b<n->b∈seen):seen.Perm (List.range n):=(List.perm_ext_iff_of_nodup aI List.nodup_range).2 fun b=>⟨fun h=>by simpa using b5 b h,fun h=>mm b (by simpa using h)⟩
theorem WY{n:Nat}{seen:List Nat}(aI:seen.Nodup)(b5:∀b∈seen,b<n):seen.length<=n:=by have:=alA aI (l₂:=List.range n) (fun b ah=>by simpa using b5 b ah);simpa using this
theorem ajw{n b:Nat}{seen:List Nat}(aI:seen.Nodup)(b5:∀b∈seen,b<n)(ah:b<n)(aM:b∉seen):seen.length<n:=by have I:(b::seen).Nodup:=List.nodup_cons.2 ⟨aM,aI⟩;have:=WY I (n:=n) (by simp;exact⟨ah,b5⟩);simp at this;omega
theorem Wj{α:Type}:∀(l pre:List α),(List.range' pre.length l.length).filterMap (fun b=>(pre++l)[b]?)=l
 |[],_=>rfl
 |x::r,pre=>by have aX:=Wj r (pre++[x]);simp only[gx,List.length_singleton,lr,List.singleton_append]at aX;simp[List.range'_succ,aX]
theorem ajv{α:Type}{l:List α}{seen:List Nat}(aI:seen.Nodup)(b5:∀b∈seen,b<l.length)(mm:∀b,b<l.length->b∈seen):(seen.filterMap fun b=>l[b]?).Perm l:=by have I:=(ah8 aI b5 mm).filterMap fun b=>l[b]?;have J:=Wj l [];simp only[mJ,eE,<-List.range_eq_range']at J;rwa[J]at I
theorem agM{b:Nat}{seen:List Nat}(aI:seen.Nodup)(aM:b∉seen):(seen++[b]).Nodup:=by rw[qC];exact⟨aI,Ψ,by simp;intro a bL e;subst e;exact aM bL⟩
theorem cm.start{w:World}{ν:aQ}(gl:oZ w ν){s:dJ}{args:List ae}{vs:Array Value}(lD:hV s)(aS:Good (fY ν s) w ν s.b s.e)(af:qR ν s)(hr:cz w ν args vs.toList):
  cm ⟨w,ν,fY ν s,vs.size,ev s,gl,[]⟩ ⟨iy 0 args,s.b,s.e,0,ev s⟩ {tmps:=vs,defers:=[]} w ν:=by
 have nD:=wV hr;have gF:vs.size=args.length:=by simpa using nD
 have jX:∀k,fresh 0 (ev s) k->ν.bx k=none/\ν.ow k=none/\∀j b,¬ν.tr k j b:=by
  intro k ab;cases k with
  |loc m=>exact⟨(af _).1 (lD.1 m),(af _).2.1 (lD.2 m),(af _).2.2⟩
  |obj m=>
   simp only[fresh,true_and]at ab;refine⟨?_,?_,(af _).2.2⟩
   ·refine(af _).1 ?_;cases h:look (.obj m) s.b with
    |none=>rfl
    |some x=>exact absurd (wO (.inl (by simp[h]))) ab
   ·refine(af _).2.1 ?_;cases h:look (.obj m) s.e with
    |none=>rfl
    |some x=>exact absurd (wO (.inr (by simp[h]))) ab
 have mq:∀m,(ν.bx (.obj m)≠none\/ν.ow (.obj m)≠none)-> .obj m∈ev s:=by
  intro m hm;refine Classical.byContradiction fun aH=>?_;obtain⟨I,J,_⟩:=jX (.obj m) ⟨trivial,aH⟩;rcases hm with hm|hm
  ·exact hm I
  ·exact hm J
 refine⟨⟨aS.alt,fun k cs ab=>?_,aS.inj,fun g o fb=>?_,aS.oinj,aS.obx,aS.one,aS.otr⟩,⟨rfl,rfl,rfl,cc _,fun _ _ _=>rfl,fun b o h=>⟨h,rfl⟩,fun b o h=>.inl h,fun n b h=>h,fun n b h=>mq n (.inl (by rw[h];simp)),fun m n u h=>⟨n,u,h,.inl ⟨rfl,rfl⟩⟩,fun m n u h=>mq m (.inr (by rw[h];simp)),fun k j _ _ b h=>absurd h ((af k).2.2 j b),fun k j b h=>absurd h ((af k).2.2 j b),fun k j b h=>absurd h ((af k).2.2 j b),fun _ _ _=>rfl,fun j n u b ao _=>(by rw[(af _).2.1 (lD.2 j)]at ao;cases ao)⟩,rfl,rfl,fun i=>?_,jX,fun _ af=>(by cases af),fun m hm aK=>aK.2 hm⟩
 ·obtain⟨bl,us,el,g1,g2,g3⟩:=aS.box k cs ab;exact⟨bl,us,el,g1,.inl g2,g3⟩
 ·obtain⟨v,us,g1,g2,g3,g4⟩:=aS.own g o fb;exact⟨v,us,g1,g2,fun bl fc=>⟨.inl (g3 bl fc).1,(g3 bl fc).2⟩,g4⟩
 ·rw[AY];by_cases aw:i<args.length
  ·rw[if_pos Ω];have pq:args[i]? =some args[i]:=cL aw;obtain⟨v,ao,aL⟩:=B0 i hr pq;have nW:vs[i]? =some v:=by simpa using ao
   show aJ w ν _ (vs.getD i undef);rw[pO,nW];simpa[List.getD,pq]using aL
  ·rw[br Ω];simp[aJ]
theorem b3.sem{P:bS}{f:FuncId}{args:List ae}{s:dJ}{Q:ae->dJ->Prop}(lD:hV s)
  (h:∀(w:World) (ν:aQ) (vs:Array Value) (gl:oZ w ν),vs.size=args.length->cm ⟨w,ν,fY ν s,vs.size,ev s,gl,[]⟩ ⟨iy 0 args,s.b,s.e,0,ev s⟩ {tmps:=vs,defers:=[]} w ν->
   xd P f vs w fun e w'=> ∃v st' ch ν' r al,e= .returned v/\cm ⟨w,ν,fY ν s,vs.size,ev s,gl,[]⟩ st' ch w' ν'/\aJ w' ν' r v/\hd al s.b/\hd al s.e/\qs (ak al) al.b st'.b/\rj (ak al) al.e st'.e/\hV al/\kin (ak al) r/\Q r al):b3 P f args s Q:=by
 intro w ν vs gl aS af hr;have gF:vs.size=args.length:=by simpa using wV hr
 have n7:=cm.start gl lD aS af hr;have hm:∀(e:Ending) (w':World),(∃v st' ch ν' r al,e= .returned v/\cm ⟨w,ν,fY ν s,vs.size,ev s,gl,[]⟩ st' ch w' ν'/\aJ w' ν' r v/\hd al s.b/\hd al s.e/\qs (ak al) al.b st'.b/\rj (ak al) al.e st'.e/\hV al/\kin (ak al) r/\Q r al)->
   ∃v r al ν',e= .returned v/\Q r al/\aJ w' ν' r v/\Good (fun bl=>fY ν s bl\/w.heap.size<=bl) w' ν' al.b al.e/\qR ν' al/\hV al/\ox ⟨w,ν,fY ν s,0,ev s,gl,[]⟩ w' ν':=by
  rintro e w' ⟨v,st',ch,ν',r,al,rfl,cp,MK,kb,ke,b0,cS,dT,dY,di⟩;refine⟨v,r,al,ν'.cut (ak al),rfl,di,sb (nR.cut _ w' ν') _ _ dY MK,cp.good.cut b0 cS (fun bl h _=>h),?_,dT,?_⟩
  ·intro k;refine⟨?_,?_,?_⟩;rotate_left 2
   ·rintro j b ⟨az,ah⟩;obtain⟨t1,t2⟩:=cp.fr.trn k j b ah;rcases az with az|az<;>obtain⟨x,q0⟩:=fv.1 az
    ·obtain⟨bl,bE,el,ao,_⟩:=cp.good.box k x (b0 k x q0).1;rw[t1]at ao;cases ao
    ·obtain⟨v',bE,ao,_⟩:=cp.good.own k x (cS k x q0).1;rw[t2]at ao;cases ao
   ·intro ab;by_cases az:ak al k
    ·rw[aQ.cut_bx az];rcases az with az|az
     ·rw[ab]at az;cases az
     ·obtain⟨x,q0⟩:=fv.1 az;obtain⟨v',bE,ao,_⟩:=cp.good.own k x (cS k x q0).1;rcases cp.good.one k with I|I
      ·exact I
      ·rw[I]at ao;cases ao
    ·exact(aQ.cut_no az).1
   ·intro ab;by_cases az:ak al k
    ·rw[aQ.cut_ow az];rcases az with az|az
     ·obtain⟨x,q0⟩:=fv.1 az;obtain⟨bl,bE,el,ao,_⟩:=cp.good.box k x (b0 k x q0).1;rcases cp.good.one k with I|I
      ·rw[I]at ao;cases ao
      ·exact I
     ·rw[ab]at az;cases az
    ·exact(aQ.cut_no az).2.1
  ·refine⟨cp.fr.os,cp.fr.tape,cp.fr.output,cp.fr.size,cp.fr.block,cp.fr.keep,cp.fr.fresh,fun n b h=>?_,cp.fr.obn,fun m n u h=>?_,cp.fr.obr,fun k j bn eQ b I J=>cp.fr.trd k j bn eQ b I.2 J.2,fun k j b ah=>cp.fr.trb k j b ah.2,fun k j b ah=>(by rw[aQ.cut_bx ah.1,aQ.cut_ow ah.1];exact cp.fr.trn k j b ah.2),cp.fr.sh,fun j n u b ao aL=>cp.fr.nrow j n u b (aQ.cut_someO ao).2 aL⟩
   ·have az:ak al (.obj n):=by
     cases aD:look (.obj n) s.b with
     |none=>rw[(af _).1 aD]at h;cases h
     |some x=>exact zC kb _ (by simp[aD])
    rw[aQ.cut_bx az];exact cp.fr.obj n b h
   ·have az:ak al (.obj m):=by
     cases aD:look (.obj m) s.e with
     |none=>rw[(af _).2.1 aD]at h;cases h
     |some x=>exact zC ke _ (by simp[aD])
    rw[aQ.cut_ow az];exact cp.fr.row m n u h
 rcases h w ν vs gl gF n7 with⟨xP,aH⟩|⟨v,w',aH,h2⟩
 ·exact .inl ⟨xP,aH.mono hm⟩
 ·exact .inr ⟨v,w',aH,hm _ _ h2⟩
theorem cm.grown{C:eK}{st:aU}{a:Act}{w w':World}{ν:aQ}(h:cm C st a w ν)(aS:w.grownBy w' none):cm C st a w' ν:=by
 have mU:mK w ν w' ν:=⟨fun b o bf=>⟨bf,Qn aS (h.good.alt b o bf)⟩,fun _ _ _ h=>h,fun _ n u _ h=>⟨n,u,h,.inl ⟨rfl,rfl⟩⟩,fun b o bf=>zY (aS.block b (h.good.alt b o bf) Ψ),fun _ _ _ _ h=>h⟩;refine h.over mU rfl ⟨fun b o bf=>Nat.lt_of_lt_of_le (h.good.alt b o bf) aS.size,fun k cs ab=>?_,h.good.inj,fun g o fb=>?_,h.good.oinj,h.good.obx,h.good.one,h.good.otr⟩
  ⟨aS.os.trans h.fr.os,aS.tape.trans h.fr.tape,aS.output.trans h.fr.output,Nat.le_trans h.fr.size aS.size,fun k ab hm=>?_,fun b o bf=>?_,h.fr.fresh,h.fr.obj,h.fr.obn,h.fr.row,h.fr.obr,h.fr.trd,fun k j b ah=>⟨(h.fr.trb k j b ah).1,Nat.lt_of_lt_of_le (h.fr.trb k j b ah).2 aS.size⟩,h.fr.trn,fun b o bf=>(mU.sh b o (h.fr.keep b o bf).1).trans (h.fr.sh b o bf),h.fr.nrow⟩ h.new
 ·obtain⟨bl,us,el,g1,g2,g3,g4,g5⟩:=h.good.box k cs ab;exact⟨bl,us,el,g1,g2,g3,by rw[aS.block bl (Array.getElem?_eq_some_iff.1 g4).1 Ψ];exact g4,qn mU g5⟩
 ·obtain⟨v,us,g1,g2,g3,g4⟩:=h.good.own g o fb;exact⟨v,us,g1,g2.kept aS (by cases v.ownBlock<;>simp),g3,sc mU (fun _ _ _ h=>h) g4⟩
 ·rw[aS.block k (Nat.lt_of_lt_of_le ab h.fr.size) Ψ];exact h.fr.block k ab hm
 ·obtain⟨cD,dI⟩:=h.fr.keep b o bf;exact⟨cD,(mU.A b o cD).2.trans dI⟩
theorem cO.new{dv:List ca}{s:dJ}{Q:ae->dJ->Prop}{e:Exit}{st:aU}(al:dJ)(iR:e= .ret\/e= .normal)(az:hn al)(ff:hd al s.b/\hd al s.e)(ah:∀k cs,look k al.b=some cs->look k st.b=some cs)(cH:∀k o,look k al.e=some o->look k st.e=some o)
  (h:c8 st dv fun r=>kin (ak al) r/\Q r al):cO dv s Q e st:=by
 unfold c8 at h;split at h
 ·rename_i c bj hr;refine⟨iR,?_⟩;rw[hr];exact⟨h.1,al,ff.1,ff.2,fun k cs dc=>⟨ah k cs dc,.inl (by simp[dc]),az.kb k cs dc⟩,fun k o aq=>⟨cH k o aq,.inr (by simp[aq]),az.ke k o aq⟩,az.obj,h.2.1,h.2.2⟩
 ·exact h.elim
@[simp]theorem amS{P:bS}{ob:List aC}{c d:C}{Q:Exit->aU->Prop}{st:aU}{s:Nat}:cQ P ob (.seq (.pub s c) d) Q st=yL P ob (.seq c d) Q (wQ st s):=by simp only[cQ];cases wQ st s<;>rfl
end
section
open Go Go.RowKit
def D8(t:List (Nat×ae))(cg:List Nat):List (Nat×ae):=cg.map fun k=>(k,get k t)
@[simp]theorem aoc(t:List (Nat×ae)):D8 t []=[]:=rfl
@[simp]theorem aob(t:List (Nat×ae))(k:Nat)(cg:List Nat):D8 t (k::cg)=(k,get k t)::D8 t cg:=rfl
def qj(st:aU)(cg:List Nat)(cs:List (Nat×ae)):aU:=⟨D8 st.t cg++cs,st.b,st.e,st.n,st.o⟩
theorem agq(t:List (Nat×ae))(b:List (aC×List ae))(e:List (aC×dn))(n:Nat)(o:List aC)(cg:List Nat)(cs:List (Nat×ae)):qj ⟨t,b,e,n,o⟩ cg cs=⟨D8 t cg++cs,b,e,n,o⟩:=rfl
def Aj{α:Type}(S:Nat->α->aU)(n:Nat)(fy:Nat->α->Prop)(k:Nat)(st:aU):Prop:= ∃i a,i<=n/\k=n-i/\fy i a/\st=S i a
section
variable {P:bS} {ob:List aC} {st:aU} {Q:Exit->aU->Prop} {c:C} {α:Type}
theorem fA(S:Nat->α->aU)(n:Nat)(fy:Nat->α->Prop)(a0:α)(hw:il ob st (S 0 a0))(bz:fy 0 a0)(jG:∀a,fy n a->(∀i,gz (get i (S n a).t))->cQ P ob c (b1 ob (Aj S n fy) 0 Q) (S n a))
  (tC:∀i a,i<n->fy i a->(∀j,gz (get j (S i a).t))->cQ P ob c (b1 ob (Aj S n fy) (n-i) Q) (S i a)):cQ P ob (.loop c) Q st:=by
 refine FU (Aj S n fy) n _ hw ⟨0,a0,Ω,Ω,bz,rfl⟩ ?_;rintro k s ⟨i,a,aw,rfl,ai,rfl⟩ ah _;rcases mc i n with h|h
 ·exact tC i a h ai ah
 ·obtain rfl:i=n:=Ω
  rw[Nat.sub_self];exact jG a ai ah
theorem b1.rng{S:Nat->α->aU}{n:Nat}{fy:Nat->α->Prop}{i:Nat}(ch:α)(aw:i<n)(ai:fy (i+1) ch)(hw:il ob st (S (i+1) ch)):b1 ob (Aj S n fy) (n-i) Q .normal st:=⟨n-(i+1),_,Ω,hw,i+1,ch,Ω,rfl,ai,rfl⟩
def Fi{α:Type}(S:α->aU)(μ:α->Nat)(fy:α->Prop)(k:Nat)(st:aU):Prop:= ∃a,k=μ a/\fy a/\st=S a
theorem hR(S:α->aU)(μ:α->Nat)(fy:α->Prop)(a0:α)(hw:il ob st (S a0))(bz:fy a0)
  (tC:∀a,fy a->(∀j,gz (get j (S a).t))->cQ P ob c (b1 ob (Fi S μ fy) (μ a) Q) (S a)):cQ P ob (.loop c) Q st:=by
 refine FU (Fi S μ fy) (μ a0) _ hw ⟨a0,rfl,bz,rfl⟩ ?_;rintro k s ⟨a,rfl,ai,rfl⟩ ah _;exact tC a ai ah
theorem b1.whl{S:α->aU}{μ:α->Nat}{fy:α->Prop}{k:Nat}(ch:α)(hm:μ ch<k)(ai:fy ch)(hw:il ob st (S ch)):b1 ob (Fi S μ fy) k Q .normal st:=⟨μ ch,_,hm,hw,ch,rfl,ai,rfl⟩
end
theorem tZ{p:Prop}(h:p:=by(try simp[*]);(repeat' first|with_reducible refine av ?_|with_reducible refine aZ (by assumption) ?_|with_reducible refine a1 (by assumption) ?_|simp[*]);(all_goals first|exact b1.rng () (by assumption) (by first|assumption|trivial) cW|exact b1.rng _ (by assumption) (by assumption) cW)):p:=h
end
section
open Go Go.RowKit
section
variable {α:Type}
end
end
section
open Go Go.RowKit
section
variable {P:bS} {ob:List aC} {st:aU} {Q:Exit->aU->Prop} {c:C} {α:Type}
theorem sZ(cg:List Nat)(cs:Nat->α->List (Nat×ae))(n:Nat)(fy:Nat->α->Prop)(a0:α)(hw:il ob st (qj st cg (cs 0 a0)))(bz:fy 0 a0)(jG:∀a,fy n a->(∀i,gz (get i (qj st cg (cs n a)).t))->cQ P ob c (b1 ob (Aj (fun i a=>qj st cg (cs i a)) n fy) 0 Q) (qj st cg (cs n a)))
  (tC:∀i a,i<n->fy i a->(∀j,gz (get j (qj st cg (cs i a)).t))->cQ P ob c (b1 ob (Aj (fun i a=>qj st cg (cs i a)) n fy) (n-i) Q) (qj st cg (cs i a))):cQ P ob (.loop c) Q st:=
 fA (fun i a=>qj st cg (cs i a)) n fy a0 hw bz jG tC
theorem Q1(cg:List Nat)(cs:α->List (Nat×ae))(μ:α->Nat)(fy:α->Prop)(a0:α)(hw:il ob st (qj st cg (cs a0)))(bz:fy a0)
  (tC:∀a,fy a->(∀j,gz (get j (qj st cg (cs a)).t))->cQ P ob c (b1 ob (Fi (fun a=>qj st cg (cs a)) μ fy) (μ a) Q) (qj st cg (cs a))):cQ P ob (.loop c) Q st:=
 hR (fun a=>qj st cg (cs a)) μ fy a0 hw bz tC
end
attribute [simp] agq
end
section
open Go Go.RowKit
def dG(dv:List ca)(s:dJ)(κ:Nat)(Q:ae->dJ->Prop)(e:Exit)(st:aU):Prop:=
 (e= .ret\/e= .normal)/\match ba st dv with
  |some (c,bj)=>c/\∃al,al.e=[]/\hd al s.b/\qs (ak al) al.b st.b/\hV al/\(cX st.e (aT bj)/\(cC st.e (aT bj)).Nodup/\(cb (aT bj)).Nodup)/\Q (fold κ st.e 0 (aT bj)) al
  |none=>dr
noncomputable def aQ.fold(ν:aQ)(al:dJ)(κ:Nat)(e:List (aC×dn))(p:ae):aQ:=
 {A:=fun b o=>ν.A b o\/ ∃k,k∈cb p/\∃own,look k e=some own/\lj ν k b/\o<own.n*own.sz,
  bx:=(ν.cut (ak al)).bx,ow:=fun _=>none,
  tr:=fun k j b=>k= .loc κ/\∃S,(ft ν (fun b=> ∃k,k∈cb p/\lj ν k b) e p)[j]? =some S/\S b}
theorem FnK.of{P:bS}(hm:P.follows .mixedOrders=true){bk:List (Nat×dh)}(aE:eW P bk=true){f:FuncId}{fn:Func}(aK:P.funcs[f]? =some fn){code:Code}(ah:fn.body=some code)(fV:(fn.name== "runtime.NumGoroutine")=false){c:C}(aH:gW fn.ntmps bk c code=true){dv:List ca}(kf:pH bk dv fn.results.toList=true)
  {args:List ae} (aD:args.length<=fn.ntmps) {s:dJ} (lD:hV s) (hs:s.e=[]) {κ:Nat} {Q:ae->dJ->Prop} (he:gr args->(∀j cs,look j s.b=some cs->gO cs=true->gu cs)->cQ P (ev s) c (dG dv s κ Q) ⟨iy 0 args,s.b,s.e,0,ev s⟩):FnK P f κ args s Q:=by
 intro w ν vs gl aS af hr;refine .inl ⟨⟨fn,aK,by simp[ah],fV⟩,?_⟩;have nD:=wV hr;have gF:vs.size=args.length:=by simpa using nD
 let X:eK:=⟨w,ν,fY ν s,fn.ntmps,ev s,gl,[]⟩
 have jX:∀k,fresh 0 (ev s) k->ν.bx k=none/\ν.ow k=none/\∀j b,¬ν.tr k j b:=by
  intro k ab;cases k with
  |loc m=>exact⟨(af _).1 (lD.1 m),(af _).2.1 (lD.2 m),(af _).2.2⟩
  |obj m=>
   simp only[fresh,true_and]at ab;refine⟨?_,?_,(af _).2.2⟩
   ·refine(af _).1 ?_;cases h:look (.obj m) s.b with
    |none=>rfl
    |some x=>exact absurd (wO (.inl (by simp[h]))) ab
   ·refine(af _).2.1 ?_;cases h:look (.obj m) s.e with
    |none=>rfl
    |some x=>exact absurd (wO (.inr (by simp[h]))) ab
 have mq:∀m,(ν.bx (.obj m)≠none\/ν.ow (.obj m)≠none)-> .obj m∈ev s:=by
  intro m hm;refine Classical.byContradiction fun aH=>?_;obtain⟨I,J,_⟩:=jX (.obj m) ⟨trivial,aH⟩;rcases hm with hm|hm
  ·exact hm I
  ·exact hm J
 have n7:cm X ⟨iy 0 args,s.b,s.e,0,ev s⟩ {tmps:=vs++rs (fn.ntmps-vs.size) undef,defers:=[]} w ν:=by
  refine⟨⟨aS.alt,fun k cs ab=>?_,aS.inj,fun g o fb=>?_,aS.oinj,aS.obx,aS.one,aS.otr⟩,⟨rfl,rfl,rfl,cc _,fun _ _ _=>rfl,fun b o h=>⟨h,rfl⟩,fun b o h=>.inl h,fun n b h=>h,fun n b h=>mq n (.inl (by rw[h];simp)),fun m n u h=>⟨n,u,h,.inl ⟨rfl,rfl⟩⟩,fun m n u h=>mq m (.inr (by rw[h];simp)),fun k j _ _ b h=>absurd h ((af k).2.2 j b),fun k j b h=>absurd h ((af k).2.2 j b),fun k j b h=>absurd h ((af k).2.2 j b),fun _ _ _=>rfl,fun j n u b ao _=>(by rw[(af _).2.1 (lD.2 j)]at ao;cases ao)⟩,rfl,?_,fun i=>?_,jX,fun _ af=>(by cases af),fun m hm aK=>aK.2 hm⟩
  ·obtain⟨bl,us,el,g1,g2,g3⟩:=aS.box k cs ab;exact⟨bl,us,el,g1,.inl g2,g3⟩
  ·obtain⟨v,us,g1,g2,g3,g4⟩:=aS.own g o fb;exact⟨v,us,g1,g2,fun bl fc=>⟨.inl (g3 bl fc).1,(g3 bl fc).2⟩,g4⟩
  ·show(vs++rs (fn.ntmps-vs.size) undef).size=fn.ntmps;simp;omega
  ·rw[AY];by_cases aw:i<args.length
   ·rw[if_pos Ω];have pq:args[i]? =some args[i]:=cL aw;obtain⟨v,ao,aL⟩:=B0 i hr pq;have aN:(vs++rs (fn.ntmps-vs.size) undef).getD i undef=v:=by
     have nW:vs[i]? =some v:=by simpa using ao
     rw[pO,Array.getElem?_append_left Ω,nW];rfl
    show aJ w ν _ ((vs++rs (fn.ntmps-vs.size) undef).getD i undef);rw[aN];simpa[List.getD,pq]using aL
   ·rw[br Ω];simp[aJ]
 have we:=he (Nf hr) (fun j cs ai=>by obtain⟨bl,us,el,_,_,_,_,g5⟩:=aS.box j cs ai;exact M7 g5);have D1:=oD hm aE (X:=X) c code (dG dv s κ Q) _ aH we _ w ν n7;refine calls_of_wp aK ah (wp_mono D1 fun e ch w' bR=>?_);obtain⟨st',ν',⟨iR,bp⟩,cp⟩:=bR;cases h2:ba st' dv with
 |none=>simp[h2]at bp
 |some x=>
  obtain⟨hY,bj⟩:=x;simp only[h2]at bp;obtain⟨lR,al,hs'e,kb,b0,dT,⟨ok,nd,rd⟩,di⟩:=bp;obtain⟨iW,g1,g2⟩:=EL aE cp dv fn.results.toList hY bj kf h2 lR;have KZ:=wV g2;have mn:ch.defers=[]/\∃v,(results fn ch.tmps).run P w'= .ok v w'/\(fun(e:Ending) w'=> ∃v r al ν',e= .returned v/\Q r al/\aJ w' ν' r v/\Good (fun bl=>fY ν s bl\/w.heap.size<=bl) w' ν' al.b al.e/\AP (some κ) ν' al/\hV al/\ox ⟨w,ν,fY ν s,0,ev s,gl,[]⟩ w' ν') (.returned v) w':=by
   refine⟨cp.defers,?_⟩;have hq:(results fn ch.tmps).run P w'= .ok (if h:iW.toArray.size=1 then iW.toArray[0]else .tuple iW.toArray) w':=by rw[Ni];simp only[fu,Array.mapM_eq_mapM_toList,Sem.run_map,g1,fw,gq]
   have xQ:∀k,ak al k->(look k al.b).isSome/\(look k st'.b).isSome:=fun k ab=>by
    have I:(look k al.b).isSome:=by
     rcases ab with ab|ab
     ·exact ab
     ·rw[hs'e]at ab;simp[look]at ab
    obtain⟨cs,dc⟩:=fv.1 I;exact⟨I,by simp[(b0 k cs dc).1]⟩
   have fW:∀k b,k∈cb (aT bj)->lj ν' k b->∃own,look k st'.e=some own/\(X.pr b)/\b<w'.heap.size/\(∀k j,¬ν'.tr k j b)/\(∀bn,(look bn st'.b).isSome->ν'.bx bn≠some b):=by rintro k b ab ⟨n,v,I,J⟩;obtain⟨own,lB⟩:=Ej _ ok k ab;obtain⟨v0,us,jZ,kU,oi,ao3⟩:=cp.good.own k _ lB;rw[I]at jZ;simp only[ei,gY]at jZ;obtain⟨rfl,rfl⟩:=jZ;exact⟨_,lB,(oi b J).1,cp.good.ownLt lB I J,cp.good.otr b (.inr ⟨k,_,_,by simp[lB],I,J⟩),fun bn gS jE=>cp.good.obx k bn _ _ b (by simp[lB]) gS I J jE⟩
   have aeL:∀k b,k∈cb (aT bj)->lj ν' k b->w.heap.size<=b:=by
    intro k b ab fk;obtain⟨own,_,I,_,_,bA⟩:=fW k b ab fk;rcases I with I|I
    ·exfalso;rcases I with⟨bn,bH,a2⟩|⟨g,n,v,bH,_⟩
     ·cases bn with
      |loc m=>rw[lD.1 m]at bH;cases bH
      |obj m=>exact bA _ (xQ _ (zC kb _ bH)).2 (cp.fr.obj m b a2)
     ·rw[hs]at bH;simp[look]at bH
    ·exact I
   have zl:Ai ν' (fun b=> ∃k,k∈cb (aT bj)/\lj ν' k b) (cb (aT bj)):=by refine⟨cp.fr.trd,fun k bn b ab gS I J=>?_,fun k b ab h=>⟨k,ab,h⟩⟩;obtain⟨n,v,bH,a2⟩:=I;obtain⟨n',v',cq,cE⟩:=J;obtain⟨_,cF⟩:=Ej _ ok k ab;obtain⟨_,c2⟩:=Ej _ ok bn gS;exact cp.good.oinj k bn n n' v v' b (by simp[cF]) (by simp[c2]) bH cq a2 cE
   refine⟨_,hq,_,Pv.fold κ st'.e 0 (aT bj),al,ν'.fold al κ st'.e (aT bj),rfl,di,?_,?_,?_,dT,?_⟩
   ·show aJ w' (ν'.fold al κ st'.e (aT bj)) _ _;have kd:aJ w' ν' (aT bj) (if h:iW.toArray.size=1 then iW.toArray[0]else .tuple iW.toArray):=by
     match bj,iW,g2,KZ with
     |[p],[v],g2,_=>simp only[cz]at g2;obtain⟨u,bE,ao,aL,_⟩:=g2;cases ao;simpa[aT]using aL
     |[],[],g2,_=>simp[aT,aJ,cz]
     |p::gA::bj,v::v2::iW,g2,_=>rw[dif_neg Ψ];simp only[aT,aJ];exact⟨_,rfl,by simpa using g2⟩
     |[_],[],_,h=>simp at h
     |[],_::_,_,h=>simp at h
     |[_],_::_::_,_,h=>simp at h
     |_::_::_,[],_,h=>simp at h
     |_::_::_,[_],_,h=>simp at h
    refine F7 (μ:=ν'.fold al κ st'.e (aT bj)) cp.good zl (fun b bt=>?_) (fun b o h=>.inl h) (fun k ab own lB b fk o aq=>.inr ⟨k,ab,own,lB,fk,aq⟩) (aT bj) _ 0 kd ok nd (fun k ab=>ab) (fun i S aw b ho=>⟨rfl,S,by simpa using aw,ho⟩);obtain⟨k,ab,fk⟩:=bt;obtain⟨_,_,_,_,aP,_⟩:=fW k b ab fk;exact aP
   ·have mU:nR (ak al) w' ν' w' (ν'.fold al κ st'.e (aT bj)):=by
     refine⟨fun b o h=>⟨.inl h,rfl⟩,fun k b ab h=>by simp only[aQ.fold];rw[aQ.cut_bx ab];exact h,fun g n u Ba h=>?_,fun _ _ _=>rfl,fun k j b ab h=>?_⟩
     ·obtain⟨cs,dc⟩:=fv.1 (xQ g Ba).2;obtain⟨bl,us,el,ao,_⟩:=cp.good.box g cs dc;rcases cp.good.one g with I|I
      ·rw[I]at ao;cases ao
      ·rw[I]at h;cases h
     ·obtain⟨cs,dc⟩:=fv.1 (xQ k ab).2;obtain⟨bl,us,el,ao,_⟩:=cp.good.box k cs dc;rw[(cp.fr.trn k j b h).1]at ao;cases ao
    have jE:∀k bl,(ν'.fold al κ st'.e (aT bj)).bx k=some bl->ak al k/\ν'.bx k=some bl:=fun k bl h=>aQ.cut_some h;refine⟨fun bl o bf=>?_,fun k cs ab=>?_,fun k bn bl I J au aP=>?_,fun g o Ba=>?_,fun g et n n' v v' bl I=>?_,fun g k n v bl I=>?_,fun k=>.inr rfl,fun bl aE k j fR=>?_⟩
    ·rcases bf with bf|⟨k,ab,own,_,fk,_⟩
     ·exact cp.good.alt bl o bf
     ·obtain⟨_,_,_,au,_⟩:=fW k bl ab fk;exact au
    ·obtain⟨f1,f2,f3⟩:=b0 k cs ab;obtain⟨bl,us,el,ao,aL,bB,b9,ee⟩:=cp.good.box k cs f1;refine⟨bl,us,el,mU.bx k bl f2 ao,aL,fun o bf=>?_,b9,M8 mU f3 ee⟩;rcases bf with bf|⟨bn,gS,own,_,fk,_⟩
     ·exact bB o bf
     ·obtain⟨_,_,_,_,_,bA⟩:=fW bn bl gS fk;exact bA k (by simp[f1]) ao
    ·exact cp.good.inj k bn bl (xQ k (.inl I)).2 (xQ bn (.inl J)).2 (jE k bl au).2 (jE bn bl aP).2
    ·rw[hs'e]at Ba;simp[look]at Ba
    ·rw[hs'e]at I;simp[look]at I
    ·rw[hs'e]at I;simp[look]at I
    ·rcases aE with⟨bn,bH,a2⟩|⟨g,n,v,bH,_⟩
     ·obtain⟨_,S,ho,fk⟩:=fR;obtain⟨cq,cE⟩:=jE bn bl a2;rcases B7 _ j S ho bl fk with⟨dI,gj,I⟩|⟨⟨dI,i,_,I⟩,_⟩
      ·obtain⟨_,_,_,_,_,bA⟩:=fW dI bl gj I;exact bA bn (xQ bn cq).2 cE
      ·exact cp.good.otr bl (.inl ⟨bn,(xQ bn cq).2,cE⟩) dI i I
     ·rw[hs'e]at bH;simp[look]at bH
   ·intro k;refine⟨fun ab=>?_,fun _=>rfl,fun j b h=>⟨κ,rfl,h.1⟩⟩;refine(aQ.cut_no fun bR=>?_).1;have:=(xQ k bR).1;rw[ab]at this;cases this
   ·have Tf:∀j b,(ν'.fold al κ st'.e (aT bj)).tr (.loc κ) j b->w.heap.size<=b/\b<w'.heap.size:=by
     rintro j b ⟨_,S,ho,fk⟩;rcases B7 _ j S ho b fk with⟨k,ab,I⟩|⟨⟨k,i,eT,I⟩,_⟩
     ·obtain⟨_,_,_,au,_⟩:=fW k b ab I;exact⟨aeL k b ab I,au⟩
     ·have:=cp.fr.trb k i b I;exact⟨this.1.resolve_left (My _ ok _ eT),this.2⟩
    refine⟨cp.fr.os,cp.fr.tape,cp.fr.output,cp.fr.size,cp.fr.block,fun b o h=>⟨.inl (cp.fr.keep b o h).1,(cp.fr.keep b o h).2⟩,fun b o bf=>?_,fun n b h=>?_,fun n b h=>mq n (.inl (by rw[h];simp)),fun m n u h=>?_,fun m n u h=>mq m (.inr (by rw[h];simp)),fun k j bn eQ b I J=>?_,fun k j b h=>?_,fun k j b h=>?_,cp.fr.sh,fun j n u b ao aL=>(by cases ao)⟩
    ·rcases bf with bf|⟨k,ab,own,_,fk,_⟩
     ·exact cp.fr.fresh b o bf
     ·obtain⟨_,_,J,_⟩:=fW k b ab fk;exact .inr J
    ·have az:ak al (.obj n):=by
      cases lB:look (.obj n) s.b with
      |none=>rw[(af _).1 lB]at h;cases h
      |some x=>exact zC kb _ (by simp[lB])
     simp only[aQ.fold];rw[aQ.cut_bx az];exact cp.fr.obj n b h
    ·rw[(af _).2.1 (by rw[hs];rfl)]at h;cases h
    ·obtain⟨rfl,S,bH,a2⟩:=I;obtain⟨rfl,lv,cq,cE⟩:=J;exact⟨rfl,ND zl _ nd rd (fun k ab=>ab) j eQ S lv bH cq b a2 cE⟩
    ·obtain⟨rfl,_⟩:=id h;exact⟨.inr (Tf j b h).1,(Tf j b h).2⟩
    ·obtain⟨rfl,_⟩:=h;refine⟨(aQ.cut_no fun bR=>?_).1,rfl⟩;rcases bR with bR|bR
     ·rw[dT.1 κ]at bR;cases bR
     ·rw[dT.2 κ]at bR;cases bR
  rcases iR with rfl|rfl<;>exact mn
theorem FnK.mk{P:bS}(hm:P.follows .mixedOrders=true){bk:List (Nat×dh)}(aE:eW P bk=true){f:FuncId}{fn:Func}(aK:P.funcs[f]? =some fn){c:C}{dv:List ca}{n:Nat}(dM:cJ bk c dv n fn=true)
  {args:List ae} (aD:args.length<=n) {s:dJ} (lD:hV s) (hs:s.e=[]) {κ:Nat} {Q:ae->dJ->Prop} (he:gr args->(∀j cs,look j s.b=some cs->gO cs=true->gu cs)->cQ P (ev s) c (dG dv s κ Q) ⟨iy 0 args,s.b,s.e,0,ev s⟩):FnK P f κ args s Q:=by
 unfold cJ at dM;split at dM
 ·rename_i code ah;simp only[bJ,sG,fs]at dM;obtain⟨⟨⟨I,J⟩,au⟩,aP⟩:=dM;exact FnK.of hm aE aK ah au I J (Nat.le_trans aD aP) lD hs he
 ·cases dM
def iD(P:bS)(f:FuncId)(args:List ae)(r:Nat->ae):Prop:= ∀κ,FnK P f κ args ⟨[],[]⟩ fun cZ al=>cZ=r κ/\al=⟨[],[]⟩
theorem iD.mk{P:bS}(hm:P.follows .mixedOrders=true){bk:List (Nat×dh)}(aE:eW P bk=true){f:FuncId}{fn:Func}(aK:P.funcs[f]? =some fn){c:C}{dv:List ca}{n:Nat}(dM:cJ bk c dv n fn=true)
  {args:List ae} (aD:args.length<=n) {r:Nat->ae} (he:gr args->∀κ,cQ P [] c (dG dv ⟨[],[]⟩ κ fun cZ al=>cZ=r κ/\al=⟨[],[]⟩) ⟨iy 0 args,[],[],0,[]⟩):iD P f args r:=
 fun κ=>FnK.mk hm aE aK dM aD r6 rfl fun h _=>he h κ
theorem dG.val{dv:List ca}{κ:Nat}{r:ae}{e:Exit}{st:aU}(iR:e= .ret\/e= .normal)(h:match ba st dv with
  |some (c,bj)=>c/\(cX st.e (aT bj)/\(cC st.e (aT bj)).Nodup/\(cb (aT bj)).Nodup)/\fold κ st.e 0 (aT bj)=r
  |none=>dr):dG dv ⟨[],[]⟩ κ (fun cZ al=>cZ=r/\al=⟨[],[]⟩) e st:=by
 refine⟨iR,?_⟩;cases h2:ba st dv with
 |none=>simp[h2]at h
 |some x=>obtain⟨c,bj⟩:=x;simp only[h2]at h⊢;exact⟨h.1,⟨[],[]⟩,rfl,trivial,fun k cs ab=>by simp[look]at ab,r6,h.2.1,h.2.2,rfl⟩
theorem CallDo.own{P:bS}{n:Nat}{args:List ae}{st:aU}{d:aW Nat}{K:aU->Prop}{r:Nat->ae}(ab:kinL (fun _=>dr) args)(aK:iD P n args r)(tp: .loc st.n∉st.o)(h:K {st with t:=fE d (r st.n) st.t,n:=st.n+1}):CallDo P n args st d K:=by
 refine .inr ⟨⟨[],[]⟩,_,fun k cs ab=>by simp[look]at ab,fun k cs ab=>by simp[look]at ab,r6,oP (fun _ h=>h.elim) _ ab,tp,aK st.n,?_⟩;rintro cZ al ⟨rfl,rfl⟩;refine⟨⟨fun m h=>by simp[look]at h,fun m h=>by simp[look]at h⟩,?_⟩;have:({after st ⟨[],[]⟩ ⟨[],[]⟩ d (r st.n)with n:=st.n+1}:aU)={st with t:=fE d (r st.n) st.t,n:=st.n+1}:=by simp[after,Cl,ev]
 rw[this];exact h
mutual
def bV:ae->Nat
 | .slice _ _ []=>0
 | .slice _ _ (x::xs)=>1+(bV x+ct xs)
 | .agg cs=>ct cs
 |_=>0
def ct:List ae->Nat
 |[]=>0
 |x::xs=>bV x+ct xs
end
mutual
def eB:Nat->ae->ae
 |_,.slice sz _ []=>.slice sz .no []
 |b,.slice sz _ (_::xs)=>.row sz (.obj b) (xs.length+1)
 |b,.agg cs=>.agg (ha b cs)
 |_,p=>p
def ha:Nat->List ae->List ae
 |_,[]=>[]
 |b,x::xs=>eB b x::ha (b+bV x) xs
end
mutual
def dB(ε:Nat->Nat):Nat->ae->List (aC×dn)
 |b,.slice sz _ (x::xs)=>(.obj b,⟨xs.length+1,ε b,sz,some (eB (b+1) x::ha (b+1+bV x) xs)⟩)::(dB ε (b+1) x++gp ε (b+1+bV x) xs)
 |b,.agg cs=>gp ε b cs
 |_,_=>[]
def gp(ε:Nat->Nat):Nat->List ae->List (aC×dn)
 |_,[]=>[]
 |b,x::xs=>dB ε b x++gp ε (b+bV x) xs
end
theorem rQ:∀(b:Nat) (xs:List ae),(ha b xs).length=xs.length
 |_,[]=>rfl
 |b,x::xs=>by simp[ha,rQ _ xs]
mutual
theorem vb(ε:Nat->Nat):∀(p:ae) (b:Nat) (k:aC) (o:dn),look k (dB ε b p)=some o->∃m,k= .obj m/\b<=m/\m<b+bV p
 | .slice sz t (x::xs),b,k,o,h=>by
  simp only[dB,look]at h;split at h
  ·rename_i e;exact⟨b,e.symm,cc _,by simp only[bV];omega⟩
  ·rw[nH]at h;simp only[bV];cases I:look k (dB ε (b+1) x)with
   |some y=>obtain⟨m,e,fK,cR⟩:=vb ε x _ k y I;exact⟨m,e,Ω,Ω⟩
   |none=>rw[I]at h;obtain⟨m,e,fK,cR⟩:=tP ε xs _ k o h;exact⟨m,e,Ω,Ω⟩
 | .agg cs,b,k,o,h=>by simp only[dB,bV]at h⊢;exact tP ε cs b k o h
 | .slice _ _ [],_,_,_,h=>by simp[dB,look]at h
 | .int _ _,_,_,_,h=>by simp[dB,look]at h
 | .bool _,_,_,_,h=>by simp[dB,look]at h
 | .str _,_,_,_,h=>by simp[dB,look]at h
 | .junk,_,_,_,h=>by simp[dB,look]at h
 | .ptr _ _,_,_,_,h=>by simp[dB,look]at h
 | .eptr _,_,_,_,h=>by simp[dB,look]at h
 | .iface _ _,_,_,_,h=>by simp[dB,look]at h
 | .nilp,_,_,_,h=>by simp[dB,look]at h
 | .tuple _,_,_,_,h=>by simp[dB,look]at h
 | .func _ _,_,_,_,h=>by simp[dB,look]at h
 | .gmap _,_,_,_,h=>by simp[dB,look]at h
 | .row _ _ _,_,_,_,h=>by simp[dB,look]at h
 | .rptr _ _ _ _ _,_,_,_,h=>by simp[dB,look]at h
 | .hdm _ _,_,_,_,h=>by simp[dB,look]at h
 | .hdi _ _ _,_,_,_,h=>by simp[dB,look]at h
 | .cst _,_,_,_,h=>by simp[dB,look]at h
theorem tP(ε:Nat->Nat):∀(bj:List ae) (b:Nat) (k:aC) (o:dn),look k (gp ε b bj)=some o->∃m,k= .obj m/\b<=m/\m<b+ct bj
 |[],_,_,_,h=>by simp[gp,look]at h
 |x::xs,b,k,o,h=>by
  simp only[gp]at h;rw[nH]at h;simp only[ct];cases I:look k (dB ε b x)with
  |some y=>obtain⟨m,e,fK,cR⟩:=vb ε x _ k y I;exact⟨m,e,Ω,Ω⟩
  |none=>rw[I]at h;obtain⟨m,e,fK,cR⟩:=tP ε xs _ k o h;exact⟨m,e,Ω,Ω⟩
end
structure uH (F:Nat->Prop) (ω:Nat->aW (Nat×Value)) (b c:Nat):Prop where
 dom:∀m,(ω m).isSome=true↔b<=m/\m<c
 blk:∀m n u,ω m=some (n,u)->∃bl,u.ownBlock=some bl/\F bl
 inj:∀m m' n n' u eJ bl,ω m=some (n,u)->ω m'=some (n',eJ)->u.ownBlock=some bl->eJ.ownBlock=some bl->m=m'
def vH(w:World)(ω:Nat->aW (Nat×Value))(e:List (aC×dn)):Prop:= ∀μ:aQ,(∀m x,ω m=some x->μ.ow (.obj m)=some x)->
 ∀k o,look k e=some o->∃u us,μ.ow k=some (o.n,u)/\w.ownsRow 0 o.el o.sz u o.n us/\∃xs,o.xs=some xs/\xs.length=o.n/\cV w μ o.sz xs us
theorem uH.nil(F:Nat->Prop)(b:Nat):uH F (fun _=>none) b b:=⟨fun m=>by simp,fun _ _ _ h=>(by cases h),fun _ _ _ _ _ _ _ h=>by cases h⟩
def wD(c:Nat)(sE sF:Nat->aW (Nat×Value))(m:Nat):aW (Nat×Value):=if m<c then sE m else sF m
theorem TW{c:Nat}{sE sF:Nat->aW (Nat×Value)}{F:Nat->Prop}{b:Nat}(h:uH F sE b c){m:Nat}{x:Nat×Value}(af:sE m=some x):wD c sE sF m=some x:=by unfold wD;rw[if_pos ((h.dom m).1 (by rw[af];rfl)).2];exact af
theorem TY{c d:Nat}{sE sF:Nat->aW (Nat×Value)}{F:Nat->Prop}(h:uH F sF c d){m:Nat}{x:Nat×Value}(af:sF m=some x):wD c sE sF m=some x:=by unfold wD;rw[br (by have:=((h.dom m).1 (by rw[af];rfl)).1;omega)];exact af
theorem uH.join{F gJ gK:Nat->Prop}{sE sF:Nat->aW (Nat×Value)}{b c d:Nat}(I:uH gJ sE b c)(J:uH gK sF c d)(ano:b<=c)(Ko:c<=d)(f1:∀x,gJ x->F x)(f2:∀x,gK x->F x)(aI:∀x,gJ x->¬gK x):uH F (wD c sE sF) b d:=by
 refine⟨fun m=>?_,fun m n u hm=>?_,fun m m' n n' u eJ bl hm gT ah fk=>?_⟩
 ·unfold wD;split
  ·rw[I.dom];omega
  ·rw[J.dom];omega
 ·unfold wD at hm;split at hm
  ·obtain⟨bl,ao,aL⟩:=I.blk m n u hm;exact⟨bl,ao,f1 _ aL⟩
  ·obtain⟨bl,ao,aL⟩:=J.blk m n u hm;exact⟨bl,ao,f2 _ aL⟩
 ·unfold wD at hm gT;split at hm<;>split at gT
  ·exact I.inj m m' n n' u eJ bl hm gT ah fk
  ·obtain⟨_,ao,aL⟩:=I.blk m n u hm;obtain⟨_,bB,b9⟩:=J.blk m' n' eJ gT;rw[ah]at ao;rw[fk]at bB;cases ao;cases bB;exact absurd b9 (aI _ aL)
  ·obtain⟨_,ao,aL⟩:=J.blk m n u hm;obtain⟨_,bB,b9⟩:=I.blk m' n' eJ gT;rw[ah]at ao;rw[fk]at bB;cases ao;cases bB;exact absurd aL (aI _ b9)
  ·exact J.inj m m' n n' u eJ bl hm gT ah fk
theorem vH.app{w:World}{ω:Nat->aW (Nat×Value)}{e hg:List (aC×dn)}(h:vH w ω e)(cu:vH w ω hg):vH w ω (e++hg):=fun μ qe k o ab=>by
 rw[nH]at ab;cases I:look k e with
 |some y=>rw[I]at ab;cases ab;exact h μ qe k _ I
 |none=>rw[I]at ab;exact cu μ qe k o ab
theorem vH.sub{w:World}{ω Yq:Nat->aW (Nat×Value)}{e:List (aC×dn)}(h:vH w ω e)(az:∀m x,ω m=some x->Yq m=some x):vH w Yq e:=fun μ qe=>h μ fun m x af=>qe m x (az m x af)
theorem RJ{t:Bool}{w:World}{A:Nat->Nat->Prop}{sz:Nat}:∀{xs:List ae} {F:Nat->Prop} {us:List Value},jD t w A F sz xs us->us.length=xs.length*sz
 |[],_,us,h=>by simp only[jD]at h;subst h;simp
 |x::xs,F,us,h=>by
  simp only[jD]at h;obtain⟨u,bE,gJ,gK,rfl,_,⟨_,J,_⟩,bA⟩:=h;have:u.cells.toList.length=sz:=by simpa using J
  rw[gx,this,RJ bA,gg,Nat.succ_mul];omega
def o4(w:World)(F:Nat->Prop)(b c:Nat)(e:(Nat->Nat)->List (aC×dn))(R:aQ->Prop):Prop:=∃(ε:Nat->Nat) (ω:Nat->aW (Nat×Value)),uH F ω b c/\vH w ω (e ε)/\∀μ:aQ,(∀m x,ω m=some x->μ.ow (.obj m)=some x)->R μ
theorem o4.flat{w:World}{F:Nat->Prop}{b:Nat}{R:aQ->Prop}(h:∀μ,R μ):o4 w F b b (fun _=>[]) R:=⟨fun _=>0,fun _=>none,uH.nil F b,fun _ _ k o ab=>by simp[look]at ab,fun μ _=>h μ⟩
mutual
theorem H3{ε ε':Nat->Nat}:∀(p:ae) (b:Nat),(∀m,b<=m->m<b+bV p->ε m=ε' m)->dB ε b p=dB ε' b p
 | .slice sz t (x::xs),b,h=>by simp only[bV]at h;simp only[dB];rw[h b Ω Ω,H3 x (b+1) fun m I J=>h m Ω Ω,EO xs (b+1+bV x) fun m I J=>h m Ω Ω]
 | .agg cs,b,h=>by simp only[dB,bV]at h⊢;exact EO cs b h
 | .slice _ _ [],_,_=>rfl
 | .int _ _,_,_=>rfl
 | .bool _,_,_=>rfl
 | .str _,_,_=>rfl
 | .junk,_,_=>rfl
 | .ptr _ _,_,_=>rfl
 | .eptr _,_,_=>rfl
 | .iface _ _,_,_=>rfl
 | .nilp,_,_=>rfl
 | .tuple _,_,_=>rfl
 | .func _ _,_,_=>rfl
 | .gmap _,_,_=>rfl
 | .row _ _ _,_,_=>rfl
 | .rptr _ _ _ _ _,_,_=>rfl
 | .hdm _ _,_,_=>rfl
 | .hdi _ _ _,_,_=>rfl
 | .cst _,_,_=>rfl
theorem EO{ε ε':Nat->Nat}:∀(bj:List ae) (b:Nat),(∀m,b<=m->m<b+ct bj->ε m=ε' m)->gp ε b bj=gp ε' b bj
 |[],_,_=>rfl
 |x::xs,b,h=>by simp only[ct]at h;simp only[gp];rw[H3 x b fun m I J=>h m Ω Ω,EO xs (b+bV x) fun m I J=>h m Ω Ω]
end
theorem o4.two{w:World}{F gJ gK:Nat->Prop}{x:ae}{xs:List ae}{b:Nat}{OM IC R:aQ->Prop}(I:o4 w gJ b (b+bV x) (fun ε=>dB ε b x) OM)(J:o4 w gK (b+bV x) (b+bV x+ct xs) (fun ε=>gp ε (b+bV x) xs) IC)
  (f1:∀b,gJ b->F b) (f2:∀b,gK b->F b) (aI:∀b,gJ b->¬gK b) (bt:∀μ,OM μ->IC μ->R μ):o4 w F b (b+(bV x+ct xs)) (fun ε=>dB ε b x++gp ε (b+bV x) xs) R:=by
 obtain⟨ε1,sE,bH,a2,a3⟩:=I;obtain⟨ε2,sF,cF,c2,c3⟩:=J;refine⟨fun m=>if m<b+bV x then ε1 m else ε2 m,wD (b+bV x) sE sF,by rw[<-Nat.add_assoc];exact bH.join cF Ω Ω f1 f2 aI,?_,fun μ qe=>bt μ (a3 μ fun m y bG=>qe m y (TW bH bG)) (c3 μ fun m y bG=>qe m y (TY cF bG))⟩;refine vH.app ?_ ?_
 ·rw[H3 (ε':=ε1) x b fun m I J=>by rw[if_pos J]];exact a2.sub fun m y bG=>TW bH bG
 ·rw[EO (ε':=ε2) xs (b+bV x) fun m I J=>by rw[br Ω]];exact c2.sub fun m y bG=>TY cF bG
mutual
theorem NV{w:World}{A:Nat->Nat->Prop}:∀(p:ae) (F:Nat->Prop) (v:Value) (b:Nat),cB true w A F p v->o4 w F b (b+bV p) (fun ε=>dB ε b p) fun μ=>aJ w μ (eB b p) v
 | .int k n,F,v,b,h=>o4.flat fun μ=>by simpa only[cB,eB,aJ]using h
 | .bool _,F,v,b,h=>o4.flat fun μ=>by simpa only[cB,eB,aJ]using h
 | .str s,F,v,b,h=>o4.flat fun μ=>by simpa only[cB,eB,aJ]using h
 | .slice sz tag [],F,v,b,h=>o4.flat fun μ=>by simp only[cB]at h;obtain⟨a,cap,I,J,au,_⟩:=h;simp only[eB,aJ];exact⟨⟨a,cap,I,J,au,.inl trivial⟩,fun e=>(by cases e),fun _ e=>(by cases e),fun _ _ e=>(by cases e),fun _ e=>(by cases e)⟩
 | .agg cs,F,v,b,h=>by simp only[cB]at h;obtain⟨us,rfl,J⟩:=h;obtain⟨ε,ω,bH,a2,a3⟩:=Xy cs F us.toList b J;exact⟨ε,ω,bH,a2,fun μ qe=>by simp only[eB,aJ];exact⟨us,rfl,a3 μ qe⟩⟩
 | .slice sz tag (x::xs),F,v,b,h=>by
  simp only[cB]at h;obtain⟨a,cap,I,J,au,aP⟩:=h;rcases aP with aP|⟨g,off,us,G,rfl,aL,bB,b9,ee,dC⟩
  ·cases aP
  obtain⟨rfl,hp,el,gE⟩:=ee trivial;obtain⟨ε,ω,bH,a2,a3⟩:=Xx sz (x::xs) G us (b+1) dC;have hlen:=RJ dC;have SK:¬G g:=fun aS=>(bB g aS).2 trivial rfl;have wc:∃cur,w.heap[g]? =some (.cells cur el (0,0))/\cur.size=cap*sz:=by
   unfold shape at gE;split at gE
   ·rename_i cur fj fz aH;simp only[ei,gY]at gE;obtain⟨b0,rfl,rfl⟩:=gE;exact⟨cur,aH,b0⟩
   ·cases gE
  obtain⟨cur,aH,dc⟩:=wc;have hle:(x::xs).length*sz<=cur.size:=by rw[dc];exact Nat.mul_le_mul_right _ J
  have DQ:cur.toList.take ((x::xs).length*sz)=us:=by
   apply List.ext_getElem?;intro i;rw[List.getElem?_take];by_cases aw:i<(x::xs).length*sz
   ·rw[if_pos aw];obtain⟨u,hu⟩:∃u,us[i]? =some u:=⟨_,cL (by rw[hlen];exact aw)⟩;have po:=(u9 b9 hu).2;simp only[World.cell?,Nat.zero_add,aH,uu,kG,if_false]at po;rw[hu];simpa using po
   ·rw[br aw,List.getElem?_eq_none (by rw[hlen];omega)]
  have ad2:∀m y,ω m=some y->m≠b:=fun m y hm e=>by have:=(bH.dom m).1 (by rw[hm];rfl);omega
  refine⟨fun m=>if m=b then el else ε m,fun m=>if m=b then some ((x::xs).length,v)else ω m,?_,?_,?_⟩
  ·refine⟨fun m=>?_,fun m n u hm=>?_,fun m m' n n' u eJ bl hm gT ah fk=>?_⟩
   ·simp only[bV];by_cases e:m=b
    ·subst e;simp;omega
    ·rw[br e,bH.dom];simp only[ct];omega
   ·split at hm
    ·cases hm;exact⟨g,by rw[I];rfl,aL⟩
    ·obtain⟨bl,b0,cS⟩:=bH.blk m n u hm;exact⟨bl,b0,(bB bl cS).1⟩
   ·split at hm<;>split at gT
    ·rename_i b0 cS;rw[b0,cS]
    ·cases hm;obtain⟨_,b0,cS⟩:=bH.blk m' n' eJ gT;rw[fk]at b0;cases b0;rw[I]at ah;cases ah;exact absurd cS SK
    ·cases gT;obtain⟨_,b0,cS⟩:=bH.blk m n u hm;rw[ah]at b0;cases b0;rw[I]at fk;cases fk;exact absurd cS SK
    ·exact bH.inj m m' n n' u eJ bl hm gT ah fk
  ·intro μ qe k o ab;have Tt:∀m y,ω m=some y->μ.ow (.obj m)=some y:=fun m y hm=>qe m y ((br (ad2 m y hm)).trans hm);simp only[dB,look]at ab;split at ab
   ·rename_i aag;subst aag;cases ab;refine⟨v,us,?_,⟨by rw[hlen];rfl,.inr ⟨g,cap,cur,I,pT _,by simpa using aH,J,au.1,dc,DQ⟩⟩,_,rfl,by simp[rQ],?_⟩
    ·exact qe b _ Ψ
    ·exact(a3 μ Tt)
   ·have DM:(dB (fun m=>if m=b then el else ε m) (b+1) x++gp (fun m=>if m=b then el else ε m) (b+1+bV x) xs)=gp ε (b+1) (x::xs):=by simp only[gp];rw[H3 (ε':=ε) x (b+1) fun m I _=>by rw[br Ω],EO (ε':=ε) xs (b+1+bV x) fun m I _=>by rw[br Ω]]
    rw[DM]at ab;exact a2 μ Tt k o ab
  ·intro μ qe;simp only[eB,aJ];exact⟨⟨g,cap,I⟩,au.2,(x::xs).length,v,qe b _ Ψ,cc _,fun _=>rfl⟩
 | .junk,_,_,_,h=>by simp[cB]at h
 | .ptr _ _,_,_,_,h=>by simp[cB]at h
 | .eptr _,_,_,_,h=>by simp[cB]at h
 | .iface _ _,_,_,_,h=>by simp[cB]at h
 | .nilp,_,_,_,h=>by simp[cB]at h
 | .tuple _,_,_,_,h=>by simp[cB]at h
 | .func _ _,_,_,_,h=>by simp[cB]at h
 | .gmap _,_,_,_,h=>by simp[cB]at h
 | .row _ _ _,_,_,_,h=>by simp[cB]at h
 | .rptr _ _ _ _ _,_,_,_,h=>by simp[cB]at h
 | .hdm _ _,_,_,_,h=>by simp[cB]at h
 | .hdi _ _ _,_,_,_,h=>by simp[cB]at h
 | .cst _,_,_,_,h=>by simp[cB]at h
theorem Xy{w:World}{A:Nat->Nat->Prop}:∀(cs:List ae) (F:Nat->Prop) (us:List Value) (b:Nat),kr true w A F cs us->o4 w F b (b+ct cs) (fun ε=>gp ε b cs) fun μ=>ck w μ (ha b cs) us
 |[],F,us,b,h=>o4.flat fun μ=>by simpa only[kr,ha,ck]using h
 |c::cs,F,us,b,h=>by simp only[kr]at h;obtain⟨u,bE,gJ,gK,rfl,⟨f1,f2,f3⟩,⟨g1,g2⟩,g3⟩:=h;simp only[ct,gp,ha];exact(NV c gJ u b g1).two (Xy cs gK bE (b+bV c) g3) f1 f2 (f3 trivial) fun μ eZ ey=>by simp only[ck];exact⟨u,bE,rfl,⟨eZ,g2⟩,ey⟩
theorem Xx{w:World}{A:Nat->Nat->Prop}(sz:Nat):∀(cs:List ae) (F:Nat->Prop) (us:List Value) (b:Nat),jD true w A F sz cs us->o4 w F b (b+ct cs) (fun ε=>gp ε b cs) fun μ=>cV w μ sz (ha b cs) us
 |[],F,us,b,h=>o4.flat fun μ=>by simpa only[jD,ha,cV]using h
 |c::cs,F,us,b,h=>by simp only[jD]at h;obtain⟨u,bE,gJ,gK,rfl,⟨f1,f2,f3⟩,⟨g1,g2,g4⟩,g3⟩:=h;simp only[ct,gp,ha];exact(NV c gJ u b g1).two (Xx sz cs gK bE (b+bV c) g3) f1 f2 (f3 trivial) fun μ eZ ey=>by simp only[cV];exact⟨u,bE,rfl,⟨eZ,g2,g4⟩,ey⟩
end
mutual
def cr:ae->Prop
 | .int _ _=>True
 | .bool _=>True
 | .str _=>True
 | .slice sz _ xs=>0<sz/\dtL xs
 | .agg cs=>dtL cs
 |_=>dr
def dtL:List ae->Prop
 |[]=>True
 |x::xs=>cr x/\dtL xs
end
mutual
theorem JL{w:World}{ν:aQ}{F:Nat->Prop}(fO:∀b o,ν.A b o->F b):∀(p:ae) (v:Value),aJ w ν p v->cr p->cB false w ν.A F (bD p) v
 | .int k n,v,h,_=>by simpa only[aJ,bD,cB]using h
 | .bool b,v,h,_=>by simpa only[aJ,bD,cB]using h
 | .str s,v,h,_=>by simpa only[aJ,bD,cB]using h
 | .slice sz tag xs,v,h,aI=>by
  simp only[aJ]at h;simp only[cr]at aI;obtain⟨⟨a,cap,I,J,au,aP⟩,_⟩:=h;simp only[bD,cB,nc];refine⟨a,cap,I,J,au,?_⟩;rcases aP with rfl|⟨b,off,us,ao,aL,bB⟩
  ·exact .inl rfl
  ·cases xs with
   |nil=>exact .inl rfl
   |cons x xs=>
    have aD:=rf bB;have ah:F b:=by
     cases us with
     |nil=>have bA:0<(x::xs).length*sz:=Nat.mul_pos Ψ aI.1;rw[<-aD]at bA;simp at bA
     |cons u us=>exact fO b _ aL.1.1
    exact .inr ⟨b,off,us,F,ao,ah,fun c aH=>⟨aH,fun e=>(by cases e)⟩,aL,fun e=>(by cases e),QQ fO sz _ us bB aI.2⟩
 | .agg cs,v,h,aI=>by simp only[aJ,cr,bD,cB]at h aI⊢;obtain⟨us,I,J⟩:=h;exact⟨us,I,QR fO cs _ J aI⟩
 | .junk,_,_,aI=>by simp[cr]at aI
 | .ptr _ _,_,_,aI=>by simp[cr]at aI
 | .eptr _,_,_,aI=>by simp[cr]at aI
 | .iface _ _,_,_,aI=>by simp[cr]at aI
 | .nilp,_,_,aI=>by simp[cr]at aI
 | .tuple _,_,_,aI=>by simp[cr]at aI
 | .func _ _,_,_,aI=>by simp[cr]at aI
 | .gmap _,_,_,aI=>by simp[cr]at aI
 | .row _ _ _,_,_,aI=>by simp[cr]at aI
 | .rptr _ _ _ _ _,_,_,aI=>by simp[cr]at aI
 | .hdm _ _,_,_,aI=>by simp[cr]at aI
 | .hdi _ _ _,_,_,aI=>by simp[cr]at aI
 | .cst _,_,_,aI=>by simp[cr]at aI
theorem QR{w:World}{ν:aQ}{F:Nat->Prop}(fO:∀b o,ν.A b o->F b):∀(cs:List ae) (us:List Value),ck w ν cs us->dtL cs->kr false w ν.A F (bC cs) us
 |[],us,h,_=>by simpa only[ck,bC,kr]using h
 |c::cs,us,h,aI=>by simp only[ck,dtL,bC,kr]at h aI⊢;obtain⟨u,bE,I,⟨J,au⟩,aP⟩:=h;exact⟨u,bE,F,F,I,⟨fun _ h=>h,fun _ h=>h,fun e=>(by cases e)⟩,⟨JL fO c u J aI.1,au⟩,QR fO cs bE aP aI.2⟩
theorem QQ{w:World}{ν:aQ}{F:Nat->Prop}(fO:∀b o,ν.A b o->F b)(sz:Nat):∀(cs:List ae) (us:List Value),cV w ν sz cs us->dtL cs->jD false w ν.A F sz (bC cs) us
 |[],us,h,_=>by simpa only[cV,bC,jD]using h
 |c::cs,us,h,aI=>by simp only[cV,dtL,bC,jD]at h aI⊢;obtain⟨u,bE,I,⟨J,au⟩,aP⟩:=h;exact⟨u,bE,F,F,I,⟨fun _ h=>h,fun _ h=>h,fun e=>(by cases e)⟩,⟨JL fO c u J aI.1,au⟩,QQ fO sz cs bE aP aI.2⟩
end
theorem Uw{w:World}{μ:aQ}{k:aC}{sz:Nat}{tag:iY}{ys:List ae}{v:Value}(h:cB false w μ.A (μ.tr k 0) (.slice sz tag ys) v)(bG:bC ys=ys):aJ w μ (.slice sz (.lo k) ys) v:=by have I:=Gb (ν:=μ) (fun _ _ h=>h) _ _ _ h;simp only[bD,bG]at I;simp only[aJ]at I⊢;refine⟨I.1,fun e=>(by cases e),fun _ e=>(by cases e),fun _ _ e=>(by cases e),fun bn e=>?_⟩;cases e;simp only[cB]at h⊢;exact h
mutual
def lk:ae->ae
 | .int k n=>.int k n
 | .bool b=>.bool b
 | .str s=>.str s
 | .slice sz _ xs=>.slice sz (.lo cY) (bC xs)
 | .agg cs=>.agg (yp cs)
 | .ptr k o=>.ptr k o
 | .nilp=>.nilp
 |_=>.junk
def yp:List ae->List ae
 |[]=>[]
 |x::xs=>lk x::yp xs
end
mutual
def yq:ae->Prop
 | .slice sz _ xs=>0<sz/\dtL xs
 | .agg cs=>zX cs
 |_=>True
def zX:List ae->Prop
 |[]=>True
 |x::xs=>yq x/\zX xs
end
def B5(ν:aQ):aQ:={ν with tr:=fun k j b=>k=cY/\j=0/\∃o,ν.A b o}
mutual
theorem WX{w:World}{ν:aQ}:∀(p:ae) (v:Value),aJ w ν p v->yq p->aJ w (B5 ν) (lk p) v
 | .int k n,v,h,_=>by simpa only[aJ,lk]using h
 | .bool b,v,h,_=>by simpa only[aJ,lk]using h
 | .str s,v,h,_=>by simpa only[aJ,lk]using h
 | .slice sz tag xs,v,h,aI=>by have I:=JL (F:=fun b=> ∃o,ν.A b o) (fun b o h=>⟨o,h⟩) _ v h (by simpa only[cr,yq]using aI);simp only[lk];refine Uw (μ:=B5 ν) (tag:= .no) ?_ (ug xs);simp only[bD]at I;exact uU (fun _ _ h=>⟨h,rfl⟩) (fun _ _ _=>rfl) _ _ _ v (fun b ah=>⟨rfl,rfl,ah⟩) I
 | .agg cs,v,h,aI=>by simp only[aJ,lk,yq]at h aI⊢;obtain⟨us,I,J⟩:=h;exact⟨us,I,Nw cs _ J aI⟩
 | .ptr k o,v,h,_=>by simp only[aJ,lk]at h⊢;exact h
 | .nilp,v,h,_=>by simp only[aJ,lk]at h⊢;exact h
 | .junk,_,_,_=>by simp[lk,aJ]
 | .eptr _,_,_,_=>by simp[lk,aJ]
 | .iface _ _,_,_,_=>by simp[lk,aJ]
 | .tuple _,_,_,_=>by simp[lk,aJ]
 | .func _ _,_,_,_=>by simp[lk,aJ]
 | .gmap _,_,_,_=>by simp[lk,aJ]
 | .row _ _ _,_,_,_=>by simp[lk,aJ]
 | .rptr _ _ _ _ _,_,_,_=>by simp[lk,aJ]
 | .hdm _ _,_,_,_=>by simp[lk,aJ]
 | .hdi _ _ _,_,_,_=>by simp[lk,aJ]
 | .cst _,_,_,_=>by simp[lk,aJ]
theorem Nw{w:World}{ν:aQ}:∀(cs:List ae) (us:List Value),ck w ν cs us->zX cs->ck w (B5 ν) (yp cs) us
 |[],us,h,_=>by simpa only[ck,yp]using h
 |c::cs,us,h,aI=>by simp only[ck,yp,zX]at h aI⊢;obtain⟨u,bE,I,⟨J,au⟩,aP⟩:=h;exact⟨u,bE,I,⟨WX c u J aI.1,au⟩,Nw cs bE aP aI.2⟩
end
def Ia(l:List (Nat×ae)):List (Nat×ae):=l.map fun x=>(x.1,lk x.2)
def ES(l:List (aC×List ae)):List (aC×List ae):=l.map fun x=>(x.1,yp x.2)
def vn(st:aU):aU:=⟨Ia st.t,ES st.b,[],st.n,cY::st.o⟩
def H9:List (Nat×ae)->Prop
 |[]=>True
 |(_,p)::r=>yq p/\H9 r
def H8:List (aC×List ae)->Prop
 |[]=>True
 |(_,cs)::r=>(gO cs=true/\zX cs)/\H8 r
def H7(st:aU):Prop:=cY∉st.o/\H9 st.t/\H8 st.b
theorem J9{f:ae->ae}(ai:f .junk= .junk)(i:Nat):∀l:List (Nat×ae),get i (l.map fun x=>(x.1,f x.2))=f (get i l)
 |[]=>by simp[get,ai]
 |(j,p)::r=>by
  simp only[fF,get];split
  ·rfl
  ·exact J9 ai i r
theorem Hd{f:List ae->List ae}(k:aC):∀l:List (aC×List ae),look k (l.map fun x=>(x.1,f x.2))=(look k l).map f
 |[]=>rfl
 |(j,p)::r=>by
  simp only[fF,look];split
  ·rfl
  ·exact Hd k r
theorem WW:∀{l:List (Nat×ae)} (i:Nat),H9 l->yq (get i l)
 |[],_,_=>by simp[get,yq]
 |(j,p)::r,i,h=>by
  simp only[get];split
  ·exact h.1
  ·exact WW i h.2
theorem WV:∀{l:List (aC×List ae)} {k:aC} {cs:List ae},H8 l->look k l=some cs->gO cs=true/\zX cs
 |[],_,_,_,h=>by simp[look]at h
 |(j,p)::r,k,cs,h,ab=>by
  simp only[look]at ab;split at ab
  ·cases ab;exact h.1
  ·exact WV h.2 ab
theorem aju{C:eK}{st:aU}{a:Act}{w:World}{ν:aQ}(h:cm C st a w ν)(hex:C.ex=[])(aH:H7 st):cm C (vn st) a w (B5 ν):=by
 obtain⟨cF,c2,c3⟩:=aH;obtain⟨hi,gd,_⟩:=h.new cY ⟨trivial,cF⟩;have hS:∀k cs,look k (ES st.b)=some cs->∃ds,look k st.b=some ds/\cs=yp ds:=fun k cs ab=>by
  rw[ES,Hd]at ab;cases aD:look k st.b with
  |none=>rw[aD]at ab;cases ab
  |some ds=>rw[aD]at ab;cases ab;exact⟨ds,rfl,rfl⟩
 have qY:∀k,(look k (ES st.b)).isSome->(look k st.b).isSome:=fun k ab=>by obtain⟨cs,dc⟩:=fv.1 ab;obtain⟨ds,e,_⟩:=hS k cs dc;simp[e]
 refine⟨⟨h.good.alt,fun k cs ab=>?_,fun k bn bl I J=>h.good.inj k bn bl (qY k I) (qY bn J),fun g o aS=>by simp[vn,look]at aS,fun g et n n' v v' bl aS=>by simp[vn,look]at aS,fun g k n v bl aS=>by simp[vn,look]at aS,h.good.one,fun bl aE k j ah=>?_⟩,
  ⟨h.fr.os,h.fr.tape,h.fr.output,h.fr.size,h.fr.block,h.fr.keep,h.fr.fresh,h.fr.obj,h.fr.obn,h.fr.row,h.fr.obr,fun k j bn eQ b I J=>⟨I.1.trans J.1.symm,I.2.1.trans J.2.1.symm⟩,fun k j b ah=>⟨.inl ah.1,?_⟩,fun k j b ah=>by rw[ah.1];exact⟨hi,gd⟩,h.fr.sh,h.fr.nrow⟩,h.defers,h.size,fun i=>?_,fun k ab=>?_,fun x af=>(by rw[hex]at af;cases af),fun m hm aK=>h.obk m hm (rR (cc _) (fun _ h=>by simp[vn,h]) aK)⟩
 ·obtain⟨ds,ao,rfl⟩:=hS k cs ab;obtain⟨bl,us,el,g1,g2,g3,g4,g5⟩:=h.good.box k ds ao;obtain⟨ij,gA⟩:=WV c3 ao;rw[l4 ij]at g5;rw[mB ij]at g4;have g6:=Nw ds _ g5 gA;have ql:=vk g6;exact⟨bl,us,el,g1,g2,g3,by rw[mB ql];exact g4,by rw[l4 ql];exact g6⟩
 ·obtain⟨_,_,o,aq⟩:=ah;rcases aE with⟨bn,ao,aL⟩|⟨g,n,v,ao,_⟩
  ·obtain⟨ds,hG⟩:=fv.1 (qY bn ao);obtain⟨hx,us,el,g1,g2,g3,_⟩:=h.good.box bn ds hG;rw[show(B5 ν).bx bn=ν.bx bn from rfl,g1]at aL;cases aL;exact g3 o aq
  ·simp[vn,look]at ao
 ·obtain⟨_,_,o,aq⟩:=ah;exact h.good.alt b o aq
 ·show aJ w (B5 ν) (get i (Ia st.t)) _;rw[Ia,J9 (by simp[lk])];exact WX _ _ (h.slot i) (WW i c2)
 ·obtain⟨b0,cS⟩:=ab;have dT:k≠cY/\k∉st.o:=by simpa[vn]using cS
  obtain⟨m1,m2,_⟩:=h.new k ⟨b0,dT.2⟩;exact⟨m1,m2,fun j b ah=>dT.1 ah.1⟩
end
section
open Go Go.RowKit
theorem Us{w:World}{A A':Nat->Nat->Prop}{b:Nat}(bf:∀o,A b o->A' b o):∀(us:List Value) (off:Nat),kg w A b off us->kg w A' b off us
 |[],_,_=>trivial
 |_::us,off,h=>⟨⟨bf _ h.1.1,h.1.2⟩,Us bf us (off+1) h.2⟩
mutual
theorem Ga{t:Bool}{w:World}{A A':Nat->Nat->Prop}:∀(p:ae) (F:Nat->Prop) (v:Value),(∀b o,F b->A b o->A' b o)->cB t w A F p v->cB t w A' F p v
 | .int k n,_,_,_,h=>by simp only[cB]at h⊢;exact h
 | .bool b,_,_,_,h=>by simp only[cB]at h⊢;exact h
 | .str s,_,_,_,h=>by simp only[cB]at h⊢;exact h
 | .slice sz tag xs,F,v,bf,h=>by
  simp only[cB]at h⊢;obtain⟨a,cap,I,J,au,aP⟩:=h;refine⟨a,cap,I,J,au,?_⟩;rcases aP with aP|⟨b,off,us,G,ao,aL,bB,b9,ee,dC⟩
  ·exact .inl aP
  ·exact .inr ⟨b,off,us,G,ao,aL,bB,Us (fun o=>bf b o aL) _ _ b9,ee,RN sz xs G us (fun c o aH=>bf c o (bB c aH).1) dC⟩
 | .agg cs,F,v,bf,h=>by simp only[cB]at h⊢;obtain⟨us,I,J⟩:=h;exact⟨us,I,RO cs F _ bf J⟩
 | .junk,_,_,_,h=>by simp[cB]at h
 | .ptr _ _,_,_,_,h=>by simp[cB]at h
 | .eptr _,_,_,_,h=>by simp[cB]at h
 | .iface _ _,_,_,_,h=>by simp[cB]at h
 | .nilp,_,_,_,h=>by simp[cB]at h
 | .tuple _,_,_,_,h=>by simp[cB]at h
 | .func _ _,_,_,_,h=>by simp[cB]at h
 | .gmap _,_,_,_,h=>by simp[cB]at h
 | .row _ _ _,_,_,_,h=>by simp[cB]at h
 | .rptr _ _ _ _ _,_,_,_,h=>by simp[cB]at h
 | .hdm _ _,_,_,_,h=>by simp[cB]at h
 | .hdi _ _ _,_,_,_,h=>by simp[cB]at h
 | .cst _,_,_,_,h=>by simp[cB]at h
theorem RO{t:Bool}{w:World}{A A':Nat->Nat->Prop}:∀(cs:List ae) (F:Nat->Prop) (us:List Value),(∀b o,F b->A b o->A' b o)->kr t w A F cs us->kr t w A' F cs us
 |[],_,_,_,h=>by simp only[kr]at h⊢;exact h
 |c::cs,F,us,bf,h=>by simp only[kr]at h⊢;obtain⟨u,bE,gJ,gK,I,⟨J,au,aP⟩,⟨bA,cy⟩,eu⟩:=h;exact⟨u,bE,gJ,gK,I,⟨J,au,aP⟩,⟨Ga c gJ u (fun b o ah=>bf b o (J b ah)) bA,cy⟩,RO cs gK bE (fun b o ah=>bf b o (au b ah)) eu⟩
theorem RN{t:Bool}{w:World}{A A':Nat->Nat->Prop}(sz:Nat):∀(cs:List ae) (F:Nat->Prop) (us:List Value),(∀b o,F b->A b o->A' b o)->jD t w A F sz cs us->jD t w A' F sz cs us
 |[],_,_,_,h=>by simp only[jD]at h⊢;exact h
 |c::cs,F,us,bf,h=>by simp only[jD]at h⊢;obtain⟨u,bE,gJ,gK,I,⟨J,au,aP⟩,⟨bA,cy⟩,eu⟩:=h;exact⟨u,bE,gJ,gK,I,⟨J,au,aP⟩,⟨Ga c gJ u (fun b o ah=>bf b o (J b ah)) bA,cy⟩,RN sz cs gK bE (fun b o ah=>bf b o (au b ah)) eu⟩
end
mutual
def jA(N:List (aC×Nat)):ae->ae
 | .int k n=>.int k n
 | .bool b=>.bool b
 | .str s=>.str s
 | .slice sz tag xs=>match tag with
  | .tr k j=>if(k,j)∈N then .junk else .slice sz (.tr k j) (bC xs)
  | .lo k=>if(k,0)∈N then .junk else .slice sz (.lo k) (bC xs)
  | .nil=>.slice sz .nil []
  |_=>match xs with
   |[]=>.slice sz .no []
   |_=>.junk
 | .agg cs=>.agg (oB N cs)
 | .tuple cs=>.tuple (oB N cs)
 | .ptr k o=>.ptr k o
 | .nilp=>.nilp
 |_=>.junk
def oB(N:List (aC×Nat)):List ae->List ae
 |[]=>[]
 |x::xs=>jA N x::oB N xs
end
def hN(ν:aQ)(N:List (aC×Nat))(ω:Nat->aW (Nat×Value)):aQ:={A:=fun b o=>ν.A b o/\¬lh ν N b,bx:=ν.bx,ow:=fun k=>match k with| .obj m=>(match ω m with|some x=>some x|none=>ν.ow k)|k=>ν.ow k,tr:=fun k j b=>ν.tr k j b/\(k,j)∉N}
section
variable {w:World} {ν:aQ} {N:List (aC×Nat)} {ω:Nat->aW (Nat×Value)} (fR:∀k j bn eQ b,ν.tr k j b->ν.tr bn eQ b->k=bn/\j=eQ)
include fR
theorem Xw{k:aC}{j:Nat}(aM:(k,j)∉N){b o:Nat}(ah:ν.tr k j b)(bf:ν.A b o):(hN ν N ω).A b o:=by refine⟨bf,?_⟩;rintro⟨bn,eQ,I,J⟩;obtain⟨rfl,rfl⟩:=fR k j bn eQ b ah J;exact aM I
mutual
theorem IQ:∀(p:ae) (v:Value),aJ w ν p v->aJ w (hN ν N ω) (jA N p) v
 | .int k n,v,h=>by simpa only[aJ,jA]using h
 | .bool b,v,h=>by simpa only[aJ,jA]using h
 | .str s,v,h=>by simpa only[aJ,jA]using h
 | .slice sz tag xs,v,h=>by
  simp only[aJ]at h;obtain⟨⟨a,cap,I,J,au,aP⟩,bA,_,eu,gQ⟩:=h;have tu:xs=[]->aJ w (hN ν N ω) (.slice sz .no []) v:=fun e=>by subst e;simp only[aJ];exact⟨⟨a,cap,I,J,au,.inl trivial⟩,fun e=>(by cases e),fun _ e=>(by cases e),fun _ _ e=>(by cases e),fun _ e=>(by cases e)⟩
  simp only[jA];cases tag with
  |tr k j=>
   simp only;split
   ·simp[aJ]
   ·rename_i aM;refine Ip (tag:= .no) ?_ (ug xs);refine uU (A:=(hN ν N ω).A) (fun _ _ h=>⟨h,rfl⟩) (fun _ _ _=>rfl) _ (ν.tr k j) _ v (fun b ah=>⟨ah,aM⟩) ?_;exact Ga _ _ v (fun b o ah bf=>Xw fR aM ah bf) (C6 .no v (eu k j rfl))
  |lo k=>
   simp only;split
   ·simp[aJ]
   ·rename_i aM;refine Uw (tag:= .no) ?_ (ug xs);refine uU (A:=(hN ν N ω).A) (fun _ _ h=>⟨h,rfl⟩) (fun _ _ _=>rfl) _ (ν.tr k 0) _ v (fun b ah=>⟨ah,aM⟩) ?_;exact Ga _ _ v (fun b o ah bf=>Xw fR aM ah bf) (C6 .no v (gQ k rfl))
  |nil=>have e:=bA rfl;subst e;simp only[aJ];exact⟨⟨none,0,rfl,Ψ,Ψ,Ψ⟩,Ψ,fun _ e=>(by cases e),fun _ _ e=>(by cases e),fun _ e=>(by cases e)⟩
  |no=>
   simp only;split
   ·exact tu rfl
   ·simp[aJ]
  |own g=>
   simp only;split
   ·exact tu rfl
   ·simp[aJ]
 | .agg cs,v,h=>by simp only[aJ,jA]at h⊢;obtain⟨us,I,J⟩:=h;exact⟨us,I,IS cs _ J⟩
 | .tuple cs,v,h=>by simp only[aJ,jA]at h⊢;obtain⟨us,I,J⟩:=h;exact⟨us,I,O5 cs _ J⟩
 | .ptr k o,v,h=>by simp only[aJ,jA]at h⊢;exact h
 | .nilp,v,h=>by simp only[aJ,jA]at h⊢;exact h
 | .junk,_,_=>by simp[jA,aJ]
 | .eptr _,_,_=>by simp[jA,aJ]
 | .iface _ _,_,_=>by simp[jA,aJ]
 | .func _ _,_,_=>by simp[jA,aJ]
 | .gmap _,_,_=>by simp[jA,aJ]
 | .row _ _ _,_,_=>by simp[jA,aJ]
 | .rptr _ _ _ _ _,_,_=>by simp[jA,aJ]
 | .hdm _ _,_,_=>by simp[jA,aJ]
 | .hdi _ _ _,_,_=>by simp[jA,aJ]
 | .cst _,_,_=>by simp[jA,aJ]
theorem IS:∀(cs:List ae) (us:List Value),ck w ν cs us->ck w (hN ν N ω) (oB N cs) us
 |[],us,h=>by simpa only[ck,oB]using h
 |c::cs,us,h=>by simp only[ck,oB]at h⊢;obtain⟨u,bE,I,⟨J,au⟩,aP⟩:=h;exact⟨u,bE,I,⟨IQ c u J,au⟩,IS cs bE aP⟩
theorem O5:∀(cs:List ae) (us:List Value),cz w ν cs us->cz w (hN ν N ω) (oB N cs) us
 |[],us,h=>by simpa only[cz,oB]using h
 |c::cs,us,h=>by simp only[cz,oB]at h⊢;obtain⟨u,bE,I,J,aP⟩:=h;exact⟨u,bE,I,IQ c u J,O5 cs bE aP⟩
end
end
end
end Go.Pv
